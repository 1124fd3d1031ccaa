/- Plain laws: what span.Check's printed function tells of any span: the same as a plain function of it. Plain laws: span.Check and sample.Decide at any spans: their values. The pure law of SampleWeighs. SampleGreater: its walk. SampleGreater: its plain law and its walk. SampleGreater at any input. -/
import Derived.Test.YtdlnfmakfnggpaaDoorXSv
import Derived.Test.YtdlnfmakfnggpaaDoorMy
import Derived.Test.YtdlnfmakfnggpaaDoorPr0h
import Derived.Test.YtdlnfmakfnggpaaDoorPr0t
import Derived.Test.YtdlnfmakfnggpaaDoorOp
import Derived.Test.YtdlnfmakfnggpaaDoorXAm
import Derived.Test.YtdlnfmakfnggpaaDoorPrea
import Derived.Test.YtdlnfmakfnggpaaDoorPr0d
namespace Go.Proofs.YtdlnfmakfnggpaaDoor.Pr
open Go.RowKit Go.Lib Go.Proofs.YtdlnfmakfnggpaaDoorW.PrintWords
set_option linter.unusedVariables false
set_option linter.unusedSimpArgs false
namespace Mg
theorem w64 {n : Int} (h : -9223372036854775808 ≤ n) (h' : n ≤ 9223372036854775807) : wrap64 n = n := by unfold wrap64; omega
theorem w64s {n : Nat} (h : n < 9223372036854775807) : wrap64 ((n : Int) + 1) = ((n + 1 : Nat) : Int) := by unfold wrap64; omega
theorem tl (s : ByteArray) : s.toList = s.data.toList := ByteArray.toList_eq s
theorem empty_iff (s : ByteArray) : s.toList = ([] : List UInt8) ↔ s.size = 0 := by
  rw [tl]
  constructor
  · intro h; show s.data.size = 0; rw [← Array.length_toList, h]; rfl
  · intro h; have h : s.data.size = 0 := h; rw [← Array.length_toList] at h; exact List.eq_nil_of_length_eq_zero h
/-! #### plain -/
theorem pl_l0 (k : Nat) (s : ByteArray) (fr : Int) (x : Int) : span_plain.l0 (k + 1) s fr (s.size : Int) x = if x < (s.size : Int) then (if 0 ≤ x then (if x < (s.size : Int) then (if (bt s x) < fr then (some false) else (if (bt s x) = 127 then (some false) else (span_plain.l0 k s fr (s.size : Int) (wrap64 (x + 1))))) else (none)) else (none)) else (some true) := by rw [span_plain.l0]
theorem pl_loop (s : ByteArray) (fr : Int) (hs : s.size ≤ 140737488351232) : ∀ (d i : Nat), i + d = s.size → okTo s fr i = true → span_plain.l0 (d + 1) s fr (s.size : Int) (i : Int) = some (okTo s fr s.size) := by
  intro d
  induction d with
  | zero =>
    intro i hi ho
    obtain rfl : i = s.size := by omega
    rw [pl_l0, if_neg (by omega), ho]
  | succ d ih =>
    intro i hi ho
    rw [pl_l0, if_pos (by omega), if_pos (by omega), if_pos (by omega)]
    by_cases c1 : bt s (i : Int) < fr
    · rw [if_pos c1, okTo_false (s := s) (fr := fr) (k := i) (by simp [byteOK, c1]) _ (by omega)]
    rw [if_neg c1]
    by_cases c2 : bt s (i : Int) = 127
    · rw [if_pos c2, okTo_false (s := s) (fr := fr) (k := i) (by simp [byteOK, c2]) _ (by omega)]
    rw [if_neg c2, w64s (by omega)]
    exact ih (i + 1) (by omega) (by simp [okTo, ho, byteOK, c1, c2])
theorem plain_val (s : ByteArray) (most fr : Int) (hs : s.size ≤ 140737488351232) : ∃ k, span_plain.f k s most fr = some (plainF s most fr) := by
  refine ⟨s.size + 2, ?_⟩
  have j1 : ∀ b, span_plain.j0 (s.size + 2) s fr b = if b = true then some false else span_plain.l0 (s.size + 1) s fr (s.size : Int) 0 := fun b => by rw [span_plain.j0]
  unfold span_plain.f plainF
  by_cases h0 : s.size = 0
  · rw [if_pos ((empty_iff s).2 h0), j1, if_pos rfl, decide_eq_false (by omega)]; rfl
  · rw [if_neg (fun h => h0 ((empty_iff s).1 h)), decide_eq_true (show 0 < s.size by omega), Bool.true_and]
    by_cases h1 : (s.size : Int) > most
    · rw [if_pos h1, j1, if_pos rfl, decide_eq_false (by omega)]; rfl
    · rw [if_neg h1, decide_eq_true (by omega), Bool.true_and]
      unfold utf8_ValidString.f
      rw [if_pos (by omega), Option.bind_some, j1]
      cases validD s.data.toList with
      | false => rfl
      | true =>
        rw [if_neg (by decide), Bool.true_and]
        exact pl_loop s fr hs s.size 0 (by omega) rfl
/-! #### keyed -/
def alpha : ByteArray := ⟨#[97, 98, 99, 100, 101, 102, 103, 104, 105, 106, 107, 108, 109, 110, 111, 112, 113, 114, 115, 116, 117, 118, 119, 120, 121, 122, 48, 49, 50, 51, 52, 53, 54, 55, 56, 57, 46, 95, 45]⟩
/-- A letter of a key. -/
def letB (c : Int) : Bool := (decide (97 ≤ c) && decide (c ≤ 122)) || (decide (48 ≤ c) && decide (c ≤ 57)) || c == 46 || c == 95 || c == 45
theorem alpha_fin : ∀ n : Fin 256, decide (0 ≤ Lib.indexByte alpha.data.toList (UInt8.ofNat n.val)) = letB ((n.val : Nat) : Int) := by decide +kernel
theorem alpha_let (c : UInt8) : decide (0 ≤ Lib.indexByte alpha.data.toList c) = letB ((c.toNat : Nat) : Int) := by
  have h := alpha_fin ⟨c.toNat, c.toNat_lt⟩
  simpa using h
def keyTo (s : ByteArray) : Nat → Bool
  | 0 => true
  | k + 1 => keyTo s k && letB (bt s k)
def keyF (s : ByteArray) : Bool := decide (0 < s.size) && decide ((s.size : Int) ≤ 40) && (decide (97 ≤ bt s 0) && decide (bt s 0 ≤ 122)) && keyTo s s.size
theorem keyTo_false {s : ByteArray} {k : Nat} (h : letB (bt s k) = false) : ∀ n, k < n → keyTo s n = false
  | 0, hn => by omega
  | n + 1, hn => by
    rcases Nat.lt_or_ge k n with h1 | h1
    · simp [keyTo, keyTo_false h n h1]
    · obtain rfl : k = n := by omega
      simp [keyTo, h]
theorem contains_at (s : ByteArray) (i : Nat) (hi : i < s.size) : strings_Contains.f alpha (s.extract i (i + 1)) = some (letB (bt s (i : Int))) := by
  have hsz : (s.extract i (i + 1)).size = 1 := by rw [ByteArray.size_extract]; omega
  unfold strings_Contains.f
  rw [if_pos hsz]
  have hb : bt s (i : Int) = (((s.extract i (i + 1)).data.toList.headD 0).toNat : Int) := by
    unfold bt
    rw [Int.toNat_natCast, dif_pos hi]
    have : (s.extract i (i + 1)).data.toList = [s[i]] := by
      rw [ByteArray.data_extract]
      apply List.ext_getElem
      · rw [Array.length_toList, Array.size_extract]; show min (i + 1) s.size - i = 1; omega
      · intro j h1 h2
        have : j = 0 := by simp at h2; omega
        subst this
        simp
        rfl
    rw [this]; rfl
  rw [hb, ← alpha_let]
theorem key_l0 (k : Nat) (s : ByteArray) (x : Int) : span_keyed.l0 (k + 1) s (s.size : Int) x = if x < (s.size : Int) then (if 0 ≤ x then (if x ≤ (wrap64 (x + 1)) then (if (wrap64 (x + 1)) ≤ (s.size : Int) then ((strings_Contains.f alpha (s.extract (x : Int).toNat ((wrap64 (x + 1)) : Int).toNat)).bind fun t104 => (if t104 = true then (span_keyed.l0 k s (s.size : Int) (wrap64 (x + 1))) else (some false))) else (none)) else (none)) else (none)) else (some true) := by rw [span_keyed.l0]; rfl
theorem key_loop (s : ByteArray) (hs : s.size ≤ 140737488351232) : ∀ (d i : Nat), i + d = s.size → keyTo s i = true → span_keyed.l0 (d + 1) s (s.size : Int) (i : Int) = some (keyTo s s.size) := by
  intro d
  induction d with
  | zero =>
    intro i hi ho
    obtain rfl : i = s.size := by omega
    rw [key_l0, if_neg (by omega), ho]
  | succ d ih =>
    intro i hi ho
    rw [key_l0, if_pos (by omega), if_pos (by omega), w64s (by omega), if_pos (by omega), if_pos (by omega), Int.toNat_natCast, Int.toNat_natCast, contains_at s i (by omega), Option.bind_some]
    cases hl : letB (bt s (i : Int)) with
    | false => rw [if_neg (by simp), keyTo_false hl _ (by omega)]
    | true => rw [if_pos rfl]; exact ih (i + 1) (by omega) (by simp [keyTo, ho, hl])
theorem key_val (s : ByteArray) (hs : s.size ≤ 140737488351232) : ∃ k, span_keyed.f k s = some (keyF s) := by
  refine ⟨s.size + 2, ?_⟩
  have j1 : ∀ b, span_keyed.j0 (s.size + 2) s b = if b = true then some false else span_keyed.l0 (s.size + 1) s (s.size : Int) 0 := fun b => by rw [span_keyed.j0]
  unfold span_keyed.f keyF
  by_cases h0 : s.size = 0
  · rw [if_pos ((empty_iff s).2 h0), j1, if_pos rfl, decide_eq_false (by omega)]; rfl
  · rw [if_neg (fun h => h0 ((empty_iff s).1 h)), decide_eq_true (show 0 < s.size by omega), Bool.true_and]
    by_cases h1 : (s.size : Int) > 40
    · rw [if_pos h1, j1, if_pos rfl, decide_eq_false (by omega)]; rfl
    · rw [if_neg h1, decide_eq_true (show (s.size : Int) ≤ 40 by omega), Bool.true_and, if_pos (by omega)]
      by_cases h2 : bt s 0 < 97
      · rw [if_pos h2, j1, if_pos rfl, decide_eq_false (by omega)]; rfl
      · rw [if_neg h2, decide_eq_true (show 97 ≤ bt s 0 by omega), Bool.true_and, j1]
        by_cases h3 : bt s 0 > 122
        · rw [decide_eq_true h3, if_pos rfl, decide_eq_false (by omega)]; rfl
        · rw [decide_eq_false h3, if_neg (by decide), decide_eq_true (show bt s 0 ≤ 122 by omega), Bool.true_and]
          exact key_loop s hs s.size 0 (by omega) rfl
/-! #### valued, links -/
def valF (kd : Int) (tx : ByteArray) (n : Int) : Bool :=
  if kd = 0 then n == 0 && (decide ((tx.size : Int) ≤ 200) && validD tx.data.toList) else if kd = 1 then decide (tx.size = 0) else if kd = 2 then decide (tx.size = 0) && (n == 0 || n == 1) else false
theorem val_val (kd : Int) (tx : ByteArray) (n : Int) (hs : tx.size ≤ 140737488351232) : span_valued.f kd tx n = some (valF kd tx n) := by
  unfold span_valued.f valF
  by_cases h0 : kd = 0
  · rw [if_pos h0, if_pos h0]
    by_cases h1 : n = 0
    · rw [if_pos h1, beq_iff_eq.2 h1, Bool.true_and]
      by_cases h2 : (tx.size : Int) ≤ 200
      · rw [if_pos h2, decide_eq_true h2, Bool.true_and]
        unfold utf8_ValidString.f
        rw [if_pos (by omega), Option.bind_some]
      · rw [if_neg h2, decide_eq_false h2, Bool.false_and]
    · rw [if_neg h1, beq_eq_false_iff_ne.2 h1, Bool.false_and]
  · rw [if_neg h0, if_neg h0]
    have he : (tx.toList == ([] : List UInt8)) = decide (tx.size = 0) := by
      rw [Bool.eq_iff_iff, beq_iff_eq, decide_eq_true_eq]; exact empty_iff tx
    by_cases h1 : kd = 1
    · rw [if_pos h1, if_pos h1, he]
    · rw [if_neg h1, if_neg h1]
      by_cases h2 : kd = 2
      · rw [if_pos h2, if_pos h2]
        by_cases h3 : tx.size = 0
        · rw [if_pos ((empty_iff tx).2 h3), decide_eq_true h3, Bool.true_and]
          by_cases h4 : n = 0
          · rw [if_pos h4, beq_iff_eq.2 h4, Bool.true_or]
          · rw [if_neg h4, beq_eq_false_iff_ne.2 h4, Bool.false_or]
        · rw [if_neg (fun h => h3 ((empty_iff tx).1 h)), decide_eq_false h3, Bool.false_and]
      · rw [if_neg h2, if_neg h2]
/-- The link in front of the i-th. -/
def prevL (l : List Int) : Nat → Int
  | 0 => 0
  | i + 1 => rd l i
def linkTo (l : List Int) (id : Int) : Nat → Bool
  | 0 => true
  | k + 1 => linkTo l id k && (decide (prevL l k < rd l k) && !(rd l k == id))
def linkF (l : List Int) (id : Int) : Bool := linkTo l id l.length && decide ((l.length : Int) ≤ 16)
theorem linkTo_false {l : List Int} {id : Int} {k : Nat} (h : (decide (prevL l k < rd l k) && !(rd l k == id)) = false) : ∀ n, k < n → linkTo l id n = false
  | 0, hn => by omega
  | n + 1, hn => by
    rcases Nat.lt_or_ge k n with h1 | h1
    · simp only [linkTo, linkTo_false h n h1, Bool.false_and]
    · obtain rfl : k = n := by omega
      simp only [linkTo, h, Bool.and_false]
theorem link_val (a0 a1 a2 a3 : Int) (l : List Int) (a5 a6 : ByteArray) (a7 a8 a9 a10 : Int) (l11 : List S120) (l12 : List S122) (hl : l.length ≤ 140737488351232) : ∃ k, span_linked.f k a0 a1 a2 a3 l a5 a6 a7 a8 a9 a10 l11 l12 = some (linkF l a2) := by
  have key : ∀ (d i : Nat), i + d = l.length → linkTo l a2 i = true → span_linked.l0 (d + 1) (prevL l i) l (l.length : Int) (i : Int) a0 a1 a2 a3 l a5 a6 a7 a8 a9 a10 l11 l12 = some (linkF l a2) := by
    intro d
    induction d with
    | zero =>
      intro i hi ho
      obtain rfl : i = l.length := by omega
      rw [span_linked.l0, if_neg (by omega)]
      unfold linkF
      rw [ho, Bool.true_and]
    | succ d ih =>
      intro i hi ho
      rw [span_linked.l0, if_pos (by omega), if_pos (by omega), if_pos (by omega), w64s (by omega)]
      by_cases c1 : rd l (i : Int) ≤ prevL l i
      · rw [if_pos c1]; unfold linkF; rw [linkTo_false (k := i) (by rw [decide_eq_false (by omega), Bool.false_and]) _ (by omega), Bool.false_and]
      · rw [if_neg c1]
        by_cases c2 : rd l (i : Int) = a2
        · rw [if_pos c2]; unfold linkF; rw [linkTo_false (k := i) (by rw [beq_iff_eq.2 c2]; simp) _ (by omega), Bool.false_and]
        · rw [if_neg c2]
          exact ih (i + 1) (by omega) (by simp only [linkTo, ho, Bool.true_and]; rw [decide_eq_true (by omega), beq_eq_false_iff_ne.2 c2]; rfl)
  exact ⟨l.length + 1, key l.length 0 (by omega) rfl⟩
/-! #### carried -/
def keyLt (l : List S120) : Nat → Bool
  | 0 => true
  | i + 1 => Op.bytesLess (rd_T120 l (i : Int)).f0.toList (rd_T120 l ((i + 1 : Nat) : Int)).f0.toList
def carOK (l : List S120) (i : Nat) : Bool := keyF (rd_T120 l (i : Int)).f0 && (valF (rd_T120 l (i : Int)).f1.f0 (rd_T120 l (i : Int)).f1.f1 (rd_T120 l (i : Int)).f1.f2 && keyLt l i)
def carTo (l : List S120) : Nat → Bool
  | 0 => true
  | k + 1 => carTo l k && carOK l k
def carF (l : List S120) : Bool := carTo l l.length && decide ((l.length : Int) ≤ 32)
theorem carTo_false {l : List S120} {k : Nat} (h : carOK l k = false) : ∀ n, k < n → carTo l n = false
  | 0, hn => by omega
  | n + 1, hn => by
    rcases Nat.lt_or_ge k n with h1 | h1
    · simp only [carTo, carTo_false h n h1, Bool.false_and]
    · obtain rfl : k = n := by omega
      simp only [carTo, h, Bool.and_false]
def okA (l : List S120) : Prop := l.length < 2932031007402 ∧ ∀ x ∈ l, x.f0.size ≤ 140737488351232 ∧ x.f1.f1.size ≤ 140737488351232
def okE (l : List S122) : Prop := l.length < 5864062014805 ∧ ∀ x ∈ l, x.f1.size ≤ 140737488351232
theorem rd120_mem {l : List S120} {k : Nat} (h : k < l.length) : rd_T120 l (k : Int) ∈ l := by simp [rd_T120, List.getD, h]
theorem rd122_mem {l : List S122} {k : Nat} (h : k < l.length) : rd_T122 l (k : Int) ∈ l := by simp [rd_T122, List.getD, h]
theorem car_val (l : List S120) (h : okA l) : ∃ k, span_carried.f k l = some (carF l) := by
  have key : ∀ (d i : Nat), i + d = l.length → carTo l i = true → ∃ k, span_carried.l0 k l l (l.length : Int) (i : Int) = some (carF l) := by
    intro d
    induction d with
    | zero =>
      intro i hi ho
      obtain rfl : i = l.length := by omega
      refine ⟨1, ?_⟩
      rw [span_carried.l0, if_neg (by omega)]
      unfold carF
      rw [ho, Bool.true_and]
    | succ d ih =>
      intro i hi ho
      have hl := h.1
      have hx := h.2 _ (rd120_mem (l := l) (k := i) (by omega))
      obtain ⟨k1, hk1⟩ := key_val (rd_T120 l (i : Int)).f0 hx.1
      have hv := val_val (rd_T120 l (i : Int)).f1.f0 (rd_T120 l (i : Int)).f1.f1 (rd_T120 l (i : Int)).f1.f2 hx.2
      have bad : carOK l i = false → carF l = false := fun hc => by unfold carF; rw [carTo_false hc _ (by omega), Bool.false_and]
      by_cases hok : carOK l i = true
      · obtain ⟨k2, hk2⟩ := ih (i + 1) (by omega) (by simp only [carTo, ho, hok, Bool.true_and])
        have hok' := hok
        unfold carOK at hok'
        simp only [Bool.and_eq_true] at hok'
        obtain ⟨o1, o2, o3⟩ := hok'
        have m1 := at_rounds (fun k => span_keyed.mono (rd_T120 l (i : Int)).f0 k) (Nat.le_max_left k1 k2) hk1
        have m2 := at_rounds (fun k => (span_carried.mono_l k) l l (l.length : Int) ((i + 1 : Nat) : Int)) (Nat.le_max_right k1 k2) hk2
        refine ⟨max k1 k2 + 1, ?_⟩
        rw [span_carried.l0, if_pos (by omega), if_pos (by omega), if_pos (by omega), m1, Option.bind_some, o1, if_pos rfl, hv, Option.bind_some, o2, if_pos rfl, w64s (by omega)]
        cases i with
        | zero => rw [if_neg (by omega)]; exact m2
        | succ j =>
          rw [if_pos (by omega), show wrap64 (((j + 1 : Nat) : Int) - 1) = (j : Int) by unfold wrap64; omega, if_pos (by omega), if_pos (by omega), if_pos (by simpa [keyLt] using o3)]
          exact m2
      · have hok0 : carOK l i = false := by simpa using hok
        rw [bad hok0]
        refine ⟨k1 + 1, ?_⟩
        rw [span_carried.l0, if_pos (by omega), if_pos (by omega), if_pos (by omega), hk1, Option.bind_some]
        cases o1 : keyF (rd_T120 l (i : Int)).f0 with
        | false => rw [if_neg (by decide)]
        | true =>
          rw [if_pos rfl, hv, Option.bind_some]
          cases o2 : valF (rd_T120 l (i : Int)).f1.f0 (rd_T120 l (i : Int)).f1.f1 (rd_T120 l (i : Int)).f1.f2 with
          | false => rw [if_neg (by decide)]
          | true =>
            rw [if_pos rfl]
            unfold carOK at hok0
            rw [o1, o2, Bool.true_and, Bool.true_and] at hok0
            cases i with
            | zero => simp [keyLt] at hok0
            | succ j =>
              rw [if_pos (by omega), show wrap64 (((j + 1 : Nat) : Int) - 1) = (j : Int) by unfold wrap64; omega, if_pos (by omega), if_pos (by omega), if_neg (by simpa [keyLt] using hok0)]
  exact key l.length 0 (by omega) rfl
/-! #### told -/
theorem cmp_less : ∀ (a b : List UInt8), (Lib.compareBytes a b < 0 ↔ Op.bytesLess a b = true)
  | [], [] => by simp [Lib.compareBytes, Op.bytesLess]
  | [], b :: ys => by simp [Lib.compareBytes, Op.bytesLess]
  | a :: xs, [] => by simp [Lib.compareBytes, Op.bytesLess]
  | a :: xs, b :: ys => by
    have ih := cmp_less xs ys
    simp only [Lib.compareBytes, Op.bytesLess, Bool.or_eq_true, Bool.and_eq_true, decide_eq_true_eq, beq_iff_eq]
    by_cases h1 : a < b
    · simp [h1]
    · by_cases h2 : b < a
      · have h3 : ¬ a = b := fun e => by subst e; exact h1 h2
        simp [h1, h2, h3]
      · have h3 : a = b := by
          have a1 : ¬ a.toNat < b.toNat := fun h => h1 h
          have a2 : ¬ b.toNat < a.toNat := fun h => h2 h
          exact UInt8.toNat_inj.1 (by omega)
        simp [h1, h2, h3, ih]
def evLt (a b : S122) : Bool := decide (a.f0 < b.f0) || (a.f0 == b.f0 && Op.bytesLess a.f1.toList b.f1.toList)
def cmpi (a b : Int) : Int := if a < b then -1 else if a > b then 1 else 0
theorem cmpi_run (x y : Int) : cmp_Compare_int64.f x y = some (cmpi x y) := by
  simp only [cmp_Compare_int64.f, cmp_isNaN_int64.f, Option.bind_some, bne_self_eq_false, Bool.false_eq_true, if_false]
  unfold cmpi
  split
  · rfl
  · split <;> rfl
theorem or2 (x y : Int) : cmp_Or_int.f 3 [x, y] = some (if x = 0 then y else x) := by
  have w1 : wrap64 1 = 1 := by kernel_rfl
  have w2 : wrap64 2 = 2 := by kernel_rfl
  by_cases hx : x = 0
  · subst hx
    by_cases hy : y = 0
    · subst hy; simp [cmp_Or_int.f, cmp_Or_int.l0, rd, w1, w2]
    · simp [cmp_Or_int.f, cmp_Or_int.l0, rd, w1, w2, hy]
  · simp [cmp_Or_int.f, cmp_Or_int.l0, rd, w1, w2, hx]
theorem ev_val (a b : S122) : ∃ c, span_events.f 3 a.f0 a.f1 b.f0 b.f1 = some c ∧ (0 ≤ c ↔ evLt a b = false) := by
  unfold span_events.f
  rw [cmpi_run, Option.bind_some]
  unfold strings_Compare.f
  rw [Option.bind_some, or2, Option.bind_some]
  refine ⟨_, rfl, ?_⟩
  have hc := cmp_less a.f1.data.toList b.f1.data.toList
  rw [← tl, ← tl] at hc
  unfold evLt cmpi
  rw [tl, tl] at hc
  rw [tl, tl]
  generalize Op.bytesLess a.f1.data.toList b.f1.data.toList = L at *
  generalize Lib.compareBytes a.f1.data.toList b.f1.data.toList = C at *
  by_cases h1 : a.f0 < b.f0
  · simp [h1]
  · by_cases h2 : a.f0 > b.f0
    · have h3 : ¬ a.f0 = b.f0 := by omega
      simp [h1, h2, h3]
    · have h3 : a.f0 = b.f0 := by omega
      rw [h3]
      simp
      cases L with
      | true => have := hc.2 rfl; simp; omega
      | false => have : ¬ C < 0 := fun h => by have := hc.1 h; simp at this
                 simp; omega
def evPre (l : List S122) : Nat → Bool
  | 0 => true
  | i + 1 => evLt (rd_T122 l (i : Int)) (rd_T122 l ((i + 1 : Nat) : Int))
def tolOK (l : List S122) (i : Nat) : Bool := (decide (0 ≤ (rd_T122 l (i : Int)).f0) && decide ((rd_T122 l (i : Int)).f0 ≤ 4611686018427387904)) && (plainF (rd_T122 l (i : Int)).f1 100 32 && evPre l i)
def tolTo (l : List S122) : Nat → Bool
  | 0 => true
  | k + 1 => tolTo l k && tolOK l k
def tolF (l : List S122) : Bool := tolTo l l.length && decide ((l.length : Int) ≤ 32)
theorem tolTo_false {l : List S122} {k : Nat} (h : tolOK l k = false) : ∀ n, k < n → tolTo l n = false
  | 0, hn => by omega
  | n + 1, hn => by
    rcases Nat.lt_or_ge k n with h1 | h1
    · simp only [tolTo, tolTo_false h n h1, Bool.false_and]
    · obtain rfl : k = n := by omega
      simp only [tolTo, h, Bool.and_false]
theorem tol_val (l : List S122) (h : okE l) : ∃ k, span_told.f k l = some (tolF l) := by
  have key : ∀ (d i : Nat), i + d = l.length → tolTo l i = true → ∃ k, span_told.l0 k l l (l.length : Int) (i : Int) = some (tolF l) := by
    intro d
    induction d with
    | zero =>
      intro i hi ho
      obtain rfl : i = l.length := by omega
      refine ⟨1, ?_⟩
      rw [span_told.l0, if_neg (by omega)]
      unfold tolF
      rw [ho, Bool.true_and]
    | succ d ih =>
      intro i hi ho
      have hl := h.1
      have hx := h.2 _ (rd122_mem (l := l) (k := i) (by omega))
      obtain ⟨k1, hk1⟩ := plain_val (rd_T122 l (i : Int)).f1 100 32 hx
      have bad : tolOK l i = false → tolF l = false := fun hc => by unfold tolF; rw [tolTo_false hc _ (by omega), Bool.false_and]
      have hk3 : ∀ k, 3 ≤ k → ∀ (a b : S122) c, span_events.f 3 a.f0 a.f1 b.f0 b.f1 = some c → span_events.f k a.f0 a.f1 b.f0 b.f1 = some c := fun k hk a b c hc => at_rounds (fun k => span_events.mono a.f0 a.f1 b.f0 b.f1 k) hk hc
      by_cases hok : tolOK l i = true
      · obtain ⟨k2, hk2⟩ := ih (i + 1) (by omega) (by simp only [tolTo, ho, hok, Bool.true_and])
        have hok' := hok
        unfold tolOK at hok'
        simp only [Bool.and_eq_true, decide_eq_true_eq] at hok'
        obtain ⟨⟨o1, o2⟩, o3, o4⟩ := hok'
        obtain ⟨K, hK⟩ : ∃ K, K = max (max k1 k2) 3 := ⟨_, rfl⟩
        have m1 := at_rounds (fun k => span_plain.mono (rd_T122 l (i : Int)).f1 100 32 k) (show k1 ≤ K by omega) hk1
        have m2 := at_rounds (fun k => (span_told.mono_l k) l l (l.length : Int) ((i + 1 : Nat) : Int)) (show k2 ≤ K by omega) hk2
        refine ⟨K + 1, ?_⟩
        rw [span_told.l0, if_pos (by omega), if_pos (by omega), if_pos (by omega), if_neg (by omega), if_neg (by omega), m1, Option.bind_some, o3, if_pos rfl, w64s (by omega)]
        cases i with
        | zero => rw [if_neg (by omega)]; exact m2
        | succ j =>
          obtain ⟨c, hc, hcc⟩ := ev_val (rd_T122 l (j : Int)) (rd_T122 l ((j + 1 : Nat) : Int))
          rw [if_pos (by omega), show wrap64 (((j + 1 : Nat) : Int) - 1) = (j : Int) by unfold wrap64; omega, if_pos (by omega), if_pos (by omega), hk3 K (by omega) _ _ _ hc, Option.bind_some, if_neg (fun h0 => by have o5 : evLt (rd_T122 l (j : Int)) (rd_T122 l ((j + 1 : Nat) : Int)) = true := o4; rw [hcc.1 h0] at o5; cases o5)]
          exact m2
      · have hok0 : tolOK l i = false := by simpa using hok
        rw [bad hok0]
        obtain ⟨K, hK⟩ : ∃ K, K = max k1 3 := ⟨_, rfl⟩
        have m1 := at_rounds (fun k => span_plain.mono (rd_T122 l (i : Int)).f1 100 32 k) (show k1 ≤ K by omega) hk1
        refine ⟨K + 1, ?_⟩
        rw [span_told.l0, if_pos (by omega), if_pos (by omega), if_pos (by omega)]
        by_cases o1 : (rd_T122 l (i : Int)).f0 < 0
        · rw [if_pos o1]
        rw [if_neg o1]
        by_cases o2 : (rd_T122 l (i : Int)).f0 > 4611686018427387904
        · rw [if_pos o2]
        rw [if_neg o2, m1, Option.bind_some]
        cases o3 : plainF (rd_T122 l (i : Int)).f1 100 32 with
        | false => rw [if_neg (by decide)]
        | true =>
          rw [if_pos rfl]
          unfold tolOK at hok0
          rw [decide_eq_true (by omega), decide_eq_true (by omega), o3, Bool.true_and, Bool.true_and, Bool.true_and] at hok0
          cases i with
          | zero => simp [evPre] at hok0
          | succ j =>
            obtain ⟨c, hc, hcc⟩ := ev_val (rd_T122 l (j : Int)) (rd_T122 l ((j + 1 : Nat) : Int))
            rw [if_pos (by omega), show wrap64 (((j + 1 : Nat) : Int) - 1) = (j : Int) by unfold wrap64; omega, if_pos (by omega), if_pos (by omega), hk3 K (by omega) _ _ _ hc, Option.bind_some, if_pos (hcc.2 (by simpa [evPre] using hok0))]
  exact key l.length 0 (by omega) rfl
end Mg
end Go.Proofs.YtdlnfmakfnggpaaDoor.Pr
namespace Go.Proofs.YtdlnfmakfnggpaaDoor.Pr
open Go.RowKit Go.Lib Go.Proofs.YtdlnfmakfnggpaaDoorW.PrintWords
set_option linter.unusedVariables false
set_option linter.unusedSimpArgs false
namespace Mg
/-- What is known of a span that came in. -/
structure okS (x : S43) : Prop where
  links : x.f3.length < 17592186044416
  sv : x.f4.size ≤ 140737488351232
  op : x.f5.size ≤ 140737488351232
  attrs : okA x.f10
  events : okE x.f11
  id : 0 ≤ x.f1 ∧ x.f1 ≤ 18446744073709551615
def chkS (x : S43) : Int := checkF x.f0.f0 x.f0.f1 x.f1 (plainF x.f4 60 33) (plainF x.f5 100 32) x.f6 x.f7 x.f8 x.f9 (linkF x.f3 x.f1) (carF x.f10) (tolF x.f11)
theorem check_val (x : S43) (h : okS x) : ∃ k, chkO k x = some (chkS x) := by
  obtain ⟨k1, h1⟩ := plain_val x.f4 60 33 h.sv
  obtain ⟨k2, h2⟩ := plain_val x.f5 100 32 h.op
  obtain ⟨k3, h3⟩ := link_val x.f0.f0 x.f0.f1 x.f1 x.f2 x.f3 x.f4 x.f5 x.f6 x.f7 x.f8 x.f9 x.f10 x.f11 (by have := h.links; omega)
  obtain ⟨k4, h4⟩ := car_val x.f10 h.attrs
  obtain ⟨k5, h5⟩ := tol_val x.f11 h.events
  obtain ⟨K, hK⟩ : ∃ K, K = max (max (max (max k1 k2) k3) k4) k5 := ⟨_, rfl⟩
  have m1 : ∀ k, K ≤ k → _ := fun k hk => at_rounds (fun k => span_plain.mono x.f4 60 33 k) (show k1 ≤ k by omega) h1
  have m2 : ∀ k, K ≤ k → _ := fun k hk => at_rounds (fun k => span_plain.mono x.f5 100 32 k) (show k2 ≤ k by omega) h2
  have m3 : ∀ k, K ≤ k → _ := fun k hk => at_rounds (fun k => span_linked.mono x.f0.f0 x.f0.f1 x.f1 x.f2 x.f3 x.f4 x.f5 x.f6 x.f7 x.f8 x.f9 x.f10 x.f11 k) (show k3 ≤ k by omega) h3
  have m4 : ∀ k, K ≤ k → _ := fun k hk => at_rounds (fun k => span_carried.mono x.f10 k) (show k4 ≤ k by omega) h4
  have m5 : ∀ k, K ≤ k → _ := fun k hk => at_rounds (fun k => span_told.mono x.f11 k) (show k5 ≤ k by omega) h5
  refine ⟨K + 4, ?_⟩
  unfold chkO chkS checkF
  generalize x.f0.f0 = hi at *
  generalize x.f0.f1 = lo at *
  generalize x.f1 = id at *
  generalize x.f6 = kd at *
  generalize x.f7 = st at *
  generalize x.f8 = s0 at *
  generalize x.f9 = s1 at *
  generalize plainF x.f4 60 33 = ps at *
  generalize plainF x.f5 100 32 = po at *
  generalize linkF x.f3 id = bl at *
  generalize carF x.f10 = bc at *
  generalize tolF x.f11 = bt at *
  have J3 : ∀ b, span_Check.j3 (K + 1) b hi lo id x.f2 x.f3 x.f4 x.f5 kd st s0 s1 x.f10 x.f11 = if b = true then some 44 else if bl = false then some 45 else if bc = false then some 46 else if bt = false then some 47 else some 0 := fun b => by
    rw [span_Check.j3, m3 K (Nat.le_refl _), Option.bind_some, m4 K (Nat.le_refl _), Option.bind_some, m5 K (Nat.le_refl _), Option.bind_some]
    cases b <;> cases bl <;> cases bc <;> cases bt <;> rfl
  have J2 : ∀ b, span_Check.j2 (K + 2) b hi lo id x.f2 x.f3 x.f4 x.f5 kd st s0 s1 x.f10 x.f11 = if b = true then some 43 else if ((kd < 0 ∨ 4 < kd) ∨ st < 0) ∨ 2 < st then some 44 else if bl = false then some 45 else if bc = false then some 46 else if bt = false then some 47 else some 0 := fun b => by
    rw [span_Check.j2]
    simp only [J3]
    cases b with
    | true => rfl
    | false =>
      rw [if_neg (show ¬ (false = true) by decide)]
      by_cases c1 : kd < 0
      · simp [c1]
      · by_cases c2 : kd > 4
        · simp [c1, c2]
        · by_cases c3 : st < 0
          · simp [c1, c2, c3]
          · by_cases c4 : st > 2 <;> simp [c1, c2, c3, c4]
  have J1 : ∀ b, span_Check.j1 (K + 3) b hi lo id x.f2 x.f3 x.f4 x.f5 kd st s0 s1 x.f10 x.f11 = if b = true then some 42 else if ps = false ∨ po = false then some 43 else if ((kd < 0 ∨ 4 < kd) ∨ st < 0) ∨ 2 < st then some 44 else if bl = false then some 45 else if bc = false then some 46 else if bt = false then some 47 else some 0 := fun b => by
    rw [span_Check.j1, m1 (K + 2) (by omega), Option.bind_some, m2 (K + 2) (by omega), Option.bind_some]
    simp only [J2]
    cases b <;> cases ps <;> cases po <;> simp
  have J0 : ∀ b, span_Check.j0 (K + 4) b hi lo id x.f2 x.f3 x.f4 x.f5 kd st s0 s1 x.f10 x.f11 = if b = true then some 41 else if (s0 < 0 ∨ s1 < s0) ∨ 4611686018427387904 < s1 then some 42 else if ps = false ∨ po = false then some 43 else if ((kd < 0 ∨ 4 < kd) ∨ st < 0) ∨ 2 < st then some 44 else if bl = false then some 45 else if bc = false then some 46 else if bt = false then some 47 else some 0 := fun b => by
    rw [span_Check.j0]
    simp only [J1]
    cases b with
    | true => rfl
    | false =>
      rw [if_neg (show ¬ (false = true) by decide)]
      by_cases c1 : s0 < 0
      · simp [c1]
      · by_cases c2 : s0 > s1
        · simp [c1, c2]
        · by_cases c3 : s1 > 4611686018427387904 <;> simp [c1, c2, c3]
  unfold span_Check.f
  rw [J0, J0]
  have hm : ∀ (p : Prop) [Decidable p] (a b : Int), (if p then some a else some b) = some (if p then a else b) := fun p _ a b => by split <;> rfl
  simp only [hm]
  by_cases c1 : (hi == 0 && (lo == 0)) = true
  · rw [if_pos c1]
    simp only [Bool.and_eq_true, beq_iff_eq] at c1
    rw [if_pos (Or.inl c1), if_pos trivial]
  · rw [if_neg c1]
    simp only [Bool.and_eq_true, beq_iff_eq] at c1
    by_cases c2 : id = 0
    · rw [if_pos (Or.inr c2), if_pos (beq_iff_eq.2 c2)]
    · rw [if_neg (show ¬ ((hi = 0 ∧ lo = 0) ∨ id = 0) by rintro (h | h); exact c1 h; exact c2 h), if_neg (by simpa using c2)]
theorem chk_mono (x : S43) (k : Nat) : LeO (chkO k x) (chkO (k + 1) x) := span_Check.mono _ _ _ _ _ _ _ _ _ _ _ _ _ k
theorem checks_val : ∀ (l : List S43), (∀ x ∈ l, okS x) → ∃ k, ∀ x ∈ l, chkO k x = some (chkS x)
  | [], _ => ⟨0, fun x hx => by simp at hx⟩
  | a :: r, h => by
    obtain ⟨k1, h1⟩ := checks_val r (fun x hx => h x (by simp [hx]))
    obtain ⟨k2, h2⟩ := check_val a (h a (by simp))
    refine ⟨max k1 k2, fun x hx => ?_⟩
    rcases List.mem_cons.1 hx with rfl | hx
    · exact at_rounds (fun k => chk_mono x k) (Nat.le_max_right _ _) h2
    · exact at_rounds (fun k => chk_mono x k) (Nat.le_max_left _ _) (h1 x hx)
/-! #### took -/
def minS (l : List S43) : Nat → Int
  | 0 => (rd_T43 l 0).f8
  | k + 1 => mn (minS l k) (rd_T43 l (k : Int)).f8
def maxE (l : List S43) : Nat → Int
  | 0 => (rd_T43 l 0).f9
  | k + 1 => mx (maxE l k) (rd_T43 l (k : Int)).f9
def tookV (l : List S43) : Int := IntKind.u64.wrap (wrap64 (maxE l l.length - minS l l.length))
theorem took_val (l : List S43) (h0 : 0 < l.length) (hl : l.length ≤ 140737488351232) : ∃ k, sample_took.f k l = some (tookV l) := by
  have key : ∀ (d i : Nat), i + d = l.length → sample_took.l0 (d + 1) (minS l i) (maxE l i) l (l.length : Int) (i : Int) = some (tookV l) := by
    intro d
    induction d with
    | zero =>
      intro i hi
      obtain rfl : i = l.length := by omega
      rw [sample_took.l0, if_neg (by omega)]; rfl
    | succ d ih =>
      intro i hi
      rw [sample_took.l0, if_pos (by omega), if_pos (by omega), if_pos (by omega), w64s (by omega)]
      exact ih (i + 1) (by omega)
  refine ⟨l.length + 1, ?_⟩
  unfold sample_took.f
  rw [if_pos (by omega)]
  exact key l.length 0 (by omega)
/-! #### Decide -/
def decV (l0 : List S30) (l1 : List S43) : Option (Bool × Int × Int × Int × Int) :=
  if polF l0 = 0 then (if oneF chkS l1 = true then (if l1.length = 0 then some (false, -1, 0, 0, 0) else (sample_Mix.f (rd_T43 l1 0).f0.f0 (rd_T43 l1 0).f0.f1).bind fun mx => decTail l0 l1 (tookV l1) mx) else some (false, 0, 0, 0, 101)) else some (false, 0, 0, 0, polF l0)
theorem decide_val (l0 : List S30) (l1 : List S43) (h0 : ∀ x ∈ l0, x.f2.size ≤ 140737488351232) (h1 : ∀ x ∈ l1, okS x) (hl : l1.length ≤ 140737488351232) (r : Bool × Int × Int × Int × Int) (hv : decV l0 l1 = some r) : ∃ k, sample_Decide.f k l0 l1 = some r := by
  have hc : sample_Check.f l0 = some (polF l0) := by
    unfold sample_Check.f
    rw [if_pos (List.all_eq_true.2 (fun x hx => by have := h0 x hx; simp; omega))]
  unfold decV at hv
  by_cases hz : polF l0 = 0
  · rw [if_pos hz] at hv
    obtain ⟨k1, hk1⟩ := checks_val l1 h1
    have hall : ∀ k, k1 ≤ k → (l1.all fun x => (chkO k x).isSome && decide (0 ≤ x.f1) && decide (x.f1 ≤ 18446744073709551615)) = true := fun k hk => by
      rw [List.all_eq_true]
      intro x hx
      have hid := (h1 x hx).id
      rw [at_rounds (fun k => chk_mono x k) hk (hk1 x hx), decide_eq_true hid.1, decide_eq_true hid.2]; rfl
    have hone : ∀ k, k1 ≤ k → oneF (chkK k) l1 = oneF chkS l1 := fun k hk => oneF_congr (fun x hx => by
      unfold chkK; rw [at_rounds (fun k => chk_mono x k) hk (hk1 x hx)]; rfl)
    by_cases ho : oneF chkS l1 = true
    · rw [if_pos ho] at hv
      by_cases hl0 : l1.length = 0
      · refine ⟨k1, ?_⟩
        unfold sample_Decide.f
        rw [hc, Option.bind_some, if_pos hz, if_pos (hall _ (Nat.le_refl _)), hone _ (Nat.le_refl _), if_pos ho, if_pos hl0]
        rwa [if_pos hl0] at hv
      · rw [if_neg hl0] at hv
        obtain ⟨k2, hk2⟩ := took_val l1 (by omega) hl
        refine ⟨max k1 k2, ?_⟩
        unfold sample_Decide.f
        rw [hc, Option.bind_some, if_pos hz, if_pos (hall _ (Nat.le_max_left _ _)), hone _ (Nat.le_max_left _ _), if_pos ho, if_neg hl0, at_rounds (fun k => sample_took.mono l1 k) (Nat.le_max_right k1 k2) hk2, Option.bind_some]
        exact hv
    · rw [if_neg ho] at hv
      refine ⟨k1, ?_⟩
      unfold sample_Decide.f
      rw [hc, Option.bind_some, if_pos hz, if_pos (hall _ (Nat.le_refl _)), hone _ (Nat.le_refl _), if_neg ho]
      exact hv
  · rw [if_neg hz] at hv
    refine ⟨0, ?_⟩
    unfold sample_Decide.f
    rw [hc, Option.bind_some, if_neg hz]
    exact hv
/-! #### the fold over policies -/
def maxP (l : List S30) : Nat → Int
  | 0 => 0
  | k + 1 => max (maxP l k) (rd_T30 l (k : Int)).f3
theorem rd30_mem {l : List S30} {k : Nat} (h : k < l.length) : rd_T30 l (k : Int) ∈ l := by simp [rd_T30, List.getD, h]
theorem take_any (l : List S30) (p : S30 → Bool) (k : Nat) (h : k < l.length) : (l.take (k + 1)).any p = ((l.take k).any p || p (rd_T30 l (k : Int))) := by
  rw [List.take_succ_eq_append_getElem h, List.any_append]
  simp [rd_T30, List.getD, h]
theorem dst_val (hf : S30 → Bool) (l : List S30) : ∀ n, n ≤ l.length → (dst hf l n).1 = maxP l n ∧ (dst hf l n).2.1 = (l.take n).any (fun p => hf p && (p.f0 != 4)) ∧ (dst hf l n).2.2.1 = (l.take n).any hf ∧ ((l.take n).any hf = false → (dst hf l n).2.2.2 = -1)
  | 0, _ => by simp [dst, maxP]
  | n + 1, hn => by
    obtain ⟨a, b, c, d⟩ := dst_val hf l n (by omega)
    rw [dst_succ, take_any l _ n (by omega), take_any l _ n (by omega)]
    unfold dstep
    refine ⟨by rw [a]; rfl, ?_, ?_, ?_⟩
    · simp only [b]; cases hf (rd_T30 l (n : Int)) <;> simp
    · simp only [c]; cases hf (rd_T30 l (n : Int)) <;> simp
    · intro he
      simp only [Bool.or_eq_false_iff] at he
      simp only [he.2, Bool.false_eq_true, if_false]
      exact d he.1
end Mg
end Go.Proofs.YtdlnfmakfnggpaaDoor.Pr
namespace Go.Proofs.YtdlnfmakfnggpaaDoor.Pr
open Go.RowKit Go.Lib Go.Proofs.YtdlnfmakfnggpaaDoorW.PrintWords Go.Proofs.YtdlnfmakfnggpaaDoorW.PrintMore
set_option linter.unusedVariables false
set_option linter.unusedSimpArgs false
namespace Mg
/-! #### what came in -/
theorem reach_eq : reachBytes = 140737488351232 := by unfold reachBytes; rfl
theorem b36 : Tryd.prog.bytesOf 36 = 8 := by kernel_rfl
theorem b120 : Tryd.prog.bytesOf 120 = 48 := by kernel_rfl
theorem b122 : Tryd.prog.bytesOf 122 = 24 := by kernel_rfl
theorem b43 : 168 ≤ Tryd.prog.bytesOf 43 := of_decide_eq_true (by kernel_rfl)
theorem okS_of {x : S43} (h : ok43 x) : okS x := by
  obtain ⟨_, h1, _, ⟨h3, _⟩, h4, h5, _, _, _, _, ⟨h10, h10'⟩, h11, h11'⟩ := h
  rw [b36, reach_eq] at h3
  rw [b120, reach_eq] at h10
  rw [b122, reach_eq] at h11
  have hid : 0 ≤ x.f1 ∧ x.f1 ≤ 18446744073709551615 := by simpa [Lit.wf, IntKind.min, IntKind.max, IntKind.signed, IntKind.bits] using h1
  exact ⟨by omega, h4, h5, ⟨by omega, fun y hy => ⟨(h10' y hy).1, (h10' y hy).2.2.1⟩⟩, ⟨by omega, fun y hy => (h11' y hy).2⟩, hid⟩
/-! #### renamed -/
def ren (hi lo : Int) (s : S43) : S43 := ⟨⟨hi, lo⟩, s.f1, s.f2, s.f3, s.f4, s.f5, s.f6, s.f7, s.f8, s.f9, s.f10, s.f11⟩
theorem okS_ren {x : S43} (hi lo : Int) (h : okS x) : okS (ren hi lo x) := ⟨h.links, h.sv, h.op, h.attrs, h.events, h.id⟩
theorem clone_val (x : S43) (h : okS x) : spoorref04_Clone.f x.f0.f0 x.f0.f1 x.f1 x.f2 x.f3 x.f4 x.f5 x.f6 x.f7 x.f8 x.f9 x.f10 x.f11 = some (x.f0.f0, x.f0.f1, x.f1, x.f2, x.f3, x.f4, x.f5, x.f6, x.f7, x.f8, x.f9, x.f10, x.f11) := by
  have h1 := h.links
  have h2 := h.attrs.1
  have h3 := h.events.1
  unfold spoorref04_Clone.f
  simp only [Option.bind_some, List.length_nil, Nat.zero_add, List.nil_append]
  rw [if_pos h1, if_pos h2, if_pos h3]
theorem renamed_val (l : List S43) (hi lo : Int) (h : ∀ x ∈ l, okS x) (hl : l.length ≤ 837723144971) : ∃ k, spoorlaw21_renamed.f k l hi lo = some (l.map (ren hi lo)) := by
  have key : ∀ (d i : Nat), i + d = l.length → spoorlaw21_renamed.l0 (d + 1) l ((l.take i).map (ren hi lo)) (i : Int) hi lo = some (l.map (ren hi lo)) := by
    intro d
    induction d with
    | zero =>
      intro i hi'
      obtain rfl : i = l.length := by omega
      rw [spoorlaw21_renamed.l0, if_neg (by omega), List.take_length]
    | succ d ih =>
      intro i hi'
      have hil : i < l.length := by omega
      rw [spoorlaw21_renamed.l0, if_pos (by omega), if_pos (by omega), clone_val _ (h _ (rd43_mem hil)), Option.bind_some, if_pos (by rw [List.length_map, List.length_take]; omega), w64s (by omega)]
      have := ih (i + 1) (by omega)
      rw [List.take_succ_eq_append_getElem hil, List.map_append] at this
      have e : rd_T43 l (i : Int) = l[i] := by simp [rd_T43, List.getD, hil]
      rw [e]
      exact this
  exact ⟨l.length + 1, key l.length 0 (by omega)⟩
/-! #### weight -/
theorem weight_val (l : List S43) (hl : l.length ≤ 140737488351232) : ∃ k v, spoorlaw21_weight.f k l = some v := by
  have key : ∀ (d i : Nat) (n : Int), i + d = l.length → ∃ v, spoorlaw21_weight.l0 (d + 1) l n (i : Int) = some v := by
    intro d
    induction d with
    | zero =>
      intro i n hi
      rw [spoorlaw21_weight.l0, if_neg (by omega)]; exact ⟨_, rfl⟩
    | succ d ih =>
      intro i n hi
      rw [spoorlaw21_weight.l0, if_pos (by omega)]
      by_cases c : n ≤ 2147483647
      · rw [if_pos c, if_pos (by omega), w64s (by omega)]; exact ih (i + 1) _ (by omega)
      · rw [if_neg c]; exact ⟨_, rfl⟩
  obtain ⟨v, hv⟩ := key l.length 0 0 (by omega)
  exact ⟨_, v, hv⟩
/-! #### policies that may be -/
theorem pol_zero {l : List S30} (h : polF l = 0) : l.length ≤ 20 ∧ ∀ x ∈ l, mayS x = true := by
  unfold polF at h
  by_cases c : 20 < l.length
  · rw [if_pos c] at h; omega
  · rw [if_neg c] at h
    refine ⟨by omega, fun x hx => ?_⟩
    by_cases c2 : (l.any fun x => !mayS x) = true
    · rw [if_pos c2] at h; omega
    · simp only [List.any_eq_true, not_exists, not_and, Bool.not_eq_true', Bool.not_eq_false] at c2
      exact c2 x hx
theorem pol_of {l : List S30} (h : l.length ≤ 20) (hm : ∀ x ∈ l, mayS x = true) : polF l = 0 := by
  unfold polF
  rw [if_neg (by omega), if_neg]
  simp only [List.any_eq_true, not_exists, not_and, Bool.not_eq_true', Bool.not_eq_false]
  exact hm
theorem may_part {x : S30} (h : mayS x = true) : (x.f0 = 4 → 0 ≤ x.f3 ∧ x.f3 ≤ 65536) ∧ (x.f0 ≠ 4 → x.f3 = 0) := by
  unfold mayS mayF at h
  constructor
  · intro e
    rw [e] at h
    simp at h
    omega
  · intro e
    by_cases e3 : x.f0 = 3
    · rw [e3] at h; simp at h; omega
    · simp [e, e3] at h; omega
theorem maxP_bd {l : List S30} (hm : ∀ x ∈ l, mayS x = true) : ∀ n, n ≤ l.length → 0 ≤ maxP l n ∧ maxP l n ≤ 65536
  | 0, _ => by simp [maxP]
  | n + 1, hn => by
    have ih := maxP_bd hm n (by omega)
    have h := may_part (hm _ (rd30_mem (l := l) (k := n) (by omega)))
    simp only [maxP]
    by_cases e : (rd_T30 l (n : Int)).f0 = 4
    · have := h.1 e; omega
    · have := h.2 e; omega
/-- A policy of the last kind keeps just what the greatest part keeps. -/
theorem any_part {l : List S30} (hm : ∀ x ∈ l, mayS x = true) (p : Int) (hp : 0 ≤ p) (hf : S30 → Bool) (h4 : ∀ x ∈ l, x.f0 = 4 → hf x = decide (p < x.f3)) (hs : ∀ x ∈ l, x.f0 ≠ 4 → hf x = false) : ∀ n, n ≤ l.length → (l.take n).any hf = decide (p < maxP l n)
  | 0, _ => by rw [List.take_zero, List.any_nil, decide_eq_false (show ¬ p < maxP l 0 by unfold maxP; omega)]
  | n + 1, hn => by
    have ih := any_part hm p hp hf h4 hs n (by omega)
    have hx := rd30_mem (l := l) (k := n) (by omega)
    have h := may_part (hm _ hx)
    rw [take_any l hf n (by omega), ih]
    have em : maxP l (n + 1) = max (maxP l n) (rd_T30 l (n : Int)).f3 := rfl
    by_cases e : (rd_T30 l (n : Int)).f0 = 4
    · rw [h4 _ hx e, Bool.eq_iff_iff, Bool.or_eq_true, decide_eq_true_eq, decide_eq_true_eq, decide_eq_true_eq, em]; omega
    · have e3 := h.2 e
      rw [hs _ hx e, Bool.eq_iff_iff, Bool.or_false, decide_eq_true_eq, decide_eq_true_eq, em]; omega
def hfM (R : List S43) (m : Int) : S30 → Bool := fun p => holdsF p R (tookV R) m
def sureL (l : List S30) : List S30 := l.filter (fun p => p.f0 != 4)
theorem decTail_some (l : List S30) (R : List S43) (m : Int) (h : ¬ ((dst (hfM R m) l l.length).2.1 = false ∧ (dst (hfM R m) l l.length).2.2.1 = true ∧ IntKind.u64.wrap (dst (hfM R m) l l.length).1 = 0)) :
    decTail l R (tookV R) m = some ((dst (hfM R m) l l.length).2.2.1, (dst (hfM R m) l l.length).2.2.2, 0, wtF (dst (hfM R m) l l.length), 0) := by
  unfold decTail
  exact if_neg h
end Mg
end Go.Proofs.YtdlnfmakfnggpaaDoor.Pr
namespace Go.Proofs.YtdlnfmakfnggpaaDoor.Pr
open Go.RowKit Go.Lib Go.Proofs.YtdlnfmakfnggpaaDoorW.PrintWords Go.Proofs.YtdlnfmakfnggpaaDoorW.PrintLast Go.Proofs.YtdlnfmakfnggpaaDoorW.PrintMore
attribute [local go_sem] max2_int min2_int max_two min_two
attribute [local go_sem high] eqA26
set_option linter.unusedVariables false
set_option linter.unusedSimpArgs false
theorem eqA45 (d : Nat) (w : World) (x0 y0 : Int) (x1 y1 : Int) :
    (Op.equalIn (d + 2) 45 (.agg #[.int .u64 x0, .int .u64 x1]) (.agg #[.int .u64 y0, .int .u64 y1])).run Tryd.prog w = .ok (x0 == y0 && (x1 == y1)) w := by
  refine eqA_of Tryd.underlying45 (by kernel_rfl) ?_
  refine eqf_cons (by rfl) (by go_simp; rfl) (by go_simp; rfl) (by go_simp) ?_
  exact eqf_last (by rfl) (by go_simp; rfl) (by go_simp; rfl) (by go_simp)
theorem eqA47 (d : Nat) (w : World) (a b : Bool) (p q x0 y0 x1 y1 : Int) :
    (Op.equalIn (d + 3) 47 (.agg #[.bool a, .int .i64 p, .int .u64 x0, .int .u64 x1]) (.agg #[.bool b, .int .i64 q, .int .u64 y0, .int .u64 y1])).run Tryd.prog w = .ok (a == b && (p == q && (x0 == y0 && (x1 == y1)))) w := by
  refine eqA_of Tryd.underlying47 (by kernel_rfl) ?_
  refine eqf_cons (by rfl) (by go_simp; rfl) (by go_simp; rfl) (by go_simp) ?_
  refine eqf_cons (by rfl) (by go_simp; rfl) (by go_simp; rfl) (by go_simp) ?_
  refine eqf_last (by rfl) (by go_simp; rfl) (by go_simp; rfl) ?_
  exact eqA45 d w x0 y0 x1 y1
attribute [local go_sem high] eqA47
/-- The one policy that asks for a part. -/
def Mg.part1 (q : Int) : S30 := ⟨4, 0, ⟨#[]⟩, q⟩
theorem part_C {w : World} {b t : Nat} {q : Int} (h : w.heap[b]? = some (.cells #[.int .i64 4, .int .u64 0, .string ⟨#[]⟩, .int .i64 q] t (0, 0))) : Kd.C k30 w (some ⟨b, 0, none⟩) 1 [Mg.part1 q] :=
  C_block (xs := [Mg.part1 q]) h (by simp) (fun j p hj => by
    match j, hj with
    | 0, hj => cases hj; exact ⟨_, k30_mk w _, fun i u hi => by match i, hi with | 0, hi => exact hi | 1, hi => exact hi | 2, hi => exact hi | 3, hi => exact hi | i + 4, hi => cases hi⟩
    | j + 1, hj => cases hj)
/-- Decide at one such policy. -/
def DecOK (w : World) (q : Int) (R : List S43) (vk : Bool) (vp vw er : Int) : Prop :=
  ∀ (W : World) (A0 B : Option Addr) (c : Nat), Below w.heap.size w W → Kd.C k30 W A0 1 [Mg.part1 q] → Kd.C k43 W B R.length R → R.length ≤ c →
    Calls Tryd.prog 18 #[.slice A0 1 1, .slice B R.length c] W fun e w' => e = .returned (.tuple #[.agg #[.bool vk, .int .i64 vp, .int .u64 0, .int .u64 vw], .int .i64 er]) ∧ Below W.heap.size W w'
set_option maxHeartbeats 4000000 in
set_option maxRecDepth 100000 in
theorem great_run (k : Nat) (A : Option Addr) (c : Nat) (l : List S43) (mix lo a b : Int) (w : World) (hr : Kd.C k43 w A l.length l) (hc : l.length ≤ c)
    (t0 t1 u0 u1 wt : Int) (h1 : spoorlaw21_named.f k mix lo = some (t0, t1)) (h2 : spoorlaw21_named.f k mix (IntKind.u64.wrap (lo + 1)) = some (u0, u1)) (h3 : spoorlaw21_weight.f k l = some wt)
    (am p bm q q1 q2 : Int) (ham : (if (65536 : Int) < a then 65536 else a) = am) (hp : (if (0 : Int) < am then am else 0) = p) (hbm : (if (65536 : Int) < b then 65536 else b) = bm) (hq : (if (0 : Int) < bm then bm else 0) = q)
    (hq1 : (if q < p then q else p) = q1) (hq2 : (if p < q then q else p) = q2) (Rt Ru : List S43) (h4 : spoorlaw21_renamed.f k l t0 t1 = some Rt) (h5 : spoorlaw21_renamed.f k l u0 u1 = some Ru)
    (vk : Bool) (vp vw : Int) (wk : Bool) (wp ww er : Int) (d1 : DecOK w q1 Rt vk vp vw er) (d2 : DecOK w q2 Rt wk wp ww er) (d3 : DecOK w q2 Ru wk wp ww er)
    (hv : vk = true → wk = true ∧ ww ≤ vw) (hk : (er != 0) = true ∨ l.length = 0 ∨ wk = decide (mix / 281474976710656 < q2)) :
    Calls Tryd.prog 8 #[.slice A l.length c, .int .u64 mix, .int .u64 lo, .int .i64 a, .int .i64 b] w (BoolPost w true) := by
  have HR := Lib.hid hr
  have H1 := Lib.hid h1
  have H2 := Lib.hid h2
  have H3 := Lib.hid h3
  clear hr h1 h2 h3
  have H4 := Lib.hid h4
  have H5 := Lib.hid h5
  have HD1 := Lib.hid d1
  have HD2 := Lib.hid d2
  have HD3 := Lib.hid d3
  clear h4 h5 d1 d2 d3
  go_enter Tryd.func8, Tryd.ntmps8
  go_wp2_with fail
  refine (alive_run _).mono ?_
  rintro e w1 ⟨rfl, hb⟩
  have HB1 := Lib.hid hb
  clear hb
  go_wp2_with fail
  refine (spoorlaw21_named.calls k mix lo t0 t1 _ H1.out).mono ?_
  rintro e w2 ⟨rfl, hb⟩
  have HB2 := Lib.hid (HB1.out.trans (hb.mono HB1.out.size))
  clear hb
  go_wp2_with fail
  refine (spoorlaw21_named.calls k mix _ u0 u1 _ H2.out).mono ?_
  rintro e w3 ⟨rfl, hb⟩
  have HB3 := Lib.hid ((HB2.out.alloc HB2.out.size (.cells #[.int .u64 t0, .int .u64 t1] 26)).trans (hb.mono (HB2.out.alloc HB2.out.size (.cells #[.int .u64 t0, .int .u64 t1] 26)).size))
  have HT3 := Lib.hid (blk_below (blk_new w2 (.cells #[.int .u64 t0, .int .u64 t1] 26)) hb)
  clear hb
  obtain ⟨tb, htb⟩ : ∃ x : Bool, (t0 == 0 && (t1 == 0)) = x := ⟨_, rfl⟩
  obtain ⟨ub, hub⟩ : ∃ x : Bool, (u0 == 0 && (u1 == 0)) = x := ⟨_, rfl⟩
  have HTu := Lib.hid (blk_new w3 (.cells #[.int .u64 u0, .int .u64 u1] 26))
  have HT4 := Lib.hid (blk_alloc HT3.out (.cells #[.int .u64 u0, .int .u64 u1] 26))
  have x0 := (cell_of_row _ _ 0 _ _ _ HT4.out).trans rfl
  have x1 := (cell_of_row _ _ 1 _ _ _ HT4.out).trans rfl
  have y0 := (cell_of_row _ _ 0 _ _ _ HTu.out).trans rfl
  have y1 := (cell_of_row _ _ 1 _ _ _ HTu.out).trans rfl
  have xf := fun j => blk_frozen HT4.out j
  have yf := fun j => blk_frozen HTu.out j
  have HB4 := Lib.hid (HB3.out.alloc HB3.out.size (.cells #[.int .u64 u0, .int .u64 u1] 26))
  go_wp2_with fail
  · go_ret
    exact ⟨rfl, HB4.out⟩
  · go_ret
    exact ⟨rfl, HB4.out⟩
  clear x0 x1 y0 y1 xf yf
  refine (spoorlaw21_weight.calls k A c l wt _ (Kd.C_below HR.out HB4.out) hc H3.out).mono ?_
  rintro e w4 ⟨rfl, hd⟩
  have hb : Below (w3.alloc (.cells #[.int .u64 u0, .int .u64 u1] 26)).heap.size (w3.alloc (.cells #[.int .u64 u0, .int .u64 u1] 26)) w4 := hd.below
  have HB5 := Lib.hid (HB4.out.trans (hb.mono HB4.out.size))
  have HT5 := Lib.hid (blk_below HT4.out hb)
  have HU5 := Lib.hid (blk_below HTu.out hb)
  clear hd hb
  have HT6 := Lib.hid (blk_alloc HT5.out (.cells #[.int .i64 4, .int .u64 0, .string ⟨#[]⟩, .int .i64 q1] 30))
  have HB6 := Lib.hid (HB5.out.alloc HB5.out.size (.cells #[.int .i64 4, .int .u64 0, .string ⟨#[]⟩, .int .i64 q1] 30))
  have HU6 := Lib.hid (blk_alloc HU5.out (.cells #[.int .i64 4, .int .u64 0, .string ⟨#[]⟩, .int .i64 q1] 30))
  have HP6 := Lib.hid (blk_new w4 (.cells #[.int .i64 4, .int .u64 0, .string ⟨#[]⟩, .int .i64 q1] 30))
  have x0 := (cell_of_row _ _ 0 _ _ _ HT6.out).trans rfl
  have x1 := (cell_of_row _ _ 1 _ _ _ HT6.out).trans rfl
  have xf := fun j => blk_frozen HT6.out j
  go_wp2_with fail
  · go_ret
    exact ⟨rfl, HB5.out⟩
  refine (spoorlaw21_renamed.calls k A c l t0 t1 Rt _ (Kd.C_below HR.out HB6.out) hc H4.out).mono ?_
  rintro e w5 ⟨v0, rfl, hS, hb⟩
  obtain ⟨A', c', rfl, hc', hC⟩ := Kd.R_reads (Kd.S_R hS)
  have HB7 := Lib.hid (HB6.out.trans (hb.mono HB6.out.size))
  have HT7 := Lib.hid (blk_below HT6.out hb)
  have HU7 := Lib.hid (blk_below HU6.out hb)
  have HP7 := Lib.hid (blk_below HP6.out hb)
  have HC7 := Lib.hid hC
  clear hS hb x0 x1 xf hC
  go_wp2_with fail
  refine (HD1.out _ _ _ _ HB7.out (part_C HP7.out) HC7.out hc').mono ?_
  rintro e w6 ⟨rfl, hb⟩
  have HB8 := Lib.hid (((HB7.out.trans (hb.mono HB7.out.size)).alloc (HB7.out.trans (hb.mono HB7.out.size)).size (.cells #[.bool vk, .int .i64 vp, .int .u64 0, .int .u64 vw] 47)).alloc ((HB7.out.trans (hb.mono HB7.out.size)).alloc (HB7.out.trans (hb.mono HB7.out.size)).size (.cells #[.bool vk, .int .i64 vp, .int .u64 0, .int .u64 vw] 47)).size (.cells #[.int .i64 4, .int .u64 0, .string ⟨#[]⟩, .int .i64 q2] 30))
  have HT8 := Lib.hid (blk_alloc (blk_alloc (blk_below HT7.out hb) (.cells #[.bool vk, .int .i64 vp, .int .u64 0, .int .u64 vw] 47)) (.cells #[.int .i64 4, .int .u64 0, .string ⟨#[]⟩, .int .i64 q2] 30))
  have HU8 := Lib.hid (blk_alloc (blk_alloc (blk_below HU7.out hb) (.cells #[.bool vk, .int .i64 vp, .int .u64 0, .int .u64 vw] 47)) (.cells #[.int .i64 4, .int .u64 0, .string ⟨#[]⟩, .int .i64 q2] 30))
  have HV8 := Lib.hid (blk_alloc (blk_new w6 (.cells #[.bool vk, .int .i64 vp, .int .u64 0, .int .u64 vw] 47)) (.cells #[.int .i64 4, .int .u64 0, .string ⟨#[]⟩, .int .i64 q2] 30))
  have hp := blk_new (w6.alloc (.cells #[.bool vk, .int .i64 vp, .int .u64 0, .int .u64 vw] 47)) (.cells #[.int .i64 4, .int .u64 0, .string ⟨#[]⟩, .int .i64 q2] 30)
  rw [show (w6.alloc (.cells #[.bool vk, .int .i64 vp, .int .u64 0, .int .u64 vw] 47)).heap.size = w6.heap.size + 1 by simp] at hp
  have HP8 := Lib.hid hp
  clear hp
  clear hb
  have x0 := (cell_of_row _ _ 0 _ _ _ HT8.out).trans rfl
  have x1 := (cell_of_row _ _ 1 _ _ _ HT8.out).trans rfl
  have xf := fun j => blk_frozen HT8.out j
  go_wp2_with fail
  refine (spoorlaw21_renamed.calls k A c l t0 t1 Rt _ (Kd.C_below HR.out HB8.out) hc H4.out).mono ?_
  rintro e w7 ⟨v0, rfl, hS, hb⟩
  obtain ⟨A2, c2, rfl, hc2, hC⟩ := Kd.R_reads (Kd.S_R hS)
  have HB9 := Lib.hid (HB8.out.trans (hb.mono HB8.out.size))
  have HU9 := Lib.hid (blk_below HU8.out hb)
  have HV9 := Lib.hid (blk_below HV8.out hb)
  have HP9 := Lib.hid (blk_below HP8.out hb)
  have HC9 := Lib.hid hC
  clear hS hb x0 x1 xf hC
  go_wp2_with fail
  refine (HD2.out _ _ _ _ HB9.out (part_C HP9.out) HC9.out hc2).mono ?_
  rintro e w8 ⟨rfl, hb⟩
  have HB10 := Lib.hid (((HB9.out.trans (hb.mono HB9.out.size)).alloc (HB9.out.trans (hb.mono HB9.out.size)).size (.cells #[.bool wk, .int .i64 wp, .int .u64 0, .int .u64 ww] 47)).alloc ((HB9.out.trans (hb.mono HB9.out.size)).alloc (HB9.out.trans (hb.mono HB9.out.size)).size (.cells #[.bool wk, .int .i64 wp, .int .u64 0, .int .u64 ww] 47)).size (.cells #[.int .i64 4, .int .u64 0, .string ⟨#[]⟩, .int .i64 q2] 30))
  have HU10 := Lib.hid (blk_alloc (blk_alloc (blk_below HU9.out hb) (.cells #[.bool wk, .int .i64 wp, .int .u64 0, .int .u64 ww] 47)) (.cells #[.int .i64 4, .int .u64 0, .string ⟨#[]⟩, .int .i64 q2] 30))
  have HV10 := Lib.hid (blk_alloc (blk_alloc (blk_below HV9.out hb) (.cells #[.bool wk, .int .i64 wp, .int .u64 0, .int .u64 ww] 47)) (.cells #[.int .i64 4, .int .u64 0, .string ⟨#[]⟩, .int .i64 q2] 30))
  have HW10 := Lib.hid (blk_alloc (blk_new w8 (.cells #[.bool wk, .int .i64 wp, .int .u64 0, .int .u64 ww] 47)) (.cells #[.int .i64 4, .int .u64 0, .string ⟨#[]⟩, .int .i64 q2] 30))
  have hp := blk_new (w8.alloc (.cells #[.bool wk, .int .i64 wp, .int .u64 0, .int .u64 ww] 47)) (.cells #[.int .i64 4, .int .u64 0, .string ⟨#[]⟩, .int .i64 q2] 30)
  rw [show (w8.alloc (.cells #[.bool wk, .int .i64 wp, .int .u64 0, .int .u64 ww] 47)).heap.size = w8.heap.size + 1 by simp] at hp
  have HP10 := Lib.hid hp
  clear hp
  clear hb
  have x0 := (cell_of_row _ _ 0 _ _ _ HU10.out).trans rfl
  have x1 := (cell_of_row _ _ 1 _ _ _ HU10.out).trans rfl
  have xf := fun j => blk_frozen HU10.out j
  go_wp2_with fail
  refine (spoorlaw21_renamed.calls k A c l u0 u1 Ru _ (Kd.C_below HR.out HB10.out) hc H5.out).mono ?_
  rintro e w9 ⟨v0, rfl, hS, hb⟩
  obtain ⟨A3, c3, rfl, hc3, hC⟩ := Kd.R_reads (Kd.S_R hS)
  have HB11 := Lib.hid (HB10.out.trans (hb.mono HB10.out.size))
  have HV11 := Lib.hid (blk_below HV10.out hb)
  have HW11 := Lib.hid (blk_below HW10.out hb)
  have HP11 := Lib.hid (blk_below HP10.out hb)
  have HC11 := Lib.hid hC
  clear hS hb x0 x1 xf hC
  go_wp2_with fail
  refine (HD3.out _ _ _ _ HB11.out (part_C HP11.out) HC11.out hc3).mono ?_
  rintro e w10 ⟨rfl, hb⟩
  have HB12 := Lib.hid ((HB11.out.trans (hb.mono HB11.out.size)).alloc (HB11.out.trans (hb.mono HB11.out.size)).size (.cells #[.bool wk, .int .i64 wp, .int .u64 0, .int .u64 ww] 47))
  have HV12 := Lib.hid (blk_alloc (blk_below HV11.out hb) (.cells #[.bool wk, .int .i64 wp, .int .u64 0, .int .u64 ww] 47))
  have HW12 := Lib.hid (blk_alloc (blk_below HW11.out hb) (.cells #[.bool wk, .int .i64 wp, .int .u64 0, .int .u64 ww] 47))
  have HX12 := Lib.hid (blk_new w10 (.cells #[.bool wk, .int .i64 wp, .int .u64 0, .int .u64 ww] 47))
  clear hb
  have x0 := (cell_of_row _ _ 0 _ _ _ HV12.out).trans rfl
  have x1 := (cell_of_row _ _ 1 _ _ _ HV12.out).trans rfl
  have x2 := (cell_of_row _ _ 2 _ _ _ HV12.out).trans rfl
  have x3 := (cell_of_row _ _ 3 _ _ _ HV12.out).trans rfl
  have xf := fun j => blk_frozen HV12.out j
  have y0 := (cell_of_row _ _ 0 _ _ _ HW12.out).trans rfl
  have y1 := (cell_of_row _ _ 1 _ _ _ HW12.out).trans rfl
  have y2 := (cell_of_row _ _ 2 _ _ _ HW12.out).trans rfl
  have y3 := (cell_of_row _ _ 3 _ _ _ HW12.out).trans rfl
  have yf := fun j => blk_frozen HW12.out j
  have z0 := (cell_of_row _ _ 0 _ _ _ HX12.out).trans rfl
  have z1 := (cell_of_row _ _ 1 _ _ _ HX12.out).trans rfl
  have z2 := (cell_of_row _ _ 2 _ _ _ HX12.out).trans rfl
  have z3 := (cell_of_row _ _ 3 _ _ _ HX12.out).trans rfl
  have zf := fun j => blk_frozen HX12.out j
  by_cases hvk : vk = true
  · subst hvk
    obtain ⟨rfl, hle⟩ := hv rfl
    by_cases he : er = 0
    · subst he
      have hk' : l.length = 0 ∨ true = decide (mix / 281474976710656 < q2) := by
        rcases hk with h | h
        · cases h
        · exact h
      clear hk hv
      go_wp2_with fail
      all_goals (go_ret; refine ⟨?_, HB12.out⟩; first | rfl | (rcases hk' with h | h <;> simp_all))
    · have he' : (er != 0) = true := by simpa using he
      clear hk hv
      go_wp2_with fail
      all_goals (go_ret; refine ⟨?_, HB12.out⟩; first | rfl | (simp_all))
  · obtain rfl : vk = false := by simpa using hvk
    clear hv
    go_wp2_with fail
    all_goals (go_ret; refine ⟨?_, HB12.out⟩; first | rfl | (rcases hk with h | h | h <;> simp_all))
set_option maxHeartbeats 4000000 in
set_option maxRecDepth 100000 in
/-- SampleGreater where it answers early. -/
theorem great_early (k : Nat) (A : Option Addr) (c : Nat) (l : List S43) (mix lo a b : Int) (w : World) (hr : Kd.C k43 w A l.length l) (hc : l.length ≤ c)
    (t0 t1 u0 u1 wt : Int) (h1 : spoorlaw21_named.f k mix lo = some (t0, t1)) (h2 : spoorlaw21_named.f k mix (IntKind.u64.wrap (lo + 1)) = some (u0, u1)) (h3 : spoorlaw21_weight.f k l = some wt)
    (hE : (t0 == 0 && (t1 == 0)) = true ∨ (u0 == 0 && (u1 == 0)) = true ∨ 2147483647 < wt) :
    Calls Tryd.prog 8 #[.slice A l.length c, .int .u64 mix, .int .u64 lo, .int .i64 a, .int .i64 b] w (BoolPost w true) := by
  have HR := Lib.hid hr
  have H1 := Lib.hid h1
  have H2 := Lib.hid h2
  have H3 := Lib.hid h3
  clear hr h1 h2 h3
  obtain ⟨am, ham⟩ : ∃ x : Int, (if (65536 : Int) < a then 65536 else a) = x := ⟨_, rfl⟩
  obtain ⟨p, hp⟩ : ∃ x : Int, (if (0 : Int) < am then am else 0) = x := ⟨_, rfl⟩
  obtain ⟨bm, hbm⟩ : ∃ x : Int, (if (65536 : Int) < b then 65536 else b) = x := ⟨_, rfl⟩
  obtain ⟨q, hq⟩ : ∃ x : Int, (if (0 : Int) < bm then bm else 0) = x := ⟨_, rfl⟩
  go_enter Tryd.func8, Tryd.ntmps8
  go_wp2_with fail
  refine (alive_run _).mono ?_
  rintro e w1 ⟨rfl, hb⟩
  have HB1 := Lib.hid hb
  clear hb
  go_wp2_with fail
  refine (spoorlaw21_named.calls k mix lo t0 t1 _ H1.out).mono ?_
  rintro e w2 ⟨rfl, hb⟩
  have HB2 := Lib.hid (HB1.out.trans (hb.mono HB1.out.size))
  clear hb
  go_wp2_with fail
  refine (spoorlaw21_named.calls k mix _ u0 u1 _ H2.out).mono ?_
  rintro e w3 ⟨rfl, hb⟩
  have HB3 := Lib.hid ((HB2.out.alloc HB2.out.size (.cells #[.int .u64 t0, .int .u64 t1] 26)).trans (hb.mono (HB2.out.alloc HB2.out.size (.cells #[.int .u64 t0, .int .u64 t1] 26)).size))
  have HT3 := Lib.hid (blk_below (blk_new w2 (.cells #[.int .u64 t0, .int .u64 t1] 26)) hb)
  clear hb
  obtain ⟨tb, htb⟩ : ∃ x : Bool, (t0 == 0 && (t1 == 0)) = x := ⟨_, rfl⟩
  obtain ⟨ub, hub⟩ : ∃ x : Bool, (u0 == 0 && (u1 == 0)) = x := ⟨_, rfl⟩
  rw [htb, hub] at hE
  have HTu := Lib.hid (blk_new w3 (.cells #[.int .u64 u0, .int .u64 u1] 26))
  have HT4 := Lib.hid (blk_alloc HT3.out (.cells #[.int .u64 u0, .int .u64 u1] 26))
  have x0 := (cell_of_row _ _ 0 _ _ _ HT4.out).trans rfl
  have x1 := (cell_of_row _ _ 1 _ _ _ HT4.out).trans rfl
  have y0 := (cell_of_row _ _ 0 _ _ _ HTu.out).trans rfl
  have y1 := (cell_of_row _ _ 1 _ _ _ HTu.out).trans rfl
  have xf := fun j => blk_frozen HT4.out j
  have yf := fun j => blk_frozen HTu.out j
  have HB4 := Lib.hid (HB3.out.alloc HB3.out.size (.cells #[.int .u64 u0, .int .u64 u1] 26))
  go_wp2_with fail
  · go_ret
    exact ⟨rfl, HB4.out⟩
  · go_ret
    exact ⟨rfl, HB4.out⟩
  clear x0 x1 y0 y1 xf yf
  refine (spoorlaw21_weight.calls k A c l wt _ (Kd.C_below HR.out HB4.out) hc H3.out).mono ?_
  rintro e w4 ⟨rfl, hd⟩
  have hb : Below (w3.alloc (.cells #[.int .u64 u0, .int .u64 u1] 26)).heap.size (w3.alloc (.cells #[.int .u64 u0, .int .u64 u1] 26)) w4 := hd.below
  have HB5 := Lib.hid (HB4.out.trans (hb.mono HB4.out.size))
  have HT5 := Lib.hid (blk_below HT4.out hb)
  have HU5 := Lib.hid (blk_below HTu.out hb)
  clear hd hb
  have hw : 2147483647 < wt := by
    rcases hE with h | h | h
    · exact absurd h ‹¬ tb = true›
    · exact absurd h ‹¬ ub = true›
    · exact h
  clear hE
  go_wp2_with fail
  go_ret
  exact ⟨rfl, HB5.out⟩
end Go.Proofs.YtdlnfmakfnggpaaDoor.Pr
namespace Go.Proofs.YtdlnfmakfnggpaaDoor.Pr
open Go.RowKit Go.Lib Go.Proofs.YtdlnfmakfnggpaaDoorW.PrintWords Go.Proofs.YtdlnfmakfnggpaaDoorW.PrintLast Go.Proofs.YtdlnfmakfnggpaaDoorW.PrintMore
set_option linter.unusedVariables false
set_option linter.unusedSimpArgs false
namespace Mg
theorem part_ok (q : Int) (h0 : 0 ≤ q) (h1 : q ≤ 65536) : polF [part1 q] = 0 := pol_of (by simp) (fun x hx => by
  rw [List.mem_singleton.1 hx]
  unfold mayS mayF part1
  simp [ne_empty]
  have e : (⟨#[]⟩ : ByteArray).toList.isEmpty = true := by decide +kernel
  simp [h0, h1, e])
def verdK (q m : Int) : Bool := decide (m / 281474976710656 < q)
theorem part_dec (q m : Int) (R : List S43) (h0 : 0 ≤ q) (h1 : q ≤ 65536) (hm : 0 ≤ m) (hR : 0 < R.length) (hmix : sample_Mix.f (rd_T43 R 0).f0.f0 (rd_T43 R 0).f0.f1 = some m) (ho : oneF chkS R = true) :
    decV [part1 q] R = some (verdK q m, if verdK q m then 0 else -1, 0, if verdK q m then 4294967296 / q else 0, 0) := by
  unfold decV
  rw [if_pos (part_ok q h0 h1), if_pos ho, if_neg (by omega), hmix, Option.bind_some]
  have hw : IntKind.u64.wrap q = q := by rw [IntKind.wrap_u64]; omega
  have hh : hfM R m (part1 q) = verdK q m := by
    unfold hfM holdsF part1 verdK
    simp [hw]
  have hd : dst (hfM R m) [part1 q] [part1 q].length = (q, false, verdK q m, if verdK q m then 0 else -1) := by
    show dstep (hfM R m) (0, false, false, -1) 0 (rd_T30 [part1 q] (0 : Int)) = _
    have e : rd_T30 [part1 q] (0 : Int) = part1 q := rfl
    rw [e]
    unfold dstep
    rw [hh]
    have e4 : ((part1 q).f0 != 4) = false := rfl
    have e3 : (part1 q).f3 = q := rfl
    rw [e4, e3]
    cases verdK q m <;> simp <;> omega
  have hq : verdK q m = true → 0 < q := fun h => by
    unfold verdK at h
    have : 0 ≤ m / 281474976710656 := Int.ediv_nonneg hm (by omega)
    simp at h; omega
  rw [decTail_some _ R m (by
    rw [hd]
    rintro ⟨_, c2, c3⟩
    have := hq c2
    rw [hw] at c3; omega), hd]
  unfold wtF
  simp only [hw]
  cases hv : verdK q m with
  | false => rfl
  | true =>
    have hp := hq hv
    simp only [if_true, Bool.false_eq_true, if_false]
    rw [Int.tdiv_eq_ediv_of_nonneg (by omega)]
    have q0 : 0 ≤ 4294967296 / q := Int.ediv_nonneg (by omega) (by omega)
    have q1 : 4294967296 / q ≤ 4294967296 := Int.ediv_le_self _ (by omega)
    rw [show IntKind.u64.wrap (4294967296 / q) = 4294967296 / q by rw [IntKind.wrap_u64]; omega]
theorem chk_ren (x : S43) (a b c d : Int) (h1 : ¬ (a = 0 ∧ b = 0)) (h2 : ¬ (c = 0 ∧ d = 0)) : chkS (ren a b x) = chkS (ren c d x) := by
  unfold chkS checkF ren
  simp only
  have e : ((a = 0 ∧ b = 0) ∨ x.f1 = 0) ↔ ((c = 0 ∧ d = 0) ∨ x.f1 = 0) := by
    constructor
    · rintro (h | h); exact absurd h h1; exact .inr h
    · rintro (h | h); exact absurd h h2; exact .inr h
  simp only [e]
theorem rd_ren (l : List S43) (a b : Int) (i : Nat) (h : i < l.length) : rd_T43 (l.map (ren a b)) (i : Int) = ren a b (rd_T43 l (i : Int)) := by
  simp [rd_T43, List.getD, h]
theorem okUpto_ren (l : List S43) (a b c d : Int) (h1 : ¬ (a = 0 ∧ b = 0)) (h2 : ¬ (c = 0 ∧ d = 0)) : ∀ n, n ≤ l.length → okUpto chkS (l.map (ren a b)) n = okUpto chkS (l.map (ren c d)) n
  | 0, _ => rfl
  | n + 1, hn => by
    have h0 : 0 < l.length := by omega
    have e1 := rd_ren l a b n (by omega)
    have e2 := rd_ren l c d n (by omega)
    have e3 := rd_ren l a b 0 h0
    have e4 := rd_ren l c d 0 h0
    have ids : ∀ (p q : Int), idsTo (l.map (ren p q)) n = (l.take n).map (·.f1) := fun p q => by
      unfold idsTo; rw [← List.map_take, List.map_map]; rfl
    rw [okUpto_succ, okUpto_succ, okUpto_ren l a b c d h1 h2 n (by omega), e1, e2, chk_ren _ a b c d h1 h2, ids, ids]
    rw [show ((0 : Nat) : Int) = 0 from rfl] at e3 e4
    rw [e3, e4]
    simp [ren]
theorem one_ren (l : List S43) (a b c d : Int) (h1 : ¬ (a = 0 ∧ b = 0)) (h2 : ¬ (c = 0 ∧ d = 0)) : oneF chkS (l.map (ren a b)) = oneF chkS (l.map (ren c d)) := by
  unfold oneF
  rw [List.length_map, List.length_map, okUpto_ren l a b c d h1 h2 _ (Nat.le_refl _)]
/-- The three verdicts of SampleGreater. -/
theorem three (l : List S43) (m q1 q2 : Int) (h0 : 0 ≤ q1) (h12 : q1 ≤ q2) (h2 : q2 ≤ 65536) (hm : 0 ≤ m) (a b c d : Int) (n1 : ¬ (a = 0 ∧ b = 0)) (n2 : ¬ (c = 0 ∧ d = 0)) (hab : sample_Mix.f a b = some m) (hcd : sample_Mix.f c d = some m) :
    ∃ vk vp vw wk wp ww e, decV [part1 q1] (l.map (ren a b)) = some (vk, vp, 0, vw, e) ∧ decV [part1 q2] (l.map (ren a b)) = some (wk, wp, 0, ww, e) ∧ decV [part1 q2] (l.map (ren c d)) = some (wk, wp, 0, ww, e) ∧
      (vk = true → wk = true ∧ ww ≤ vw) ∧ ((e != 0) = true ∨ l.length = 0 ∨ wk = decide (m / 281474976710656 < q2)) := by
  by_cases ho : oneF chkS (l.map (ren a b)) = true
  · have ho2 : oneF chkS (l.map (ren c d)) = true := by rw [← one_ren l a b c d n1 n2]; exact ho
    by_cases hl : l.length = 0
    · obtain rfl := List.eq_nil_of_length_eq_zero hl
      refine ⟨false, -1, 0, false, -1, 0, 0, ?_, ?_, ?_, (fun h => by cases h), .inr (.inl rfl)⟩
      · unfold decV; rw [if_pos (part_ok q1 h0 (by omega)), if_pos ho]; rfl
      · unfold decV; rw [if_pos (part_ok q2 (by omega) h2), if_pos ho]; rfl
      · unfold decV; rw [if_pos (part_ok q2 (by omega) h2), if_pos ho2]; rfl
    · have e3 := rd_ren l a b 0 (by omega)
      have e4 := rd_ren l c d 0 (by omega)
      rw [show ((0 : Nat) : Int) = 0 from rfl] at e3 e4
      have d1 := part_dec q1 m (l.map (ren a b)) h0 (by omega) hm (by rw [List.length_map]; omega) (by rw [e3]; exact hab) ho
      have d2 := part_dec q2 m (l.map (ren a b)) (by omega) h2 hm (by rw [List.length_map]; omega) (by rw [e3]; exact hab) ho
      have d3 := part_dec q2 m (l.map (ren c d)) (by omega) h2 hm (by rw [List.length_map]; omega) (by rw [e4]; exact hcd) ho2
      refine ⟨_, _, _, _, _, _, _, d1, d2, d3, fun hv => ?_, .inr (.inr rfl)⟩
      have hp : 0 ≤ m / 281474976710656 := Int.ediv_nonneg hm (by omega)
      have hv1 : m / 281474976710656 < q1 := by unfold verdK at hv; simpa using hv
      have hw : verdK q2 m = true := by unfold verdK; simp; omega
      refine ⟨hw, ?_⟩
      rw [hv, hw]
      simp only [if_true]
      have dd := Int.mul_ediv_add_emod 4294967296 q2
      have m0 := Int.emod_nonneg 4294967296 (show q2 ≠ 0 by omega)
      have g0 : 0 ≤ 4294967296 / q2 := Int.ediv_nonneg (by omega) (by omega)
      rw [Int.le_ediv_iff_mul_le (by omega)]
      have : 4294967296 / q2 * q1 ≤ 4294967296 / q2 * q2 := Int.mul_le_mul_of_nonneg_left h12 g0
      rw [Int.mul_comm (4294967296 / q2) q2] at this
      omega
  · have ho2 : ¬ oneF chkS (l.map (ren c d)) = true := by rw [← one_ren l a b c d n1 n2]; exact ho
    refine ⟨false, 0, 0, false, 0, 0, 101, ?_, ?_, ?_, (fun h => by cases h), .inl rfl⟩
    · unfold decV; rw [if_pos (part_ok q1 h0 (by omega)), if_neg ho]
    · unfold decV; rw [if_pos (part_ok q2 (by omega) h2), if_neg ho]
    · unfold decV; rw [if_pos (part_ok q2 (by omega) h2), if_neg ho2]
end Mg
end Go.Proofs.YtdlnfmakfnggpaaDoor.Pr
namespace Go.Proofs.YtdlnfmakfnggpaaDoor.Pr
open Go.RowKit Go.Lib Go.Proofs.YtdlnfmakfnggpaaDoorW.PrintWords Mg
set_option linter.unusedVariables false
set_option linter.unusedSimpArgs false
theorem rounds_add {α : Type} {f : Nat → Option α} (hm : ∀ k, LeO (f k) (f (k + 1))) {k : Nat} {r : α} (h : f k = some r) (n : Nat) (hn : k ≤ n) : f n = some r := at_rounds hm hn h
theorem decOK_of (w : World) (hT : Tabs w) (q : Int) (hq : 0 ≤ q ∧ q ≤ 65536) (R : List S43) (hS : ∀ x ∈ R, okS x) (hl : R.length ≤ 140737488351232) (vk : Bool) (vp vw e : Int) (hv : decV [part1 q] R = some (vk, vp, 0, vw, e)) : DecOK w q R vk vp vw e := by
  intro W A0 B c hb hA hB hc
  obtain ⟨k, hk⟩ := decide_val [part1 q] R (fun x hx => by rw [List.mem_singleton.1 hx]; exact Nat.zero_le _) hS hl _ hv
  exact sample_Decide.calls k A0 1 [part1 q] B c R vk vp 0 vw e W hA (Nat.le_refl _) hB hc hk (hT.below hb)
theorem greater_run (A : Option Addr) (c : Nat) (l : List S43) (mix lo a b : Int) (w : World) (hr : Kd.C k43 w A l.length l) (hc : l.length ≤ c) (hS : ∀ x ∈ l, okS x) (hl : l.length ≤ 837723144971) (hm : (Lit.int .u64 mix).wf = true) (ho : (Lit.int .u64 lo).wf = true) (hT : Tabs w) :
    Calls Tryd.prog 8 #[.slice A l.length c, .int .u64 mix, .int .u64 lo, .int .i64 a, .int .i64 b] w (BoolPost w true) := by
  obtain ⟨m, rfl, hm64⟩ : ∃ n : Nat, mix = n ∧ n < 2 ^ 64 := by
    have h' : 0 ≤ mix ∧ mix ≤ 18446744073709551615 := by simpa [Lit.wf, IntKind.min, IntKind.max, IntKind.signed, IntKind.bits] using hm
    exact ⟨mix.toNat, by omega, by omega⟩
  obtain ⟨o, rfl, ho64⟩ : ∃ n : Nat, lo = n ∧ n < 2 ^ 64 := by
    have h' : 0 ≤ lo ∧ lo ≤ 18446744073709551615 := by simpa [Lit.wf, IntKind.min, IntKind.max, IntKind.signed, IntKind.bits] using ho
    exact ⟨lo.toNat, by omega, by omega⟩
  obtain ⟨o2, ho2, ho264⟩ : ∃ n : Nat, IntKind.u64.wrap ((o : Int) + 1) = n ∧ n < 2 ^ 64 := ⟨(IntKind.u64.wrap ((o : Int) + 1)).toNat, by rw [IntKind.wrap_u64]; omega, by rw [IntKind.wrap_u64]; omega⟩
  have n1 := named_int m o hm64 ho64
  have n2 := named_int m o2 hm64 ho264
  have x1 := mix_int (namedN m o) o (namedN_lt m o) ho64
  have x2 := mix_int (namedN m o2) o2 (namedN_lt m o2) ho264
  rw [mix_named m o hm64 ho64] at x1
  rw [mix_named m o2 hm64 ho264] at x2
  obtain ⟨kw, wt, hw⟩ := weight_val l (by omega)
  obtain ⟨kt, hkt⟩ := renamed_val l ((namedN m o : Nat) : Int) (o : Int) hS hl
  obtain ⟨ku, hku⟩ := renamed_val l ((namedN m o2 : Nat) : Int) (o2 : Int) hS hl
  obtain ⟨K, hK⟩ : ∃ K, K = max (max (max kw kt) ku) 9 := ⟨_, rfl⟩
  have n1' := rounds_add (fun k => spoorlaw21_named.mono (m : Int) (o : Int) k) n1 K (by omega)
  have n2' := rounds_add (fun k => spoorlaw21_named.mono (m : Int) (o2 : Int) k) n2 K (by omega)
  have w' := rounds_add (fun k => spoorlaw21_weight.mono l k) hw K (by omega)
  have t' := rounds_add (fun k => spoorlaw21_renamed.mono l _ _ k) hkt K (by omega)
  have u' := rounds_add (fun k => spoorlaw21_renamed.mono l _ _ k) hku K (by omega)
  rw [← ho2] at n2'
  by_cases hE : (((namedN m o : Nat) : Int) == 0 && ((o : Int) == 0)) = true ∨ (((namedN m o2 : Nat) : Int) == 0 && ((o2 : Int) == 0)) = true ∨ 2147483647 < wt
  · refine great_early K A c l m o a b w hr hc _ _ _ _ wt n1' n2' w' ?_
    rw [ho2]; exact hE
  · have z1 : ¬ (((namedN m o : Nat) : Int) = 0 ∧ (o : Int) = 0) := fun h => hE (.inl (by simp only [Bool.and_eq_true, beq_iff_eq]; exact h))
    have z2 : ¬ (((namedN m o2 : Nat) : Int) = 0 ∧ (o2 : Int) = 0) := fun h => hE (.inr (.inl (by simp only [Bool.and_eq_true, beq_iff_eq]; exact h)))
    obtain ⟨am, ham⟩ : ∃ x : Int, (if (65536 : Int) < a then 65536 else a) = x := ⟨_, rfl⟩
    obtain ⟨p, hp⟩ : ∃ x : Int, (if (0 : Int) < am then am else 0) = x := ⟨_, rfl⟩
    obtain ⟨bm, hbm⟩ : ∃ x : Int, (if (65536 : Int) < b then 65536 else b) = x := ⟨_, rfl⟩
    obtain ⟨q, hq⟩ : ∃ x : Int, (if (0 : Int) < bm then bm else 0) = x := ⟨_, rfl⟩
    obtain ⟨q1, hq1⟩ : ∃ x : Int, (if q < p then q else p) = x := ⟨_, rfl⟩
    obtain ⟨q2, hq2⟩ : ∃ x : Int, (if p < q then q else p) = x := ⟨_, rfl⟩
    have bd : 0 ≤ q1 ∧ q1 ≤ q2 ∧ q2 ≤ 65536 := by
      have b1 : am ≤ 65536 := by rw [← ham]; split <;> omega
      have b2 : bm ≤ 65536 := by rw [← hbm]; split <;> omega
      have b3 : 0 ≤ p ∧ p ≤ 65536 := by rw [← hp]; split <;> omega
      have b4 : 0 ≤ q ∧ q ≤ 65536 := by rw [← hq]; split <;> omega
      rw [← hq1, ← hq2]
      refine ⟨?_, ?_, ?_⟩
      · split <;> omega
      · split <;> split <;> omega
      · split <;> omega
    obtain ⟨vk, vp, vw, wk, wp, ww, e, d1, d2, d3, hv, hk⟩ := three l m q1 q2 bd.1 bd.2.1 bd.2.2 (by omega) _ _ _ _ z1 z2 x1 x2
    have s1 : ∀ x ∈ l.map (ren ((namedN m o : Nat) : Int) (o : Int)), okS x := fun x hx => by
      obtain ⟨y, hy, rfl⟩ := List.mem_map.1 hx
      exact okS_ren _ _ (hS y hy)
    have s2 : ∀ x ∈ l.map (ren ((namedN m o2 : Nat) : Int) (o2 : Int)), okS x := fun x hx => by
      obtain ⟨y, hy, rfl⟩ := List.mem_map.1 hx
      exact okS_ren _ _ (hS y hy)
    rw [← ho2] at u' d3 s2
    exact great_run K A c l m o a b w hr hc _ _ _ _ wt n1' n2' w' am p bm q q1 q2 ham hp hbm hq hq1 hq2 _ _ t' u' vk vp vw wk wp ww e
      (decOK_of w hT q1 (by omega) _ s1 (by rw [List.length_map]; omega) vk vp vw e d1)
      (decOK_of w hT q2 (by omega) _ s1 (by rw [List.length_map]; omega) wk wp ww e d2)
      (decOK_of w hT q2 (by omega) _ s2 (by rw [List.length_map]; omega) wk wp ww e d3) hv hk
end Go.Proofs.YtdlnfmakfnggpaaDoor.Pr
