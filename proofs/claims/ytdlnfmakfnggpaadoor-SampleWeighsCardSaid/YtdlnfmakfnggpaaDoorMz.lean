/- Plain laws: what span.Check's printed function tells of any span: the same as a plain function of it. Plain laws: span.Check and sample.Decide at any spans: their values. The pure law of SampleWeighs. The pure law of SampleWeighs, its body. The pure law of SampleWeighs: what is kept, times its weight, stands for all. -/
import Derived.Test.YtdlnfmakfnggpaaDoorXSv
import Derived.Test.YtdlnfmakfnggpaaDoorMy
import Derived.Test.YtdlnfmakfnggpaaDoorPr0h
import Derived.Test.YtdlnfmakfnggpaaDoorPr0t
import Derived.Test.YtdlnfmakfnggpaaDoorOp
import Derived.Test.YtdlnfmakfnggpaaDoorPr4b
namespace Go.Proofs.YtdlnfmakfnggpaaDoor.Pr
open Go.RowKit Go.Lib Go.Proofs.YtdlnfmakfnggpaaDoorW.PrintWords
set_option linter.unusedVariables false
set_option linter.unusedSimpArgs false
namespace Mg
theorem w64 {n : Int} (h : -9223372036854775808 ≤ n) (h' : n ≤ 9223372036854775807) : wrap64 n = n := by unfold wrap64; omega
theorem w64s {n : Nat} (h : n < 9223372036854775807) : wrap64 ((n : Int) + 1) = ((n + 1 : Nat) : Int) := by unfold wrap64; omega
theorem tl (s : ByteArray) : s.toList = s.data.toList := ByteArray.toList_eq s
theorem empty_iff (s : ByteArray) : s.toList = ([] : List UInt8) ↔ s.size = 0 := by
  rw [tl]
  constructor
  · intro h; show s.data.size = 0; rw [← Array.length_toList, h]; rfl
  · intro h; have h : s.data.size = 0 := h; rw [← Array.length_toList] at h; exact List.eq_nil_of_length_eq_zero h
/-! #### plain -/
theorem pl_l0 (k : Nat) (s : ByteArray) (fr : Int) (x : Int) : span_plain.l0 (k + 1) s fr (s.size : Int) x = if x < (s.size : Int) then (if 0 ≤ x then (if x < (s.size : Int) then (if (bt s x) < fr then (some false) else (if (bt s x) = 127 then (some false) else (span_plain.l0 k s fr (s.size : Int) (wrap64 (x + 1))))) else (none)) else (none)) else (some true) := by rw [span_plain.l0]
theorem pl_loop (s : ByteArray) (fr : Int) (hs : s.size ≤ 140737488351232) : ∀ (d i : Nat), i + d = s.size → okTo s fr i = true → span_plain.l0 (d + 1) s fr (s.size : Int) (i : Int) = some (okTo s fr s.size) := by
  intro d
  induction d with
  | zero =>
    intro i hi ho
    obtain rfl : i = s.size := by omega
    rw [pl_l0, if_neg (by omega), ho]
  | succ d ih =>
    intro i hi ho
    rw [pl_l0, if_pos (by omega), if_pos (by omega), if_pos (by omega)]
    by_cases c1 : bt s (i : Int) < fr
    · rw [if_pos c1, okTo_false (s := s) (fr := fr) (k := i) (by simp [byteOK, c1]) _ (by omega)]
    rw [if_neg c1]
    by_cases c2 : bt s (i : Int) = 127
    · rw [if_pos c2, okTo_false (s := s) (fr := fr) (k := i) (by simp [byteOK, c2]) _ (by omega)]
    rw [if_neg c2, w64s (by omega)]
    exact ih (i + 1) (by omega) (by simp [okTo, ho, byteOK, c1, c2])
theorem plain_val (s : ByteArray) (most fr : Int) (hs : s.size ≤ 140737488351232) : ∃ k, span_plain.f k s most fr = some (plainF s most fr) := by
  refine ⟨s.size + 2, ?_⟩
  have j1 : ∀ b, span_plain.j0 (s.size + 2) s fr b = if b = true then some false else span_plain.l0 (s.size + 1) s fr (s.size : Int) 0 := fun b => by rw [span_plain.j0]
  unfold span_plain.f plainF
  by_cases h0 : s.size = 0
  · rw [if_pos ((empty_iff s).2 h0), j1, if_pos rfl, decide_eq_false (by omega)]; rfl
  · rw [if_neg (fun h => h0 ((empty_iff s).1 h)), decide_eq_true (show 0 < s.size by omega), Bool.true_and]
    by_cases h1 : (s.size : Int) > most
    · rw [if_pos h1, j1, if_pos rfl, decide_eq_false (by omega)]; rfl
    · rw [if_neg h1, decide_eq_true (by omega), Bool.true_and]
      unfold utf8_ValidString.f
      rw [if_pos (by omega), Option.bind_some, j1]
      cases validD s.data.toList with
      | false => rfl
      | true =>
        rw [if_neg (by decide), Bool.true_and]
        exact pl_loop s fr hs s.size 0 (by omega) rfl
/-! #### keyed -/
def alpha : ByteArray := ⟨#[97, 98, 99, 100, 101, 102, 103, 104, 105, 106, 107, 108, 109, 110, 111, 112, 113, 114, 115, 116, 117, 118, 119, 120, 121, 122, 48, 49, 50, 51, 52, 53, 54, 55, 56, 57, 46, 95, 45]⟩
/-- A letter of a key. -/
def letB (c : Int) : Bool := (decide (97 ≤ c) && decide (c ≤ 122)) || (decide (48 ≤ c) && decide (c ≤ 57)) || c == 46 || c == 95 || c == 45
theorem alpha_fin : ∀ n : Fin 256, decide (0 ≤ Lib.indexByte alpha.data.toList (UInt8.ofNat n.val)) = letB ((n.val : Nat) : Int) := by decide +kernel
theorem alpha_let (c : UInt8) : decide (0 ≤ Lib.indexByte alpha.data.toList c) = letB ((c.toNat : Nat) : Int) := by
  have h := alpha_fin ⟨c.toNat, c.toNat_lt⟩
  simpa using h
def keyTo (s : ByteArray) : Nat → Bool
  | 0 => true
  | k + 1 => keyTo s k && letB (bt s k)
def keyF (s : ByteArray) : Bool := decide (0 < s.size) && decide ((s.size : Int) ≤ 40) && (decide (97 ≤ bt s 0) && decide (bt s 0 ≤ 122)) && keyTo s s.size
theorem keyTo_false {s : ByteArray} {k : Nat} (h : letB (bt s k) = false) : ∀ n, k < n → keyTo s n = false
  | 0, hn => by omega
  | n + 1, hn => by
    rcases Nat.lt_or_ge k n with h1 | h1
    · simp [keyTo, keyTo_false h n h1]
    · obtain rfl : k = n := by omega
      simp [keyTo, h]
theorem contains_at (s : ByteArray) (i : Nat) (hi : i < s.size) : strings_Contains.f alpha (s.extract i (i + 1)) = some (letB (bt s (i : Int))) := by
  have hsz : (s.extract i (i + 1)).size = 1 := by rw [ByteArray.size_extract]; omega
  unfold strings_Contains.f
  rw [if_pos hsz]
  have hb : bt s (i : Int) = (((s.extract i (i + 1)).data.toList.headD 0).toNat : Int) := by
    unfold bt
    rw [Int.toNat_natCast, dif_pos hi]
    have : (s.extract i (i + 1)).data.toList = [s[i]] := by
      rw [ByteArray.data_extract]
      apply List.ext_getElem
      · rw [Array.length_toList, Array.size_extract]; show min (i + 1) s.size - i = 1; omega
      · intro j h1 h2
        have : j = 0 := by simp at h2; omega
        subst this
        simp
        rfl
    rw [this]; rfl
  rw [hb, ← alpha_let]
theorem key_l0 (k : Nat) (s : ByteArray) (x : Int) : span_keyed.l0 (k + 1) s (s.size : Int) x = if x < (s.size : Int) then (if 0 ≤ x then (if x ≤ (wrap64 (x + 1)) then (if (wrap64 (x + 1)) ≤ (s.size : Int) then ((strings_Contains.f alpha (s.extract (x : Int).toNat ((wrap64 (x + 1)) : Int).toNat)).bind fun t104 => (if t104 = true then (span_keyed.l0 k s (s.size : Int) (wrap64 (x + 1))) else (some false))) else (none)) else (none)) else (none)) else (some true) := by rw [span_keyed.l0]; rfl
theorem key_loop (s : ByteArray) (hs : s.size ≤ 140737488351232) : ∀ (d i : Nat), i + d = s.size → keyTo s i = true → span_keyed.l0 (d + 1) s (s.size : Int) (i : Int) = some (keyTo s s.size) := by
  intro d
  induction d with
  | zero =>
    intro i hi ho
    obtain rfl : i = s.size := by omega
    rw [key_l0, if_neg (by omega), ho]
  | succ d ih =>
    intro i hi ho
    rw [key_l0, if_pos (by omega), if_pos (by omega), w64s (by omega), if_pos (by omega), if_pos (by omega), Int.toNat_natCast, Int.toNat_natCast, contains_at s i (by omega), Option.bind_some]
    cases hl : letB (bt s (i : Int)) with
    | false => rw [if_neg (by simp), keyTo_false hl _ (by omega)]
    | true => rw [if_pos rfl]; exact ih (i + 1) (by omega) (by simp [keyTo, ho, hl])
theorem key_val (s : ByteArray) (hs : s.size ≤ 140737488351232) : ∃ k, span_keyed.f k s = some (keyF s) := by
  refine ⟨s.size + 2, ?_⟩
  have j1 : ∀ b, span_keyed.j0 (s.size + 2) s b = if b = true then some false else span_keyed.l0 (s.size + 1) s (s.size : Int) 0 := fun b => by rw [span_keyed.j0]
  unfold span_keyed.f keyF
  by_cases h0 : s.size = 0
  · rw [if_pos ((empty_iff s).2 h0), j1, if_pos rfl, decide_eq_false (by omega)]; rfl
  · rw [if_neg (fun h => h0 ((empty_iff s).1 h)), decide_eq_true (show 0 < s.size by omega), Bool.true_and]
    by_cases h1 : (s.size : Int) > 40
    · rw [if_pos h1, j1, if_pos rfl, decide_eq_false (by omega)]; rfl
    · rw [if_neg h1, decide_eq_true (show (s.size : Int) ≤ 40 by omega), Bool.true_and, if_pos (by omega)]
      by_cases h2 : bt s 0 < 97
      · rw [if_pos h2, j1, if_pos rfl, decide_eq_false (by omega)]; rfl
      · rw [if_neg h2, decide_eq_true (show 97 ≤ bt s 0 by omega), Bool.true_and, j1]
        by_cases h3 : bt s 0 > 122
        · rw [decide_eq_true h3, if_pos rfl, decide_eq_false (by omega)]; rfl
        · rw [decide_eq_false h3, if_neg (by decide), decide_eq_true (show bt s 0 ≤ 122 by omega), Bool.true_and]
          exact key_loop s hs s.size 0 (by omega) rfl
/-! #### valued, links -/
def valF (kd : Int) (tx : ByteArray) (n : Int) : Bool :=
  if kd = 0 then n == 0 && (decide ((tx.size : Int) ≤ 200) && validD tx.data.toList) else if kd = 1 then decide (tx.size = 0) else if kd = 2 then decide (tx.size = 0) && (n == 0 || n == 1) else false
theorem val_val (kd : Int) (tx : ByteArray) (n : Int) (hs : tx.size ≤ 140737488351232) : span_valued.f kd tx n = some (valF kd tx n) := by
  unfold span_valued.f valF
  by_cases h0 : kd = 0
  · rw [if_pos h0, if_pos h0]
    by_cases h1 : n = 0
    · rw [if_pos h1, beq_iff_eq.2 h1, Bool.true_and]
      by_cases h2 : (tx.size : Int) ≤ 200
      · rw [if_pos h2, decide_eq_true h2, Bool.true_and]
        unfold utf8_ValidString.f
        rw [if_pos (by omega), Option.bind_some]
      · rw [if_neg h2, decide_eq_false h2, Bool.false_and]
    · rw [if_neg h1, beq_eq_false_iff_ne.2 h1, Bool.false_and]
  · rw [if_neg h0, if_neg h0]
    have he : (tx.toList == ([] : List UInt8)) = decide (tx.size = 0) := by
      rw [Bool.eq_iff_iff, beq_iff_eq, decide_eq_true_eq]; exact empty_iff tx
    by_cases h1 : kd = 1
    · rw [if_pos h1, if_pos h1, he]
    · rw [if_neg h1, if_neg h1]
      by_cases h2 : kd = 2
      · rw [if_pos h2, if_pos h2]
        by_cases h3 : tx.size = 0
        · rw [if_pos ((empty_iff tx).2 h3), decide_eq_true h3, Bool.true_and]
          by_cases h4 : n = 0
          · rw [if_pos h4, beq_iff_eq.2 h4, Bool.true_or]
          · rw [if_neg h4, beq_eq_false_iff_ne.2 h4, Bool.false_or]
        · rw [if_neg (fun h => h3 ((empty_iff tx).1 h)), decide_eq_false h3, Bool.false_and]
      · rw [if_neg h2, if_neg h2]
/-- The link in front of the i-th. -/
def prevL (l : List Int) : Nat → Int
  | 0 => 0
  | i + 1 => rd l i
def linkTo (l : List Int) (id : Int) : Nat → Bool
  | 0 => true
  | k + 1 => linkTo l id k && (decide (prevL l k < rd l k) && !(rd l k == id))
def linkF (l : List Int) (id : Int) : Bool := linkTo l id l.length && decide ((l.length : Int) ≤ 16)
theorem linkTo_false {l : List Int} {id : Int} {k : Nat} (h : (decide (prevL l k < rd l k) && !(rd l k == id)) = false) : ∀ n, k < n → linkTo l id n = false
  | 0, hn => by omega
  | n + 1, hn => by
    rcases Nat.lt_or_ge k n with h1 | h1
    · simp only [linkTo, linkTo_false h n h1, Bool.false_and]
    · obtain rfl : k = n := by omega
      simp only [linkTo, h, Bool.and_false]
theorem link_val (a0 a1 a2 a3 : Int) (l : List Int) (a5 a6 : ByteArray) (a7 a8 a9 a10 : Int) (l11 : List S120) (l12 : List S122) (hl : l.length ≤ 140737488351232) : ∃ k, span_linked.f k a0 a1 a2 a3 l a5 a6 a7 a8 a9 a10 l11 l12 = some (linkF l a2) := by
  have key : ∀ (d i : Nat), i + d = l.length → linkTo l a2 i = true → span_linked.l0 (d + 1) (prevL l i) l (l.length : Int) (i : Int) a0 a1 a2 a3 l a5 a6 a7 a8 a9 a10 l11 l12 = some (linkF l a2) := by
    intro d
    induction d with
    | zero =>
      intro i hi ho
      obtain rfl : i = l.length := by omega
      rw [span_linked.l0, if_neg (by omega)]
      unfold linkF
      rw [ho, Bool.true_and]
    | succ d ih =>
      intro i hi ho
      rw [span_linked.l0, if_pos (by omega), if_pos (by omega), if_pos (by omega), w64s (by omega)]
      by_cases c1 : rd l (i : Int) ≤ prevL l i
      · rw [if_pos c1]; unfold linkF; rw [linkTo_false (k := i) (by rw [decide_eq_false (by omega), Bool.false_and]) _ (by omega), Bool.false_and]
      · rw [if_neg c1]
        by_cases c2 : rd l (i : Int) = a2
        · rw [if_pos c2]; unfold linkF; rw [linkTo_false (k := i) (by rw [beq_iff_eq.2 c2]; simp) _ (by omega), Bool.false_and]
        · rw [if_neg c2]
          exact ih (i + 1) (by omega) (by simp only [linkTo, ho, Bool.true_and]; rw [decide_eq_true (by omega), beq_eq_false_iff_ne.2 c2]; rfl)
  exact ⟨l.length + 1, key l.length 0 (by omega) rfl⟩
/-! #### carried -/
def keyLt (l : List S120) : Nat → Bool
  | 0 => true
  | i + 1 => Op.bytesLess (rd_T120 l (i : Int)).f0.toList (rd_T120 l ((i + 1 : Nat) : Int)).f0.toList
def carOK (l : List S120) (i : Nat) : Bool := keyF (rd_T120 l (i : Int)).f0 && (valF (rd_T120 l (i : Int)).f1.f0 (rd_T120 l (i : Int)).f1.f1 (rd_T120 l (i : Int)).f1.f2 && keyLt l i)
def carTo (l : List S120) : Nat → Bool
  | 0 => true
  | k + 1 => carTo l k && carOK l k
def carF (l : List S120) : Bool := carTo l l.length && decide ((l.length : Int) ≤ 32)
theorem carTo_false {l : List S120} {k : Nat} (h : carOK l k = false) : ∀ n, k < n → carTo l n = false
  | 0, hn => by omega
  | n + 1, hn => by
    rcases Nat.lt_or_ge k n with h1 | h1
    · simp only [carTo, carTo_false h n h1, Bool.false_and]
    · obtain rfl : k = n := by omega
      simp only [carTo, h, Bool.and_false]
def okA (l : List S120) : Prop := l.length < 2932031007402 ∧ ∀ x ∈ l, x.f0.size ≤ 140737488351232 ∧ x.f1.f1.size ≤ 140737488351232
def okE (l : List S122) : Prop := l.length < 5864062014805 ∧ ∀ x ∈ l, x.f1.size ≤ 140737488351232
theorem rd120_mem {l : List S120} {k : Nat} (h : k < l.length) : rd_T120 l (k : Int) ∈ l := by simp [rd_T120, List.getD, h]
theorem rd122_mem {l : List S122} {k : Nat} (h : k < l.length) : rd_T122 l (k : Int) ∈ l := by simp [rd_T122, List.getD, h]
theorem car_val (l : List S120) (h : okA l) : ∃ k, span_carried.f k l = some (carF l) := by
  have key : ∀ (d i : Nat), i + d = l.length → carTo l i = true → ∃ k, span_carried.l0 k l l (l.length : Int) (i : Int) = some (carF l) := by
    intro d
    induction d with
    | zero =>
      intro i hi ho
      obtain rfl : i = l.length := by omega
      refine ⟨1, ?_⟩
      rw [span_carried.l0, if_neg (by omega)]
      unfold carF
      rw [ho, Bool.true_and]
    | succ d ih =>
      intro i hi ho
      have hl := h.1
      have hx := h.2 _ (rd120_mem (l := l) (k := i) (by omega))
      obtain ⟨k1, hk1⟩ := key_val (rd_T120 l (i : Int)).f0 hx.1
      have hv := val_val (rd_T120 l (i : Int)).f1.f0 (rd_T120 l (i : Int)).f1.f1 (rd_T120 l (i : Int)).f1.f2 hx.2
      have bad : carOK l i = false → carF l = false := fun hc => by unfold carF; rw [carTo_false hc _ (by omega), Bool.false_and]
      by_cases hok : carOK l i = true
      · obtain ⟨k2, hk2⟩ := ih (i + 1) (by omega) (by simp only [carTo, ho, hok, Bool.true_and])
        have hok' := hok
        unfold carOK at hok'
        simp only [Bool.and_eq_true] at hok'
        obtain ⟨o1, o2, o3⟩ := hok'
        have m1 := at_rounds (fun k => span_keyed.mono (rd_T120 l (i : Int)).f0 k) (Nat.le_max_left k1 k2) hk1
        have m2 := at_rounds (fun k => (span_carried.mono_l k) l l (l.length : Int) ((i + 1 : Nat) : Int)) (Nat.le_max_right k1 k2) hk2
        refine ⟨max k1 k2 + 1, ?_⟩
        rw [span_carried.l0, if_pos (by omega), if_pos (by omega), if_pos (by omega), m1, Option.bind_some, o1, if_pos rfl, hv, Option.bind_some, o2, if_pos rfl, w64s (by omega)]
        cases i with
        | zero => rw [if_neg (by omega)]; exact m2
        | succ j =>
          rw [if_pos (by omega), show wrap64 (((j + 1 : Nat) : Int) - 1) = (j : Int) by unfold wrap64; omega, if_pos (by omega), if_pos (by omega), if_pos (by simpa [keyLt] using o3)]
          exact m2
      · have hok0 : carOK l i = false := by simpa using hok
        rw [bad hok0]
        refine ⟨k1 + 1, ?_⟩
        rw [span_carried.l0, if_pos (by omega), if_pos (by omega), if_pos (by omega), hk1, Option.bind_some]
        cases o1 : keyF (rd_T120 l (i : Int)).f0 with
        | false => rw [if_neg (by decide)]
        | true =>
          rw [if_pos rfl, hv, Option.bind_some]
          cases o2 : valF (rd_T120 l (i : Int)).f1.f0 (rd_T120 l (i : Int)).f1.f1 (rd_T120 l (i : Int)).f1.f2 with
          | false => rw [if_neg (by decide)]
          | true =>
            rw [if_pos rfl]
            unfold carOK at hok0
            rw [o1, o2, Bool.true_and, Bool.true_and] at hok0
            cases i with
            | zero => simp [keyLt] at hok0
            | succ j =>
              rw [if_pos (by omega), show wrap64 (((j + 1 : Nat) : Int) - 1) = (j : Int) by unfold wrap64; omega, if_pos (by omega), if_pos (by omega), if_neg (by simpa [keyLt] using hok0)]
  exact key l.length 0 (by omega) rfl
/-! #### told -/
theorem cmp_less : ∀ (a b : List UInt8), (Lib.compareBytes a b < 0 ↔ Op.bytesLess a b = true)
  | [], [] => by simp [Lib.compareBytes, Op.bytesLess]
  | [], b :: ys => by simp [Lib.compareBytes, Op.bytesLess]
  | a :: xs, [] => by simp [Lib.compareBytes, Op.bytesLess]
  | a :: xs, b :: ys => by
    have ih := cmp_less xs ys
    simp only [Lib.compareBytes, Op.bytesLess, Bool.or_eq_true, Bool.and_eq_true, decide_eq_true_eq, beq_iff_eq]
    by_cases h1 : a < b
    · simp [h1]
    · by_cases h2 : b < a
      · have h3 : ¬ a = b := fun e => by subst e; exact h1 h2
        simp [h1, h2, h3]
      · have h3 : a = b := by
          have a1 : ¬ a.toNat < b.toNat := fun h => h1 h
          have a2 : ¬ b.toNat < a.toNat := fun h => h2 h
          exact UInt8.toNat_inj.1 (by omega)
        simp [h1, h2, h3, ih]
def evLt (a b : S122) : Bool := decide (a.f0 < b.f0) || (a.f0 == b.f0 && Op.bytesLess a.f1.toList b.f1.toList)
def cmpi (a b : Int) : Int := if a < b then -1 else if a > b then 1 else 0
theorem cmpi_run (x y : Int) : cmp_Compare_int64.f x y = some (cmpi x y) := by
  simp only [cmp_Compare_int64.f, cmp_isNaN_int64.f, Option.bind_some, bne_self_eq_false, Bool.false_eq_true, if_false]
  unfold cmpi
  split
  · rfl
  · split <;> rfl
theorem or2 (x y : Int) : cmp_Or_int.f 3 [x, y] = some (if x = 0 then y else x) := by
  have w1 : wrap64 1 = 1 := by kernel_rfl
  have w2 : wrap64 2 = 2 := by kernel_rfl
  by_cases hx : x = 0
  · subst hx
    by_cases hy : y = 0
    · subst hy; simp [cmp_Or_int.f, cmp_Or_int.l0, rd, w1, w2]
    · simp [cmp_Or_int.f, cmp_Or_int.l0, rd, w1, w2, hy]
  · simp [cmp_Or_int.f, cmp_Or_int.l0, rd, w1, w2, hx]
theorem ev_val (a b : S122) : ∃ c, span_events.f 3 a.f0 a.f1 b.f0 b.f1 = some c ∧ (0 ≤ c ↔ evLt a b = false) := by
  unfold span_events.f
  rw [cmpi_run, Option.bind_some]
  unfold strings_Compare.f
  rw [Option.bind_some, or2, Option.bind_some]
  refine ⟨_, rfl, ?_⟩
  have hc := cmp_less a.f1.data.toList b.f1.data.toList
  rw [← tl, ← tl] at hc
  unfold evLt cmpi
  rw [tl, tl] at hc
  rw [tl, tl]
  generalize Op.bytesLess a.f1.data.toList b.f1.data.toList = L at *
  generalize Lib.compareBytes a.f1.data.toList b.f1.data.toList = C at *
  by_cases h1 : a.f0 < b.f0
  · simp [h1]
  · by_cases h2 : a.f0 > b.f0
    · have h3 : ¬ a.f0 = b.f0 := by omega
      simp [h1, h2, h3]
    · have h3 : a.f0 = b.f0 := by omega
      rw [h3]
      simp
      cases L with
      | true => have := hc.2 rfl; simp; omega
      | false => have : ¬ C < 0 := fun h => by have := hc.1 h; simp at this
                 simp; omega
def evPre (l : List S122) : Nat → Bool
  | 0 => true
  | i + 1 => evLt (rd_T122 l (i : Int)) (rd_T122 l ((i + 1 : Nat) : Int))
def tolOK (l : List S122) (i : Nat) : Bool := (decide (0 ≤ (rd_T122 l (i : Int)).f0) && decide ((rd_T122 l (i : Int)).f0 ≤ 4611686018427387904)) && (plainF (rd_T122 l (i : Int)).f1 100 32 && evPre l i)
def tolTo (l : List S122) : Nat → Bool
  | 0 => true
  | k + 1 => tolTo l k && tolOK l k
def tolF (l : List S122) : Bool := tolTo l l.length && decide ((l.length : Int) ≤ 32)
theorem tolTo_false {l : List S122} {k : Nat} (h : tolOK l k = false) : ∀ n, k < n → tolTo l n = false
  | 0, hn => by omega
  | n + 1, hn => by
    rcases Nat.lt_or_ge k n with h1 | h1
    · simp only [tolTo, tolTo_false h n h1, Bool.false_and]
    · obtain rfl : k = n := by omega
      simp only [tolTo, h, Bool.and_false]
theorem tol_val (l : List S122) (h : okE l) : ∃ k, span_told.f k l = some (tolF l) := by
  have key : ∀ (d i : Nat), i + d = l.length → tolTo l i = true → ∃ k, span_told.l0 k l l (l.length : Int) (i : Int) = some (tolF l) := by
    intro d
    induction d with
    | zero =>
      intro i hi ho
      obtain rfl : i = l.length := by omega
      refine ⟨1, ?_⟩
      rw [span_told.l0, if_neg (by omega)]
      unfold tolF
      rw [ho, Bool.true_and]
    | succ d ih =>
      intro i hi ho
      have hl := h.1
      have hx := h.2 _ (rd122_mem (l := l) (k := i) (by omega))
      obtain ⟨k1, hk1⟩ := plain_val (rd_T122 l (i : Int)).f1 100 32 hx
      have bad : tolOK l i = false → tolF l = false := fun hc => by unfold tolF; rw [tolTo_false hc _ (by omega), Bool.false_and]
      have hk3 : ∀ k, 3 ≤ k → ∀ (a b : S122) c, span_events.f 3 a.f0 a.f1 b.f0 b.f1 = some c → span_events.f k a.f0 a.f1 b.f0 b.f1 = some c := fun k hk a b c hc => at_rounds (fun k => span_events.mono a.f0 a.f1 b.f0 b.f1 k) hk hc
      by_cases hok : tolOK l i = true
      · obtain ⟨k2, hk2⟩ := ih (i + 1) (by omega) (by simp only [tolTo, ho, hok, Bool.true_and])
        have hok' := hok
        unfold tolOK at hok'
        simp only [Bool.and_eq_true, decide_eq_true_eq] at hok'
        obtain ⟨⟨o1, o2⟩, o3, o4⟩ := hok'
        obtain ⟨K, hK⟩ : ∃ K, K = max (max k1 k2) 3 := ⟨_, rfl⟩
        have m1 := at_rounds (fun k => span_plain.mono (rd_T122 l (i : Int)).f1 100 32 k) (show k1 ≤ K by omega) hk1
        have m2 := at_rounds (fun k => (span_told.mono_l k) l l (l.length : Int) ((i + 1 : Nat) : Int)) (show k2 ≤ K by omega) hk2
        refine ⟨K + 1, ?_⟩
        rw [span_told.l0, if_pos (by omega), if_pos (by omega), if_pos (by omega), if_neg (by omega), if_neg (by omega), m1, Option.bind_some, o3, if_pos rfl, w64s (by omega)]
        cases i with
        | zero => rw [if_neg (by omega)]; exact m2
        | succ j =>
          obtain ⟨c, hc, hcc⟩ := ev_val (rd_T122 l (j : Int)) (rd_T122 l ((j + 1 : Nat) : Int))
          rw [if_pos (by omega), show wrap64 (((j + 1 : Nat) : Int) - 1) = (j : Int) by unfold wrap64; omega, if_pos (by omega), if_pos (by omega), hk3 K (by omega) _ _ _ hc, Option.bind_some, if_neg (fun h0 => by have o5 : evLt (rd_T122 l (j : Int)) (rd_T122 l ((j + 1 : Nat) : Int)) = true := o4; rw [hcc.1 h0] at o5; cases o5)]
          exact m2
      · have hok0 : tolOK l i = false := by simpa using hok
        rw [bad hok0]
        obtain ⟨K, hK⟩ : ∃ K, K = max k1 3 := ⟨_, rfl⟩
        have m1 := at_rounds (fun k => span_plain.mono (rd_T122 l (i : Int)).f1 100 32 k) (show k1 ≤ K by omega) hk1
        refine ⟨K + 1, ?_⟩
        rw [span_told.l0, if_pos (by omega), if_pos (by omega), if_pos (by omega)]
        by_cases o1 : (rd_T122 l (i : Int)).f0 < 0
        · rw [if_pos o1]
        rw [if_neg o1]
        by_cases o2 : (rd_T122 l (i : Int)).f0 > 4611686018427387904
        · rw [if_pos o2]
        rw [if_neg o2, m1, Option.bind_some]
        cases o3 : plainF (rd_T122 l (i : Int)).f1 100 32 with
        | false => rw [if_neg (by decide)]
        | true =>
          rw [if_pos rfl]
          unfold tolOK at hok0
          rw [decide_eq_true (by omega), decide_eq_true (by omega), o3, Bool.true_and, Bool.true_and, Bool.true_and] at hok0
          cases i with
          | zero => simp [evPre] at hok0
          | succ j =>
            obtain ⟨c, hc, hcc⟩ := ev_val (rd_T122 l (j : Int)) (rd_T122 l ((j + 1 : Nat) : Int))
            rw [if_pos (by omega), show wrap64 (((j + 1 : Nat) : Int) - 1) = (j : Int) by unfold wrap64; omega, if_pos (by omega), if_pos (by omega), hk3 K (by omega) _ _ _ hc, Option.bind_some, if_pos (hcc.2 (by simpa [evPre] using hok0))]
  exact key l.length 0 (by omega) rfl
end Mg
end Go.Proofs.YtdlnfmakfnggpaaDoor.Pr
namespace Go.Proofs.YtdlnfmakfnggpaaDoor.Pr
open Go.RowKit Go.Lib Go.Proofs.YtdlnfmakfnggpaaDoorW.PrintWords
set_option linter.unusedVariables false
set_option linter.unusedSimpArgs false
namespace Mg
/-- What is known of a span that came in. -/
structure okS (x : S43) : Prop where
  links : x.f3.length < 17592186044416
  sv : x.f4.size ≤ 140737488351232
  op : x.f5.size ≤ 140737488351232
  attrs : okA x.f10
  events : okE x.f11
  id : 0 ≤ x.f1 ∧ x.f1 ≤ 18446744073709551615
def chkS (x : S43) : Int := checkF x.f0.f0 x.f0.f1 x.f1 (plainF x.f4 60 33) (plainF x.f5 100 32) x.f6 x.f7 x.f8 x.f9 (linkF x.f3 x.f1) (carF x.f10) (tolF x.f11)
theorem check_val (x : S43) (h : okS x) : ∃ k, chkO k x = some (chkS x) := by
  obtain ⟨k1, h1⟩ := plain_val x.f4 60 33 h.sv
  obtain ⟨k2, h2⟩ := plain_val x.f5 100 32 h.op
  obtain ⟨k3, h3⟩ := link_val x.f0.f0 x.f0.f1 x.f1 x.f2 x.f3 x.f4 x.f5 x.f6 x.f7 x.f8 x.f9 x.f10 x.f11 (by have := h.links; omega)
  obtain ⟨k4, h4⟩ := car_val x.f10 h.attrs
  obtain ⟨k5, h5⟩ := tol_val x.f11 h.events
  obtain ⟨K, hK⟩ : ∃ K, K = max (max (max (max k1 k2) k3) k4) k5 := ⟨_, rfl⟩
  have m1 : ∀ k, K ≤ k → _ := fun k hk => at_rounds (fun k => span_plain.mono x.f4 60 33 k) (show k1 ≤ k by omega) h1
  have m2 : ∀ k, K ≤ k → _ := fun k hk => at_rounds (fun k => span_plain.mono x.f5 100 32 k) (show k2 ≤ k by omega) h2
  have m3 : ∀ k, K ≤ k → _ := fun k hk => at_rounds (fun k => span_linked.mono x.f0.f0 x.f0.f1 x.f1 x.f2 x.f3 x.f4 x.f5 x.f6 x.f7 x.f8 x.f9 x.f10 x.f11 k) (show k3 ≤ k by omega) h3
  have m4 : ∀ k, K ≤ k → _ := fun k hk => at_rounds (fun k => span_carried.mono x.f10 k) (show k4 ≤ k by omega) h4
  have m5 : ∀ k, K ≤ k → _ := fun k hk => at_rounds (fun k => span_told.mono x.f11 k) (show k5 ≤ k by omega) h5
  refine ⟨K + 4, ?_⟩
  unfold chkO chkS checkF
  generalize x.f0.f0 = hi at *
  generalize x.f0.f1 = lo at *
  generalize x.f1 = id at *
  generalize x.f6 = kd at *
  generalize x.f7 = st at *
  generalize x.f8 = s0 at *
  generalize x.f9 = s1 at *
  generalize plainF x.f4 60 33 = ps at *
  generalize plainF x.f5 100 32 = po at *
  generalize linkF x.f3 id = bl at *
  generalize carF x.f10 = bc at *
  generalize tolF x.f11 = bt at *
  have J3 : ∀ b, span_Check.j3 (K + 1) b hi lo id x.f2 x.f3 x.f4 x.f5 kd st s0 s1 x.f10 x.f11 = if b = true then some 44 else if bl = false then some 45 else if bc = false then some 46 else if bt = false then some 47 else some 0 := fun b => by
    rw [span_Check.j3, m3 K (Nat.le_refl _), Option.bind_some, m4 K (Nat.le_refl _), Option.bind_some, m5 K (Nat.le_refl _), Option.bind_some]
    cases b <;> cases bl <;> cases bc <;> cases bt <;> rfl
  have J2 : ∀ b, span_Check.j2 (K + 2) b hi lo id x.f2 x.f3 x.f4 x.f5 kd st s0 s1 x.f10 x.f11 = if b = true then some 43 else if ((kd < 0 ∨ 4 < kd) ∨ st < 0) ∨ 2 < st then some 44 else if bl = false then some 45 else if bc = false then some 46 else if bt = false then some 47 else some 0 := fun b => by
    rw [span_Check.j2]
    simp only [J3]
    cases b with
    | true => rfl
    | false =>
      rw [if_neg (show ¬ (false = true) by decide)]
      by_cases c1 : kd < 0
      · simp [c1]
      · by_cases c2 : kd > 4
        · simp [c1, c2]
        · by_cases c3 : st < 0
          · simp [c1, c2, c3]
          · by_cases c4 : st > 2 <;> simp [c1, c2, c3, c4]
  have J1 : ∀ b, span_Check.j1 (K + 3) b hi lo id x.f2 x.f3 x.f4 x.f5 kd st s0 s1 x.f10 x.f11 = if b = true then some 42 else if ps = false ∨ po = false then some 43 else if ((kd < 0 ∨ 4 < kd) ∨ st < 0) ∨ 2 < st then some 44 else if bl = false then some 45 else if bc = false then some 46 else if bt = false then some 47 else some 0 := fun b => by
    rw [span_Check.j1, m1 (K + 2) (by omega), Option.bind_some, m2 (K + 2) (by omega), Option.bind_some]
    simp only [J2]
    cases b <;> cases ps <;> cases po <;> simp
  have J0 : ∀ b, span_Check.j0 (K + 4) b hi lo id x.f2 x.f3 x.f4 x.f5 kd st s0 s1 x.f10 x.f11 = if b = true then some 41 else if (s0 < 0 ∨ s1 < s0) ∨ 4611686018427387904 < s1 then some 42 else if ps = false ∨ po = false then some 43 else if ((kd < 0 ∨ 4 < kd) ∨ st < 0) ∨ 2 < st then some 44 else if bl = false then some 45 else if bc = false then some 46 else if bt = false then some 47 else some 0 := fun b => by
    rw [span_Check.j0]
    simp only [J1]
    cases b with
    | true => rfl
    | false =>
      rw [if_neg (show ¬ (false = true) by decide)]
      by_cases c1 : s0 < 0
      · simp [c1]
      · by_cases c2 : s0 > s1
        · simp [c1, c2]
        · by_cases c3 : s1 > 4611686018427387904 <;> simp [c1, c2, c3]
  unfold span_Check.f
  rw [J0, J0]
  have hm : ∀ (p : Prop) [Decidable p] (a b : Int), (if p then some a else some b) = some (if p then a else b) := fun p _ a b => by split <;> rfl
  simp only [hm]
  by_cases c1 : (hi == 0 && (lo == 0)) = true
  · rw [if_pos c1]
    simp only [Bool.and_eq_true, beq_iff_eq] at c1
    rw [if_pos (Or.inl c1), if_pos trivial]
  · rw [if_neg c1]
    simp only [Bool.and_eq_true, beq_iff_eq] at c1
    by_cases c2 : id = 0
    · rw [if_pos (Or.inr c2), if_pos (beq_iff_eq.2 c2)]
    · rw [if_neg (show ¬ ((hi = 0 ∧ lo = 0) ∨ id = 0) by rintro (h | h); exact c1 h; exact c2 h), if_neg (by simpa using c2)]
theorem chk_mono (x : S43) (k : Nat) : LeO (chkO k x) (chkO (k + 1) x) := span_Check.mono _ _ _ _ _ _ _ _ _ _ _ _ _ k
theorem checks_val : ∀ (l : List S43), (∀ x ∈ l, okS x) → ∃ k, ∀ x ∈ l, chkO k x = some (chkS x)
  | [], _ => ⟨0, fun x hx => by simp at hx⟩
  | a :: r, h => by
    obtain ⟨k1, h1⟩ := checks_val r (fun x hx => h x (by simp [hx]))
    obtain ⟨k2, h2⟩ := check_val a (h a (by simp))
    refine ⟨max k1 k2, fun x hx => ?_⟩
    rcases List.mem_cons.1 hx with rfl | hx
    · exact at_rounds (fun k => chk_mono x k) (Nat.le_max_right _ _) h2
    · exact at_rounds (fun k => chk_mono x k) (Nat.le_max_left _ _) (h1 x hx)
/-! #### took -/
def minS (l : List S43) : Nat → Int
  | 0 => (rd_T43 l 0).f8
  | k + 1 => mn (minS l k) (rd_T43 l (k : Int)).f8
def maxE (l : List S43) : Nat → Int
  | 0 => (rd_T43 l 0).f9
  | k + 1 => mx (maxE l k) (rd_T43 l (k : Int)).f9
def tookV (l : List S43) : Int := IntKind.u64.wrap (wrap64 (maxE l l.length - minS l l.length))
theorem took_val (l : List S43) (h0 : 0 < l.length) (hl : l.length ≤ 140737488351232) : ∃ k, sample_took.f k l = some (tookV l) := by
  have key : ∀ (d i : Nat), i + d = l.length → sample_took.l0 (d + 1) (minS l i) (maxE l i) l (l.length : Int) (i : Int) = some (tookV l) := by
    intro d
    induction d with
    | zero =>
      intro i hi
      obtain rfl : i = l.length := by omega
      rw [sample_took.l0, if_neg (by omega)]; rfl
    | succ d ih =>
      intro i hi
      rw [sample_took.l0, if_pos (by omega), if_pos (by omega), if_pos (by omega), w64s (by omega)]
      exact ih (i + 1) (by omega)
  refine ⟨l.length + 1, ?_⟩
  unfold sample_took.f
  rw [if_pos (by omega)]
  exact key l.length 0 (by omega)
/-! #### Decide -/
def decV (l0 : List S30) (l1 : List S43) : Option (Bool × Int × Int × Int × Int) :=
  if polF l0 = 0 then (if oneF chkS l1 = true then (if l1.length = 0 then some (false, -1, 0, 0, 0) else (sample_Mix.f (rd_T43 l1 0).f0.f0 (rd_T43 l1 0).f0.f1).bind fun mx => decTail l0 l1 (tookV l1) mx) else some (false, 0, 0, 0, 101)) else some (false, 0, 0, 0, polF l0)
theorem decide_val (l0 : List S30) (l1 : List S43) (h0 : ∀ x ∈ l0, x.f2.size ≤ 140737488351232) (h1 : ∀ x ∈ l1, okS x) (hl : l1.length ≤ 140737488351232) (r : Bool × Int × Int × Int × Int) (hv : decV l0 l1 = some r) : ∃ k, sample_Decide.f k l0 l1 = some r := by
  have hc : sample_Check.f l0 = some (polF l0) := by
    unfold sample_Check.f
    rw [if_pos (List.all_eq_true.2 (fun x hx => by have := h0 x hx; simp; omega))]
  unfold decV at hv
  by_cases hz : polF l0 = 0
  · rw [if_pos hz] at hv
    obtain ⟨k1, hk1⟩ := checks_val l1 h1
    have hall : ∀ k, k1 ≤ k → (l1.all fun x => (chkO k x).isSome && decide (0 ≤ x.f1) && decide (x.f1 ≤ 18446744073709551615)) = true := fun k hk => by
      rw [List.all_eq_true]
      intro x hx
      have hid := (h1 x hx).id
      rw [at_rounds (fun k => chk_mono x k) hk (hk1 x hx), decide_eq_true hid.1, decide_eq_true hid.2]; rfl
    have hone : ∀ k, k1 ≤ k → oneF (chkK k) l1 = oneF chkS l1 := fun k hk => oneF_congr (fun x hx => by
      unfold chkK; rw [at_rounds (fun k => chk_mono x k) hk (hk1 x hx)]; rfl)
    by_cases ho : oneF chkS l1 = true
    · rw [if_pos ho] at hv
      by_cases hl0 : l1.length = 0
      · refine ⟨k1, ?_⟩
        unfold sample_Decide.f
        rw [hc, Option.bind_some, if_pos hz, if_pos (hall _ (Nat.le_refl _)), hone _ (Nat.le_refl _), if_pos ho, if_pos hl0]
        rwa [if_pos hl0] at hv
      · rw [if_neg hl0] at hv
        obtain ⟨k2, hk2⟩ := took_val l1 (by omega) hl
        refine ⟨max k1 k2, ?_⟩
        unfold sample_Decide.f
        rw [hc, Option.bind_some, if_pos hz, if_pos (hall _ (Nat.le_max_left _ _)), hone _ (Nat.le_max_left _ _), if_pos ho, if_neg hl0, at_rounds (fun k => sample_took.mono l1 k) (Nat.le_max_right k1 k2) hk2, Option.bind_some]
        exact hv
    · rw [if_neg ho] at hv
      refine ⟨k1, ?_⟩
      unfold sample_Decide.f
      rw [hc, Option.bind_some, if_pos hz, if_pos (hall _ (Nat.le_refl _)), hone _ (Nat.le_refl _), if_neg ho]
      exact hv
  · rw [if_neg hz] at hv
    refine ⟨0, ?_⟩
    unfold sample_Decide.f
    rw [hc, Option.bind_some, if_neg hz]
    exact hv
/-! #### the fold over policies -/
def maxP (l : List S30) : Nat → Int
  | 0 => 0
  | k + 1 => max (maxP l k) (rd_T30 l (k : Int)).f3
theorem rd30_mem {l : List S30} {k : Nat} (h : k < l.length) : rd_T30 l (k : Int) ∈ l := by simp [rd_T30, List.getD, h]
theorem take_any (l : List S30) (p : S30 → Bool) (k : Nat) (h : k < l.length) : (l.take (k + 1)).any p = ((l.take k).any p || p (rd_T30 l (k : Int))) := by
  rw [List.take_succ_eq_append_getElem h, List.any_append]
  simp [rd_T30, List.getD, h]
theorem dst_val (hf : S30 → Bool) (l : List S30) : ∀ n, n ≤ l.length → (dst hf l n).1 = maxP l n ∧ (dst hf l n).2.1 = (l.take n).any (fun p => hf p && (p.f0 != 4)) ∧ (dst hf l n).2.2.1 = (l.take n).any hf ∧ ((l.take n).any hf = false → (dst hf l n).2.2.2 = -1)
  | 0, _ => by simp [dst, maxP]
  | n + 1, hn => by
    obtain ⟨a, b, c, d⟩ := dst_val hf l n (by omega)
    rw [dst_succ, take_any l _ n (by omega), take_any l _ n (by omega)]
    unfold dstep
    refine ⟨by rw [a]; rfl, ?_, ?_, ?_⟩
    · simp only [b]; cases hf (rd_T30 l (n : Int)) <;> simp
    · simp only [c]; cases hf (rd_T30 l (n : Int)) <;> simp
    · intro he
      simp only [Bool.or_eq_false_iff] at he
      simp only [he.2, Bool.false_eq_true, if_false]
      exact d he.1
end Mg
end Go.Proofs.YtdlnfmakfnggpaaDoor.Pr
namespace Go.Proofs.YtdlnfmakfnggpaaDoor.Pr
open Go.RowKit Go.Lib Go.Proofs.YtdlnfmakfnggpaaDoorW.PrintWords Go.Proofs.YtdlnfmakfnggpaaDoorW.PrintMore
set_option linter.unusedVariables false
set_option linter.unusedSimpArgs false
namespace Mg
/-! #### what came in -/
theorem reach_eq : reachBytes = 140737488351232 := by unfold reachBytes; rfl
theorem b36 : Tryd.prog.bytesOf 36 = 8 := by kernel_rfl
theorem b120 : Tryd.prog.bytesOf 120 = 48 := by kernel_rfl
theorem b122 : Tryd.prog.bytesOf 122 = 24 := by kernel_rfl
theorem b43 : 168 ≤ Tryd.prog.bytesOf 43 := of_decide_eq_true (by kernel_rfl)
theorem okS_of {x : S43} (h : ok43 x) : okS x := by
  obtain ⟨_, h1, _, ⟨h3, _⟩, h4, h5, _, _, _, _, ⟨h10, h10'⟩, h11, h11'⟩ := h
  rw [b36, reach_eq] at h3
  rw [b120, reach_eq] at h10
  rw [b122, reach_eq] at h11
  have hid : 0 ≤ x.f1 ∧ x.f1 ≤ 18446744073709551615 := by simpa [Lit.wf, IntKind.min, IntKind.max, IntKind.signed, IntKind.bits] using h1
  exact ⟨by omega, h4, h5, ⟨by omega, fun y hy => ⟨(h10' y hy).1, (h10' y hy).2.2.1⟩⟩, ⟨by omega, fun y hy => (h11' y hy).2⟩, hid⟩
/-! #### renamed -/
def ren (hi lo : Int) (s : S43) : S43 := ⟨⟨hi, lo⟩, s.f1, s.f2, s.f3, s.f4, s.f5, s.f6, s.f7, s.f8, s.f9, s.f10, s.f11⟩
theorem okS_ren {x : S43} (hi lo : Int) (h : okS x) : okS (ren hi lo x) := ⟨h.links, h.sv, h.op, h.attrs, h.events, h.id⟩
theorem clone_val (x : S43) (h : okS x) : spoorref04_Clone.f x.f0.f0 x.f0.f1 x.f1 x.f2 x.f3 x.f4 x.f5 x.f6 x.f7 x.f8 x.f9 x.f10 x.f11 = some (x.f0.f0, x.f0.f1, x.f1, x.f2, x.f3, x.f4, x.f5, x.f6, x.f7, x.f8, x.f9, x.f10, x.f11) := by
  have h1 := h.links
  have h2 := h.attrs.1
  have h3 := h.events.1
  unfold spoorref04_Clone.f
  simp only [Option.bind_some, List.length_nil, Nat.zero_add, List.nil_append]
  rw [if_pos h1, if_pos h2, if_pos h3]
theorem renamed_val (l : List S43) (hi lo : Int) (h : ∀ x ∈ l, okS x) (hl : l.length ≤ 837723144971) : ∃ k, spoorlaw21_renamed.f k l hi lo = some (l.map (ren hi lo)) := by
  have key : ∀ (d i : Nat), i + d = l.length → spoorlaw21_renamed.l0 (d + 1) l ((l.take i).map (ren hi lo)) (i : Int) hi lo = some (l.map (ren hi lo)) := by
    intro d
    induction d with
    | zero =>
      intro i hi'
      obtain rfl : i = l.length := by omega
      rw [spoorlaw21_renamed.l0, if_neg (by omega), List.take_length]
    | succ d ih =>
      intro i hi'
      have hil : i < l.length := by omega
      rw [spoorlaw21_renamed.l0, if_pos (by omega), if_pos (by omega), clone_val _ (h _ (rd43_mem hil)), Option.bind_some, if_pos (by rw [List.length_map, List.length_take]; omega), w64s (by omega)]
      have := ih (i + 1) (by omega)
      rw [List.take_succ_eq_append_getElem hil, List.map_append] at this
      have e : rd_T43 l (i : Int) = l[i] := by simp [rd_T43, List.getD, hil]
      rw [e]
      exact this
  exact ⟨l.length + 1, key l.length 0 (by omega)⟩
/-! #### weight -/
theorem weight_val (l : List S43) (hl : l.length ≤ 140737488351232) : ∃ k v, spoorlaw21_weight.f k l = some v := by
  have key : ∀ (d i : Nat) (n : Int), i + d = l.length → ∃ v, spoorlaw21_weight.l0 (d + 1) l n (i : Int) = some v := by
    intro d
    induction d with
    | zero =>
      intro i n hi
      rw [spoorlaw21_weight.l0, if_neg (by omega)]; exact ⟨_, rfl⟩
    | succ d ih =>
      intro i n hi
      rw [spoorlaw21_weight.l0, if_pos (by omega)]
      by_cases c : n ≤ 2147483647
      · rw [if_pos c, if_pos (by omega), w64s (by omega)]; exact ih (i + 1) _ (by omega)
      · rw [if_neg c]; exact ⟨_, rfl⟩
  obtain ⟨v, hv⟩ := key l.length 0 0 (by omega)
  exact ⟨_, v, hv⟩
/-! #### policies that may be -/
theorem pol_zero {l : List S30} (h : polF l = 0) : l.length ≤ 20 ∧ ∀ x ∈ l, mayS x = true := by
  unfold polF at h
  by_cases c : 20 < l.length
  · rw [if_pos c] at h; omega
  · rw [if_neg c] at h
    refine ⟨by omega, fun x hx => ?_⟩
    by_cases c2 : (l.any fun x => !mayS x) = true
    · rw [if_pos c2] at h; omega
    · simp only [List.any_eq_true, not_exists, not_and, Bool.not_eq_true', Bool.not_eq_false] at c2
      exact c2 x hx
theorem pol_of {l : List S30} (h : l.length ≤ 20) (hm : ∀ x ∈ l, mayS x = true) : polF l = 0 := by
  unfold polF
  rw [if_neg (by omega), if_neg]
  simp only [List.any_eq_true, not_exists, not_and, Bool.not_eq_true', Bool.not_eq_false]
  exact hm
theorem may_part {x : S30} (h : mayS x = true) : (x.f0 = 4 → 0 ≤ x.f3 ∧ x.f3 ≤ 65536) ∧ (x.f0 ≠ 4 → x.f3 = 0) := by
  unfold mayS mayF at h
  constructor
  · intro e
    rw [e] at h
    simp at h
    omega
  · intro e
    by_cases e3 : x.f0 = 3
    · rw [e3] at h; simp at h; omega
    · simp [e, e3] at h; omega
theorem maxP_bd {l : List S30} (hm : ∀ x ∈ l, mayS x = true) : ∀ n, n ≤ l.length → 0 ≤ maxP l n ∧ maxP l n ≤ 65536
  | 0, _ => by simp [maxP]
  | n + 1, hn => by
    have ih := maxP_bd hm n (by omega)
    have h := may_part (hm _ (rd30_mem (l := l) (k := n) (by omega)))
    simp only [maxP]
    by_cases e : (rd_T30 l (n : Int)).f0 = 4
    · have := h.1 e; omega
    · have := h.2 e; omega
/-- A policy of the last kind keeps just what the greatest part keeps. -/
theorem any_part {l : List S30} (hm : ∀ x ∈ l, mayS x = true) (p : Int) (hp : 0 ≤ p) (hf : S30 → Bool) (h4 : ∀ x ∈ l, x.f0 = 4 → hf x = decide (p < x.f3)) (hs : ∀ x ∈ l, x.f0 ≠ 4 → hf x = false) : ∀ n, n ≤ l.length → (l.take n).any hf = decide (p < maxP l n)
  | 0, _ => by rw [List.take_zero, List.any_nil, decide_eq_false (show ¬ p < maxP l 0 by unfold maxP; omega)]
  | n + 1, hn => by
    have ih := any_part hm p hp hf h4 hs n (by omega)
    have hx := rd30_mem (l := l) (k := n) (by omega)
    have h := may_part (hm _ hx)
    rw [take_any l hf n (by omega), ih]
    have em : maxP l (n + 1) = max (maxP l n) (rd_T30 l (n : Int)).f3 := rfl
    by_cases e : (rd_T30 l (n : Int)).f0 = 4
    · rw [h4 _ hx e, Bool.eq_iff_iff, Bool.or_eq_true, decide_eq_true_eq, decide_eq_true_eq, decide_eq_true_eq, em]; omega
    · have e3 := h.2 e
      rw [hs _ hx e, Bool.eq_iff_iff, Bool.or_false, decide_eq_true_eq, decide_eq_true_eq, em]; omega
def hfM (R : List S43) (m : Int) : S30 → Bool := fun p => holdsF p R (tookV R) m
def sureL (l : List S30) : List S30 := l.filter (fun p => p.f0 != 4)
theorem decTail_some (l : List S30) (R : List S43) (m : Int) (h : ¬ ((dst (hfM R m) l l.length).2.1 = false ∧ (dst (hfM R m) l l.length).2.2.1 = true ∧ IntKind.u64.wrap (dst (hfM R m) l l.length).1 = 0)) :
    decTail l R (tookV R) m = some ((dst (hfM R m) l l.length).2.2.1, (dst (hfM R m) l l.length).2.2.2, 0, wtF (dst (hfM R m) l l.length), 0) := by
  unfold decTail
  exact if_neg h
end Mg
end Go.Proofs.YtdlnfmakfnggpaaDoor.Pr
namespace Go.Proofs.YtdlnfmakfnggpaaDoor.Pr
open Go.RowKit Go.Lib Go.Proofs.YtdlnfmakfnggpaaDoorW.PrintWords Go.Proofs.YtdlnfmakfnggpaaDoorW.PrintMore
set_option linter.unusedVariables false
set_option linter.unusedSimpArgs false
namespace Mg
/-- The verdicts on a trace whose mix is m, by all policies and by the sure ones: what SampleWeighs asks of them. -/
theorem verdicts (l : List S30) (R : List S43) (m : Int) (p : Int) (hp0 : 0 ≤ p) (hp : m / 281474976710656 = p) (hz : polF l = 0) (hR : 0 < R.length) (hmix : sample_Mix.f (rd_T43 R 0).f0.f0 (rd_T43 R 0).f0.f1 = some m) :
    (decV l R = some (false, 0, 0, 0, 101) ∧ decV (sureL l) R = some (false, 0, 0, 0, 101)) ∨
    ∃ vk vp vw wk wp ww, decV l R = some (vk, vp, 0, vw, 0) ∧ decV (sureL l) R = some (wk, wp, 0, ww, 0) ∧ (wk = true → vk = true ∧ vw = 65536) ∧ (wk = false → vk = decide (p < maxP l l.length)) ∧
      (wk = false → vk = true → vw = 4294967296 / maxP l l.length) ∧ (vk = false → vw = 0 ∧ vp = -1) := by
  obtain ⟨hlen, hmay⟩ := pol_zero hz
  have hsub : ∀ x ∈ sureL l, x ∈ l ∧ x.f0 ≠ 4 := fun x hx => by
    have := List.mem_filter.1 hx
    exact ⟨this.1, by simpa using this.2⟩
  have hzs : polF (sureL l) = 0 := pol_of (by have := List.length_filter_le (fun p : S30 => p.f0 != 4) l; unfold sureL; omega) (fun x hx => hmay x (hsub x hx).1)
  unfold decV
  have hR0 : ¬ R.length = 0 := by omega
  simp only [if_pos hz, if_pos hzs, if_neg hR0, hmix, Option.bind_some]
  by_cases ho : oneF chkS R = true
  · right
    simp only [if_pos ho]
    obtain ⟨a1, a2, a3, a4⟩ := dst_val (hfM R m) l l.length (Nat.le_refl _)
    obtain ⟨b1, b2, b3, b4⟩ := dst_val (hfM R m) (sureL l) (sureL l).length (Nat.le_refl _)
    rw [List.take_length] at a2 a3 a4 b2 b3 b4
    have hbd := maxP_bd hmay l.length (Nat.le_refl _)
    have hsure : (sureL l).any (hfM R m) = l.any (fun p => hfM R m p && (p.f0 != 4)) := by
      unfold sureL
      rw [List.any_filter]
      congr 1
      funext q
      rw [Bool.and_comm]
    have hb23 : (dst (hfM R m) (sureL l) (sureL l).length).2.1 = (dst (hfM R m) (sureL l) (sureL l).length).2.2.1 := by
      rw [b2, b3, Bool.eq_iff_iff, List.any_eq_true, List.any_eq_true]
      constructor
      · rintro ⟨x, hx, h⟩; exact ⟨x, hx, by simp only [Bool.and_eq_true] at h; exact h.1⟩
      · rintro ⟨x, hx, h⟩; exact ⟨x, hx, by rw [h, Bool.true_and]; simpa using (hsub x hx).2⟩
    -- without a sure one: the parts alone
    have hpart : (dst (hfM R m) l l.length).2.1 = false → l.any (hfM R m) = decide (p < maxP l l.length) := fun h0 => by
      rw [a2] at h0
      have h := any_part hmay p hp0 (hfM R m) (fun x hx e => ?_) (fun x hx e => ?_) l.length (Nat.le_refl _)
      · rwa [List.take_length] at h
      · have hw := (may_part (hmay x hx)).1 e
        unfold hfM holdsF
        rw [if_neg (by omega), if_neg (by omega), if_neg (by omega), if_pos e, hp, IntKind.wrap_u64, show x.f3 % 18446744073709551616 = x.f3 by omega]
      · have := List.any_eq_false.1 h0 x hx
        simpa [e] using this
    have hw : IntKind.u64.wrap (maxP l l.length) = maxP l l.length := by rw [IntKind.wrap_u64]; omega
    rw [decTail_some l R m (by
      rintro ⟨c1, c2, c3⟩
      rw [a1, hw] at c3
      rw [a3, hpart c1, c3] at c2
      simp at c2; omega), decTail_some (sureL l) R m (by
      rintro ⟨c1, c2, c3⟩
      rw [hb23, c2] at c1; cases c1)]
    refine ⟨_, _, _, _, _, _, rfl, rfl, ?_, ?_, ?_, ?_⟩
    · intro h
      rw [b3, hsure, ← a2] at h
      refine ⟨?_, ?_⟩
      · rw [a3, List.any_eq_true]
        rw [a2, List.any_eq_true] at h
        obtain ⟨x, hx, h⟩ := h
        exact ⟨x, hx, by simp only [Bool.and_eq_true] at h; exact h.1⟩
      · unfold wtF; rw [h]; rfl
    · intro h
      rw [b3, hsure, ← a2] at h
      rw [a3]; exact hpart h
    · intro h hk
      rw [b3, hsure, ← a2] at h
      unfold wtF
      rw [h, hk, a1, hw, if_neg (by decide), if_pos rfl]
      have hpos : p < maxP l l.length := by
        rw [a3, hpart h] at hk; simpa using hk
      rw [Int.tdiv_eq_ediv_of_nonneg (by omega)]
      have q0 : 0 ≤ 4294967296 / maxP l l.length := Int.ediv_nonneg (by omega) (by omega)
      have q1 : 4294967296 / maxP l l.length ≤ 4294967296 := Int.ediv_le_self _ (by omega)
      rw [IntKind.wrap_u64]; omega
    · intro h
      refine ⟨?_, a4 (by rw [a3] at h; exact h)⟩
      have h2 : (dst (hfM R m) l l.length).2.1 = false := by
        rw [a2, List.any_eq_false]
        intro x hx
        rw [a3, List.any_eq_false] at h
        have := h x hx
        simp only [Bool.not_eq_true] at this
        simp [this]
      unfold wtF
      rw [h2, h]; rfl
  · left
    simp only [if_neg ho]; exact ⟨trivial, trivial⟩
section
variable {l0 : List S30} {l1 : List S43} {a2 : Int} {P : List Int}
theorem div_bounds (q : Int) (h1 : 1 ≤ q) (h2 : q ≤ 65536) : ¬ (IntKind.u64.wrap (q * (4294967296 / q)) > 4294967296) ∧ ¬ (IntKind.u64.wrap (q * IntKind.u64.wrap (4294967296 / q + 1)) ≤ 4294967296) := by
  have d := Int.mul_ediv_add_emod 4294967296 q
  have m0 := Int.emod_nonneg 4294967296 (show q ≠ 0 by omega)
  have m1 := Int.emod_lt_of_pos 4294967296 (show 0 < q by omega)
  have q0 : 0 ≤ 4294967296 / q := Int.ediv_nonneg (by omega) (by omega)
  have q1 : 4294967296 / q ≤ 4294967296 := Int.ediv_le_self _ (by omega)
  have e : IntKind.u64.wrap (4294967296 / q + 1) = 4294967296 / q + 1 := by rw [IntKind.wrap_u64]; omega
  rw [e, Int.mul_add, Int.mul_one, IntKind.wrap_u64, IntKind.wrap_u64]
  generalize q * (4294967296 / q) = X at *
  omega
/-- One trial. -/
theorem weigh_one (hz : polF l0 = 0) (h0 : ∀ x ∈ l0, x.f2.size ≤ 140737488351232) (hS : ∀ x ∈ l1, okS x) (hl : 0 < l1.length) (hl2 : l1.length ≤ 837723144971) (ha : 0 ≤ a2 ∧ a2 ≤ 18446744073709551615) (i : Nat) (hi : i < P.length) (hP : P.length ≤ 100) (hp : 0 ≤ rd P (i : Int) ∧ rd P (i : Int) ≤ 65535) (t : Nat) (ht : t < 2)
    (h : ∃ k, spoorlaw21_SampleWeighs.l3 k l0 l1 a2 (maxP l0 l0.length) (sureL l0) P (i : Int) ((t + 1 : Nat) : Int) = some true) : ∃ k, spoorlaw21_SampleWeighs.l3 k l0 l1 a2 (maxP l0 l0.length) (sureL l0) P (i : Int) (t : Int) = some true := by
  obtain ⟨k0, hk0⟩ := h
  have mono3 : ∀ k, k0 ≤ k → spoorlaw21_SampleWeighs.l3 k l0 l1 a2 (maxP l0 l0.length) (sureL l0) P (i : Int) ((t + 1 : Nat) : Int) = some true := fun k hk => at_rounds (fun k => (spoorlaw21_SampleWeighs.mono_l k).2.2.2.2.1 l0 l1 a2 (maxP l0 l0.length) (sureL l0) P (i : Int) ((t + 1 : Nat) : Int)) hk hk0
  have hbd := maxP_bd (pol_zero hz).2 l0.length (Nat.le_refl _)
  generalize hpp : rd P (i : Int) = p at *
  obtain ⟨pn, rfl⟩ := Int.eq_ofNat_of_zero_le hp.1
  -- the mix, the name
  obtain ⟨m, hm⟩ : ∃ m : Nat, m = pn * 281474976710656 + t * 281474976710655 := ⟨_, rfl⟩
  have hm64 : m < 2 ^ 64 := by simp only [Nat.reducePow]; omega
  have em : IntKind.u64.wrap (IntKind.u64.wrap ((pn : Int) * 281474976710656) + IntKind.u64.wrap ((t : Int) * 281474976710655)) = (m : Int) := by simp only [IntKind.wrap_u64]; omega
  obtain ⟨lo, hlo⟩ : ∃ lo : Nat, IntKind.u64.wrap (a2 + IntKind.u64.wrap (i : Int)) = (lo : Int) ∧ lo < 2 ^ 64 := ⟨(IntKind.u64.wrap (a2 + IntKind.u64.wrap (i : Int))).toNat, by rw [IntKind.wrap_u64]; omega, by rw [IntKind.wrap_u64]; simp only [Nat.reducePow]; omega⟩
  have hnm := named_int m lo hm64 hlo.2
  have hmn := mix_int (namedN m lo) lo (namedN_lt m lo) hlo.2
  rw [mix_named m lo hm64 hlo.2] at hmn
  have hdiv : (m : Int) / 281474976710656 = (pn : Int) := by omega
  obtain ⟨R, hR⟩ : ∃ R, R = l1.map (ren ((namedN m lo : Nat) : Int) (lo : Int)) := ⟨_, rfl⟩
  have hRS : ∀ x ∈ R, okS x := fun x hx => by
    rw [hR] at hx
    obtain ⟨y, hy, rfl⟩ := List.mem_map.1 hx
    exact okS_ren _ _ (hS y hy)
  have hRl : R.length = l1.length := by rw [hR, List.length_map]
  have hR0 : (rd_T43 R 0).f0 = ⟨((namedN m lo : Nat) : Int), (lo : Int)⟩ := by
    have : 0 < R.length := by omega
    have e : rd_T43 R 0 = R[0] := by simp [rd_T43, List.getD, this]
    rw [e]
    simp only [hR, List.getElem_map]
    rfl
  obtain ⟨kr, hkr⟩ := renamed_val l1 ((namedN m lo : Nat) : Int) (lo : Int) hS hl2
  rw [← hR] at hkr
  have hv := verdicts l0 R (m : Int) (pn : Int) hp.1 hdiv hz (by omega) (by rw [hR0]; exact hmn)
  have hsz : ∀ x ∈ sureL l0, x.f2.size ≤ 140737488351232 := fun x hx => h0 x (List.mem_filter.1 hx).1
  have step : ∀ K, 9 ≤ K → spoorlaw21_SampleWeighs.l3 (K + 1) l0 l1 a2 (maxP l0 l0.length) (sureL l0) P (i : Int) (t : Int) = (if (((namedN m lo : Nat) : Int) == 0 && ((lo : Int) == 0)) = true then (spoorlaw21_SampleWeighs.l3 K l0 l1 a2 (maxP l0 l0.length) (sureL l0) P (i : Int) ((t + 1 : Nat) : Int)) else ((spoorlaw21_renamed.f K l1 ((namedN m lo : Nat) : Int) (lo : Int)).bind fun t480 => ((sample_Decide.f K l0 t480).bind fun bt483 => ((sample_Decide.f K (sureL l0) t480).bind fun bt489 => (if bt483.2.2.2.2 = bt489.2.2.2.2 then (if bt483.2.2.2.2 = 0 then (if bt489.1 = true then (if bt483.1 = true then (spoorlaw21_SampleWeighs.j6 K l0 l1 a2 (maxP l0 l0.length) (sureL l0) P (i : Int) (t : Int) bt483.2.2.2.1 (bt483.2.2.2.1 != 65536) bt483.1 bt483.2.1 bt483.2.2.1 bt483.2.2.2.1 bt489.1 bt489.2.1 bt489.2.2.1 bt489.2.2.2.1) else (spoorlaw21_SampleWeighs.j6 K l0 l1 a2 (maxP l0 l0.length) (sureL l0) P (i : Int) (t : Int) bt483.2.2.2.1 true bt483.1 bt483.2.1 bt483.2.2.1 bt483.2.2.2.1 bt489.1 bt489.2.1 bt489.2.2.1 bt489.2.2.2.1)) else (spoorlaw21_SampleWeighs.j6 K l0 l1 a2 (maxP l0 l0.length) (sureL l0) P (i : Int) (t : Int) bt483.2.2.2.1 false bt483.1 bt483.2.1 bt483.2.2.1 bt483.2.2.2.1 bt489.1 bt489.2.1 bt489.2.2.1 bt489.2.2.2.1)) else (spoorlaw21_SampleWeighs.l3 K l0 l1 a2 (maxP l0 l0.length) (sureL l0) P (i : Int) ((t + 1 : Nat) : Int))) else (some false)))))) := fun K hK => by
    rw [spoorlaw21_SampleWeighs.l3, if_pos (by omega), if_pos (by omega), if_pos (by omega), hpp, em, hlo.1, at_rounds (fun k => spoorlaw21_named.mono (m : Int) (lo : Int) k) hK hnm, Option.bind_some, show IntKind.u64.wrap ((t : Int) + 1) = ((t + 1 : Nat) : Int) by rw [IntKind.wrap_u64]; omega]
  by_cases hnull : (((namedN m lo : Nat) : Int) == 0 && ((lo : Int) == 0)) = true
  · refine ⟨max k0 9 + 1, ?_⟩
    rw [step _ (by omega), if_pos hnull]
    exact mono3 _ (by omega)
  rcases hv with ⟨hv, hw⟩ | ⟨vk, vp, vw, wk, wp, ww, hv, hw, c1, c2, c3, c4⟩
  · obtain ⟨k1, hk1⟩ := decide_val l0 R h0 hRS (by omega) _ hv
    obtain ⟨k2, hk2⟩ := decide_val (sureL l0) R hsz hRS (by omega) _ hw
    obtain ⟨K, hK⟩ : ∃ K, K = max (max (max k0 9) kr) (max k1 k2) := ⟨_, rfl⟩
    refine ⟨K + 1, ?_⟩
    rw [step K (by omega), if_neg hnull, at_rounds (fun k => spoorlaw21_renamed.mono l1 _ _ k) (show kr ≤ K by omega) hkr, Option.bind_some, at_rounds (fun k => sample_Decide.mono l0 R k) (show k1 ≤ K by omega) hk1, Option.bind_some, at_rounds (fun k => sample_Decide.mono (sureL l0) R k) (show k2 ≤ K by omega) hk2, Option.bind_some]
    rw [if_pos rfl, if_neg (by decide)]
    exact mono3 K (by omega)
  · obtain ⟨k1, hk1⟩ := decide_val l0 R h0 hRS (by omega) _ hv
    obtain ⟨k2, hk2⟩ := decide_val (sureL l0) R hsz hRS (by omega) _ hw
    obtain ⟨K, hK⟩ : ∃ K, K = max (max (max k0 9) kr) (max k1 k2) := ⟨_, rfl⟩
    have J8 : ∀ hk : vk = true ∨ (vw = 0 ∧ vp = -1), spoorlaw21_SampleWeighs.j8 (K + 1) l0 l1 a2 (maxP l0 l0.length) (sureL l0) P (i : Int) (t : Int) vw false vk vp 0 vw = some true := fun hk => by
      rw [spoorlaw21_SampleWeighs.j8, if_neg (by decide), if_pos rfl, show IntKind.u64.wrap ((t : Int) + 1) = ((t + 1 : Nat) : Int) by rw [IntKind.wrap_u64]; omega]
      by_cases hv : vk = true
      · rw [if_pos hv]; exact mono3 K (by omega)
      · obtain ⟨e1, e2⟩ := hk.resolve_left hv
        rw [if_neg hv, if_pos e1, if_pos e2]; exact mono3 K (by omega)
    have hJ8 : vk = true ∨ (vw = 0 ∧ vp = -1) := by
      cases vk with
      | true => exact .inl rfl
      | false => exact .inr (c4 rfl)
    have J6 : spoorlaw21_SampleWeighs.j6 (K + 3) l0 l1 a2 (maxP l0 l0.length) (sureL l0) P (i : Int) (t : Int) vw false vk vp 0 vw wk wp 0 ww = some true := by
      rw [spoorlaw21_SampleWeighs.j6, if_neg (by decide)]
      by_cases hk : wk = true
      · rw [if_pos hk, spoorlaw21_SampleWeighs.j7, if_neg (by decide), if_pos hk]
        exact J8 hJ8
      · have hkf : wk = false := by simpa using hk
        rw [if_neg hk, if_pos (by omega), if_pos (by omega), hpp, c2 hkf]
        rw [show (decide ((pn : Int) < maxP l0 l0.length) != decide ((pn : Int) < maxP l0 l0.length)) = false by simp, spoorlaw21_SampleWeighs.j7, if_neg (by decide), if_neg hk]
        by_cases hv : (pn : Int) < maxP l0 l0.length
        · have hvk : vk = true := by rw [c2 hkf]; simpa using hv
          have e := c3 hkf hvk
          have db := div_bounds (maxP l0 l0.length) (by omega) (by omega)
          rw [← e] at db
          rw [if_pos (by simpa using hv), if_neg db.1, decide_eq_false db.2]
          have := J8 hJ8
          rw [c2 hkf] at this
          exact this
        · rw [if_neg (by simpa using hv)]
          have := J8 hJ8
          rw [c2 hkf] at this
          exact this
    refine ⟨K + 3 + 1, ?_⟩
    rw [step (K + 3) (by omega), if_neg hnull, at_rounds (fun k => spoorlaw21_renamed.mono l1 _ _ k) (show kr ≤ K + 3 by omega) hkr, Option.bind_some, at_rounds (fun k => sample_Decide.mono l0 R k) (show k1 ≤ K + 3 by omega) hk1, Option.bind_some, at_rounds (fun k => sample_Decide.mono (sureL l0) R k) (show k2 ≤ K + 3 by omega) hk2, Option.bind_some]
    simp only
    rw [if_pos trivial, if_pos trivial]
    by_cases hk : wk = true
    · obtain ⟨e1, e2⟩ := c1 hk
      rw [if_pos hk, if_pos e1, show (vw != 65536) = false by rw [e2]; rfl]
      exact J6
    · rw [if_neg hk]; exact J6
end
end Mg
end Go.Proofs.YtdlnfmakfnggpaaDoor.Pr
namespace Go.Proofs.YtdlnfmakfnggpaaDoor.Pure
open Go.RowKit Go.Proofs.YtdlnfmakfnggpaaDoor.Pr Go.Proofs.YtdlnfmakfnggpaaDoor.Pr.Mg Go.Proofs.YtdlnfmakfnggpaaDoorW.PrintWords Go.Proofs.YtdlnfmakfnggpaaDoorW.PrintLast Go.Proofs.YtdlnfmakfnggpaaDoorW.PrintMore
set_option linter.unusedVariables false
set_option linter.unusedSimpArgs false
section
variable {l0 : List S30} {l1 : List S43} {a2 : Int}
theorem places_ok (hz : polF l0 = 0) (h0 : ∀ x ∈ l0, x.f2.size ≤ 140737488351232) (hS : ∀ x ∈ l1, okS x) (hl : 0 < l1.length) (hl2 : l1.length ≤ 837723144971) (ha : 0 ≤ a2 ∧ a2 ≤ 18446744073709551615) (P : List Int) (hP : P.length ≤ 100) (hp : ∀ i : Nat, i < P.length → 0 ≤ rd P (i : Int) ∧ rd P (i : Int) ≤ 65535) :
    ∀ d i : Nat, i + d = P.length → ∃ k, spoorlaw21_SampleWeighs.l2 k l0 l1 a2 (maxP l0 l0.length) (sureL l0) P (i : Int) = some true := by
  intro d
  induction d with
  | zero =>
    intro i hi
    refine ⟨1, ?_⟩
    rw [spoorlaw21_SampleWeighs.l2, if_neg (by omega)]
  | succ d ih =>
    intro i hi
    obtain ⟨k, hk⟩ := ih (i + 1) (by omega)
    have s2 : ∃ k, spoorlaw21_SampleWeighs.l3 k l0 l1 a2 (maxP l0 l0.length) (sureL l0) P (i : Int) ((1 + 1 : Nat) : Int) = some true := by
      refine ⟨k + 1, ?_⟩
      rw [spoorlaw21_SampleWeighs.l3, if_neg (by omega), w64s (by omega)]
      exact hk
    have s1 := weigh_one hz h0 hS hl hl2 ha i (by omega) hP (hp i (by omega)) 1 (by omega) s2
    obtain ⟨k', hk'⟩ := weigh_one hz h0 hS hl hl2 ha i (by omega) hP (hp i (by omega)) 0 (by omega) s1
    refine ⟨k' + 1, ?_⟩
    rw [spoorlaw21_SampleWeighs.l2, if_pos (by omega)]
    exact hk'
theorem tmod_bd (x : Int) : 0 ≤ Int.tmod (IntKind.u64.wrap x) 65536 ∧ Int.tmod (IntKind.u64.wrap x) 65536 ≤ 65535 := by
  have h : 0 ≤ IntKind.u64.wrap x := by rw [IntKind.wrap_u64]; omega
  rw [Int.tmod_eq_emod_of_nonneg h]
  omega
theorem at_ok (hz : polF l0 = 0) (h0 : ∀ x ∈ l0, x.f2.size ≤ 140737488351232) (hS : ∀ x ∈ l1, okS x) (hl : 0 < l1.length) (hl2 : l1.length ≤ 837723144971) (ha : 0 ≤ a2 ∧ a2 ≤ 18446744073709551615) (l3 : List Int) :
    ∀ (d i : Nat) (P : List Int), i + d = 5 → P.length ≤ 4 + i → (∀ x ∈ P, 0 ≤ x ∧ x ≤ 65535) → ∃ k, spoorlaw21_SampleWeighs.l1 k l0 l1 a2 l3 (maxP l0 l0.length) (sureL l0) P (i : Int) = some true := by
  intro d
  induction d with
  | zero =>
    intro i P hi hP hp
    obtain ⟨k, hk⟩ := places_ok hz h0 hS hl hl2 ha P (by omega) (fun i hi => by
      have : rd P (i : Int) = P[i] := by simp [rd, List.getD, hi]
      rw [this]; exact hp _ (List.getElem_mem hi)) P.length 0 (by omega)
    refine ⟨k + 2, ?_⟩
    rw [spoorlaw21_SampleWeighs.l1]
    have : spoorlaw21_SampleWeighs.j3 (k + 1) l0 l1 a2 (maxP l0 l0.length) (sureL l0) P = some true := by rw [spoorlaw21_SampleWeighs.j3]; exact hk
    rw [this]
    split
    · rw [if_neg (by omega)]
    · rfl
  | succ d ih =>
    intro i P hi hP hp
    obtain ⟨k, hk⟩ := places_ok hz h0 hS hl hl2 ha P (by omega) (fun i hi => by
      have : rd P (i : Int) = P[i] := by simp [rd, List.getD, hi]
      rw [this]; exact hp _ (List.getElem_mem hi)) P.length 0 (by omega)
    have hj : spoorlaw21_SampleWeighs.j3 (k + 1) l0 l1 a2 (maxP l0 l0.length) (sureL l0) P = some true := by rw [spoorlaw21_SampleWeighs.j3]; exact hk
    by_cases c1 : (i : Int) < (l3.length : Int)
    · by_cases c2 : (i : Int) < 4
      · obtain ⟨k2, hk2⟩ := ih (i + 1) (P ++ [Int.tmod (IntKind.u64.wrap (rd l3 (i : Int))) 65536]) (by omega) (by rw [List.length_append]; simp; omega) (fun x hx => by
          rcases List.mem_append.1 hx with hx | hx
          · exact hp x hx
          · rw [List.mem_singleton.1 hx]; exact tmod_bd _)
        refine ⟨k2 + 1, ?_⟩
        rw [spoorlaw21_SampleWeighs.l1, if_pos c1, if_pos c2, if_pos (by omega), if_pos (by omega), w64s (by omega)]
        exact hk2
      · refine ⟨k + 2, ?_⟩
        rw [spoorlaw21_SampleWeighs.l1, if_pos c1, if_neg c2]
        exact hj
    · refine ⟨k + 2, ?_⟩
      rw [spoorlaw21_SampleWeighs.l1, if_neg c1]
      exact hj
theorem mx_max (a b : Int) : mx a b = max a b := by unfold mx; split <;> omega
theorem mn_min (a b : Int) : mn a b = min a b := by unfold mn; split <;> omega
theorem pols_ok (hz : polF l0 = 0) (h0 : ∀ x ∈ l0, x.f2.size ≤ 140737488351232) (hS : ∀ x ∈ l1, okS x) (hl : 0 < l1.length) (hl2 : l1.length ≤ 837723144971) (ha : 0 ≤ a2 ∧ a2 ≤ 18446744073709551615) (l3 : List Int) :
    ∀ (d i : Nat), i + d = l0.length → ∃ k, spoorlaw21_SampleWeighs.l0 k l0 l1 a2 l3 (maxP l0 i) (sureL (l0.take i)) (i : Int) = some true := by
  obtain ⟨hlen, hmay⟩ := pol_zero hz
  intro d
  induction d with
  | zero =>
    intro i hi
    obtain rfl : i = l0.length := by omega
    have hb := maxP_bd hmay l0.length (Nat.le_refl _)
    obtain ⟨k, hk⟩ := at_ok hz h0 hS hl hl2 ha l3 5 0 ([0, 65535, IntKind.u64.wrap (mx (maxP l0 l0.length) 1 - 1), mn (maxP l0 l0.length) 65535]) (by omega) (by simp) (fun x hx => by
      rw [mx_max, mn_min, IntKind.wrap_u64] at hx
      simp only [List.mem_cons, List.not_mem_nil, or_false] at hx
      rcases hx with rfl | rfl | rfl | rfl <;> omega)
    refine ⟨k + 1, ?_⟩
    rw [spoorlaw21_SampleWeighs.l0, if_neg (by omega), List.take_length]
    exact hk
  | succ d ih =>
    intro i hi
    obtain ⟨k, hk⟩ := ih (i + 1) (by omega)
    refine ⟨k + 1, ?_⟩
    have hx := rd30_mem (l := l0) (k := i) (by omega)
    have hm := may_part (hmay _ hx)
    have htk : l0.take (i + 1) = l0.take i ++ [rd_T30 l0 (i : Int)] := by
      rw [List.take_succ_eq_append_getElem (by omega)]
      simp [rd_T30, List.getD, show i < l0.length by omega]
    have hb := maxP_bd hmay i (by omega)
    rw [spoorlaw21_SampleWeighs.l0, if_pos (by omega), if_pos (by omega), w64s (by omega)]
    simp only [maxP, htk] at hk
    unfold sureL at hk ⊢
    rw [List.filter_append] at hk
    by_cases e : (rd_T30 l0 (i : Int)).f0 = 4
    · have h3 := hm.1 e
      rw [if_pos e, mx_max, IntKind.wrap_u64, show (rd_T30 l0 (i : Int)).f3 % 18446744073709551616 = (rd_T30 l0 (i : Int)).f3 by omega]
      rw [List.filter_cons_of_neg (by simp [e]), List.filter_nil, List.append_nil] at hk
      exact hk
    · have h3 := hm.2 e
      have hfl := List.length_filter_le (fun p : S30 => p.f0 != 4) (l0.take i)
      rw [List.length_take] at hfl
      rw [if_neg e, if_pos (by omega)]
      rw [List.filter_cons_of_pos (by simpa using e), List.filter_nil, h3, show max (maxP l0 i) 0 = maxP l0 i by omega] at hk
      exact hk
end
theorem SampleWeighs : ∀ (l0 : List (S30)) (l1 : List (S43)) (a2 : Int) (l3 : List Int), (((l0).length * Tryd.prog.bytesOf 30 ≤ reachBytes ∧ ∀ x ∈ l0, ok30 x)) → (((l1).length * Tryd.prog.bytesOf 43 ≤ reachBytes ∧ ∀ x ∈ l1, ok43 x)) → ((Lit.int .u64 a2).wf = true) → (((l3).length * Tryd.prog.bytesOf 3 ≤ reachBytes ∧ ∀ x ∈ l3, (Lit.int .i64 x).wf = true)) → ∃ k, spoorlaw21_SampleWeighs.f k l0 l1 a2 l3 = some true := by
  intro l0 l1 a2 l3 hA hB ha _
  have ha : 0 ≤ a2 ∧ a2 ≤ 18446744073709551615 := by simpa [Lit.wf, IntKind.min, IntKind.max, IntKind.signed, IntKind.bits] using ha
  have h0 : ∀ x ∈ l0, x.f2.size ≤ 140737488351232 := fun x hx => (hA.2 x hx).2.2.1
  have hS : ∀ x ∈ l1, okS x := fun x hx => okS_of (hB.2 x hx)
  have hl2 : l1.length ≤ 837723144971 := by
    have h1 := hB.1
    rw [Mg.reach_eq] at h1
    have h2 : l1.length * 168 ≤ l1.length * Tryd.prog.bytesOf 43 := Nat.mul_le_mul_left _ b43
    omega
  have hc : sample_Check.f l0 = some (polF l0) := by
    unfold sample_Check.f
    rw [if_pos (List.all_eq_true.2 (fun x hx => by have := h0 x hx; simp; omega))]
  have j0t : ∀ k, spoorlaw21_SampleWeighs.j0 (k + 1) l0 l1 a2 l3 true true = some true := fun k => by rw [spoorlaw21_SampleWeighs.j0, if_pos rfl]
  unfold spoorlaw21_SampleWeighs.f
  by_cases hz : polF l0 = 0
  · by_cases hl : l1.length = 0
    · refine ⟨1, ?_⟩
      rw [show spoorlaw21_alive.f = some true from rfl, Option.bind_some, if_pos rfl, hc, Option.bind_some, if_pos hz, if_pos (by omega)]
      exact j0t 0
    · obtain ⟨kw, v, hw⟩ := weight_val l1 (by omega)
      obtain ⟨k, hk⟩ := pols_ok hz h0 hS (by omega) hl2 ha l3 l0.length 0 (by omega)
      refine ⟨max kw k + 1, ?_⟩
      rw [show spoorlaw21_alive.f = some true from rfl, Option.bind_some, if_pos rfl, hc, Option.bind_some, if_pos hz, if_neg (by omega), at_rounds (fun k => spoorlaw21_weight.mono l1 k) (show kw ≤ max kw k + 1 by omega) hw, Option.bind_some, spoorlaw21_SampleWeighs.j0]
      split
      · rfl
      · exact at_rounds (fun k => (spoorlaw21_SampleWeighs.mono_l k).2.1 l0 l1 a2 l3 0 [] 0) (Nat.le_max_right kw k) hk
  · refine ⟨1, ?_⟩
    rw [show spoorlaw21_alive.f = some true from rfl, Option.bind_some, if_pos rfl, hc, Option.bind_some, if_neg hz]
    exact j0t 0
end Go.Proofs.YtdlnfmakfnggpaaDoor.Pure
