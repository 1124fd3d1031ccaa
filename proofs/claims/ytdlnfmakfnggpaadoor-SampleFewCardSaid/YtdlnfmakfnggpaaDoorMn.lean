/- Plain laws of bits: Len64, and Div64 answers; a list of traces is the same as itself. -/
import Derived.Test.YtdlnfmakfnggpaaDoorPr0c
import Derived.Laws.MathBits
import Derived.Test.YtdlnfmakfnggpaaDoorXTr
namespace Go.Proofs.YtdlnfmakfnggpaaDoor.Pr
set_option linter.unusedVariables false
set_option linter.unusedSimpArgs false
open Go.RowKit Go.Proofs.YtdlnfmakfnggpaaDoorW.PrintWords
namespace Mb
theorem w64 {n : Int} (h : -9223372036854775808 ≤ n) (h' : n ≤ 9223372036854775807) : wrap64 n = n := by unfold wrap64; omega
def tab : ByteArray := (⟨#[0, 1, 2, 2, 3, 3, 3, 3, 4, 4, 4, 4, 4, 4, 4, 4, 5, 5, 5, 5, 5, 5, 5, 5, 5, 5, 5, 5, 5, 5, 5, 5, 6, 6, 6, 6, 6, 6, 6, 6, 6, 6, 6, 6, 6, 6, 6, 6, 6, 6, 6, 6, 6, 6, 6, 6, 6, 6, 6, 6, 6, 6, 6, 6, 7, 7, 7, 7, 7, 7, 7, 7, 7, 7, 7, 7, 7, 7, 7, 7, 7, 7, 7, 7, 7, 7, 7, 7, 7, 7, 7, 7, 7, 7, 7, 7, 7, 7, 7, 7, 7, 7, 7, 7, 7, 7, 7, 7, 7, 7, 7, 7, 7, 7, 7, 7, 7, 7, 7, 7, 7, 7, 7, 7, 7, 7, 7, 7, 8, 8, 8, 8, 8, 8, 8, 8, 8, 8, 8, 8, 8, 8, 8, 8, 8, 8, 8, 8, 8, 8, 8, 8, 8, 8, 8, 8, 8, 8, 8, 8, 8, 8, 8, 8, 8, 8, 8, 8, 8, 8, 8, 8, 8, 8, 8, 8, 8, 8, 8, 8, 8, 8, 8, 8, 8, 8, 8, 8, 8, 8, 8, 8, 8, 8, 8, 8, 8, 8, 8, 8, 8, 8, 8, 8, 8, 8, 8, 8, 8, 8, 8, 8, 8, 8, 8, 8, 8, 8, 8, 8, 8, 8, 8, 8, 8, 8, 8, 8, 8, 8, 8, 8, 8, 8, 8, 8, 8, 8, 8, 8, 8, 8, 8, 8, 8, 8, 8, 8, 8, 8, 8, 8, 8, 8, 8, 8]⟩ : ByteArray)
theorem tab_fin : ∀ m : Fin 256, bt tab ((m : Nat) : Int) = ((bitLen m : Nat) : Int) := by decide +kernel
theorem tab_get (i : Int) (h0 : 0 ≤ i) (h : i < 256) : bt tab i = ((bitLen i.toNat : Nat) : Int) := by
  have := tab_fin ⟨i.toNat, by omega⟩
  simpa [Int.toNat_of_nonneg h0] using this
theorem j0_eq (k : Nat) (x0 x2 : Int) : bits_Len64.j0 (k + 1) x0 x2 = (if x0 ≥ 65536 then (if (x0 / 65536) ≥ 256 then (if 0 ≤ (((x0 / 65536) / 256) % 256) then (if (((x0 / 65536) / 256) % 256) < 256 then (some (wrap64 ((wrap64 ((wrap64 (x2 + 16)) + 8)) + (wrap64 (bt tab (((x0 / 65536) / 256) % 256)))))) else (none)) else (none)) else (if 0 ≤ ((x0 / 65536) % 256) then (if ((x0 / 65536) % 256) < 256 then (some (wrap64 ((wrap64 (x2 + 16)) + (wrap64 (bt tab ((x0 / 65536) % 256)))))) else (none)) else (none))) else (if x0 ≥ 256 then (if 0 ≤ ((x0 / 256) % 256) then (if ((x0 / 256) % 256) < 256 then (some (wrap64 ((wrap64 (x2 + 8)) + (wrap64 (bt tab ((x0 / 256) % 256)))))) else (none)) else (none)) else (if 0 ≤ ((x0) % 256) then (if ((x0) % 256) < 256 then (some (wrap64 (x2 + (wrap64 (bt tab ((x0) % 256)))))) else (none)) else (none)))) := rfl
theorem bitLen_le64 (n : Nat) (h : n ≤ 18446744073709551615) : bitLen n ≤ 64 := by
  have h1 := bitLen_spec n
  by_cases e : n = 0
  · subst e; simp [bitLen]
  · have h2 := h1.2 e
    have : ¬ 64 < bitLen n := fun hc => by
      have h3 : 2 ^ 64 ≤ 2 ^ (bitLen n - 1) := Nat.pow_le_pow_right (by decide) (by omega)
      have : (2 : Nat) ^ 64 = 18446744073709551616 := by simp only [Nat.reducePow]
      omega
    omega
theorem len64 (k : Nat) (v : Int) (h0 : 0 ≤ v) (h1 : v ≤ 18446744073709551615) : bits_Len64.f (k + 1) v = some ((bitLen v.toNat : Nat) : Int) := by
  have key : ∀ (x n : Int), 0 ≤ x → x ≤ 4294967295 → 0 ≤ n → n ≤ 32 → bits_Len64.j0 (k + 1) x n = some (n + ((bitLen x.toNat : Nat) : Int)) := by
    intro x n hx0 hx1 hn0 hn1
    have tg := tab_get
    rw [j0_eq]
    have b8 : ∀ y : Int, 0 ≤ y → y < 256 → bitLen y.toNat ≤ 8 := fun y h0 h1 => bitLen_le8 _ (by omega)
    by_cases c1 : x ≥ 65536
    · rw [if_pos c1]
      by_cases c2 : x / 65536 ≥ 256
      · rw [if_pos c2, if_pos (by omega), if_pos (by omega), tg _ (by omega) (by omega)]
        have e := bitLen_shift x.toNat 24 (by simp only [Nat.reducePow]; omega)
        have e2 : (x / 65536 / 256 % 256).toNat = x.toNat / 2 ^ 24 := by simp only [Nat.reducePow]; omega
        have := b8 (x / 65536 / 256 % 256) (by omega) (by omega)
        rw [e2] at this ⊢
        rw [e]
        congr 1; unfold wrap64; omega
      · rw [if_neg c2, if_pos (by omega), if_pos (by omega), tg _ (by omega) (by omega)]
        have e := bitLen_shift x.toNat 16 (by simp only [Nat.reducePow]; omega)
        have e2 : (x / 65536 % 256).toNat = x.toNat / 2 ^ 16 := by simp only [Nat.reducePow]; omega
        have := b8 (x / 65536 % 256) (by omega) (by omega)
        rw [e2] at this ⊢
        rw [e]
        congr 1; unfold wrap64; omega
    · rw [if_neg c1]
      by_cases c2 : x ≥ 256
      · rw [if_pos c2, if_pos (by omega), if_pos (by omega), tg _ (by omega) (by omega)]
        have e := bitLen_shift x.toNat 8 (by simp only [Nat.reducePow]; omega)
        have e2 : (x / 256 % 256).toNat = x.toNat / 2 ^ 8 := by simp only [Nat.reducePow]; omega
        have := b8 (x / 256 % 256) (by omega) (by omega)
        rw [e2] at this ⊢
        rw [e]
        congr 1; unfold wrap64; omega
      · rw [if_neg c2, if_pos (by omega), if_pos (by omega), tg _ (by omega) (by omega)]
        have e2 : (x % 256).toNat = x.toNat := by omega
        have := b8 (x % 256) (by omega) (by omega)
        rw [e2] at this ⊢
        congr 1; unfold wrap64; omega
  unfold bits_Len64.f
  by_cases c : v ≥ 4294967296
  · rw [if_pos c, key _ _ (by omega) (by omega) (by omega) (by omega)]
    have e := bitLen_shift v.toNat 32 (by simp only [Nat.reducePow]; omega)
    rw [e]
    have e2 : (v / 4294967296).toNat = v.toNat / 2 ^ 32 := by simp only [Nat.reducePow]; omega
    rw [e2]
    congr 1
  · rw [if_neg c, key _ _ h0 (by omega) (by omega) (by omega)]
    simp


theorem lz (v : Int) (h0 : 0 < v) (h1 : v ≤ 18446744073709551615) : bits_LeadingZeros64.f 40 v = some (64 - ((bitLen v.toNat : Nat) : Int)) := by
  unfold bits_LeadingZeros64.f
  rw [len64 39 v (by omega) h1, Option.bind_some]
  have := bitLen_le64 v.toNat (by omega)
  rw [w64 (by omega) (by omega)]
theorem rhat (u x9 : Int) (h0 : 0 ≤ u) (h1 : u < 18446744073709551616) (hx : 2147483648 ≤ x9) (hx2 : x9 < 4294967296) :
    0 ≤ IntKind.u64.wrap (u - IntKind.u64.wrap (IntKind.u64.wrap (Int.tdiv u x9) * x9)) ∧ IntKind.u64.wrap (u - IntKind.u64.wrap (IntKind.u64.wrap (Int.tdiv u x9) * x9)) < 4294967296 := by
  have e0 : Int.tdiv u x9 = u / x9 := Int.tdiv_eq_ediv_of_nonneg h0
  have q0 : 0 ≤ u / x9 := Int.ediv_nonneg h0 (by omega)
  have q1 : u / x9 ≤ u := Int.ediv_le_self _ h0
  have e1 : IntKind.u64.wrap (u / x9) = u / x9 := by rw [IntKind.wrap_u64]; omega
  have m0 := Int.emod_nonneg u (show x9 ≠ 0 by omega)
  have m1 := Int.emod_lt_of_pos u (show 0 < x9 by omega)
  have d := Int.mul_ediv_add_emod u x9
  have hmul : u / x9 * x9 = u - u % x9 := by rw [Int.mul_comm]; omega
  have q2 : 0 ≤ u / x9 * x9 := Int.mul_nonneg q0 (by omega)
  have e2 : IntKind.u64.wrap (u / x9 * x9) = u - u % x9 := by rw [hmul, IntKind.wrap_u64]; omega
  rw [e0, e1, e2, show u - (u - u % x9) = u % x9 by omega, IntKind.wrap_u64]
  omega
theorem wlt (x : Int) : 0 ≤ IntKind.u64.wrap x ∧ IntKind.u64.wrap x < 18446744073709551616 := by rw [IntKind.wrap_u64]; omega
theorem l1_last (k : Nat) (x2 x8 x9 x10 x14 x15 x16 x17 x18 : Int) (h8 : 0 ≤ x8) (h9 : 2147483648 ≤ x9) (h92 : x9 < 4294967296) (h16 : 2147483648 ≤ x16) (h162 : x16 < 4294967296) :
    ∃ r, bits_Div64.l1 (k + 2) x2 x8 x9 x10 x14 x15 x16 x17 x18 = some r := by
  have hw : IntKind.u64.wrap (x16 + x9) ≥ 4294967296 := by rw [IntKind.wrap_u64]; omega
  have hj : ∀ c, ∃ r, bits_Div64.j4 (k + 1) x2 x8 x9 x10 x14 x15 x16 x17 x18 c = some r := fun c => by
    cases c with
    | true => simp only [bits_Div64.j4, if_true, if_pos hw, if_pos h8]; exact ⟨_, rfl⟩
    | false => simp only [bits_Div64.j4, Bool.false_eq_true, if_false, if_pos h8]; exact ⟨_, rfl⟩
  simp only [bits_Div64.l1]
  split
  · exact hj _
  · exact hj _
theorem l1_ok (k : Nat) (x2 x8 x9 x10 x14 x15 x16 x17 x18 : Int) (h8 : 0 ≤ x8) (h9 : 2147483648 ≤ x9) (h92 : x9 < 4294967296) (h16 : 0 ≤ x16) (h162 : x16 < 4294967296) :
    ∃ r, bits_Div64.l1 (k + 4) x2 x8 x9 x10 x14 x15 x16 x17 x18 = some r := by
  have hj : ∀ c, ∃ r, bits_Div64.j4 (k + 3) x2 x8 x9 x10 x14 x15 x16 x17 x18 c = some r := fun c => by
    cases c with
    | true =>
      simp only [bits_Div64.j4, if_true, if_pos h8]
      split
      · exact ⟨_, rfl⟩
      · rename_i hw
        have e : IntKind.u64.wrap (x16 + x9) = x16 + x9 := by rw [IntKind.wrap_u64]; omega
        rw [e] at hw ⊢
        exact l1_last k x2 x8 x9 x10 x14 x15 _ x17 _ h8 h9 h92 (by omega) (by omega)
    | false => simp only [bits_Div64.j4, Bool.false_eq_true, if_false, if_pos h8]; exact ⟨_, rfl⟩
  simp only [bits_Div64.l1]
  split
  · exact hj _
  · exact hj _
theorem j2_ok (k : Nat) (x2 x8 x9 x10 x11 x13 x14 x15 : Int) (h8 : 0 ≤ x8) (h9 : 2147483648 ≤ x9) (h92 : x9 < 4294967296) : ∃ r, bits_Div64.j2 (k + 5) x2 x8 x9 x10 x11 x13 x14 x15 = some r := by
  simp only [bits_Div64.j2, if_neg (show ¬ x9 = 0 by omega)]
  have hr := rhat (IntKind.u64.wrap ((IntKind.u64.wrap ((IntKind.u64.wrap (x11 * 4294967296)) + x13)) - (IntKind.u64.wrap (x15 * x2)))) x9 (wlt _).1 (wlt _).2 h9 h92
  exact l1_ok k _ _ _ _ _ _ _ _ _ h8 h9 h92 hr.1 hr.2
theorem l0_last (k : Nat) (x2 x8 x9 x10 x11 x13 x14 x15 x16 : Int) (h8 : 0 ≤ x8) (h9 : 2147483648 ≤ x9) (h92 : x9 < 4294967296) (h16 : 2147483648 ≤ x16) (h162 : x16 < 4294967296) :
    ∃ r, bits_Div64.l0 (k + 7) x2 x8 x9 x10 x11 x13 x14 x15 x16 = some r := by
  have hw : IntKind.u64.wrap (x16 + x9) ≥ 4294967296 := by rw [IntKind.wrap_u64]; omega
  have hj : ∀ c, ∃ r, bits_Div64.j1 (k + 6) x2 x8 x9 x10 x11 x13 x14 x15 x16 c = some r := fun c => by
    cases c with
    | true => simp only [bits_Div64.j1, if_true, if_pos hw]; exact j2_ok k _ _ _ _ _ _ _ _ h8 h9 h92
    | false => simp only [bits_Div64.j1, Bool.false_eq_true, if_false]; exact j2_ok k _ _ _ _ _ _ _ _ h8 h9 h92
  simp only [bits_Div64.l0]
  split
  · exact hj _
  · exact hj _
theorem l0_ok (k : Nat) (x2 x8 x9 x10 x11 x13 x14 x15 x16 : Int) (h8 : 0 ≤ x8) (h9 : 2147483648 ≤ x9) (h92 : x9 < 4294967296) (h16 : 0 ≤ x16) (h162 : x16 < 4294967296) :
    ∃ r, bits_Div64.l0 (k + 9) x2 x8 x9 x10 x11 x13 x14 x15 x16 = some r := by
  have hj : ∀ c, ∃ r, bits_Div64.j1 (k + 8) x2 x8 x9 x10 x11 x13 x14 x15 x16 c = some r := fun c => by
    cases c with
    | true =>
      simp only [bits_Div64.j1, if_true]
      split
      · exact j2_ok (k + 2) _ _ _ _ _ _ _ _ h8 h9 h92
      · rename_i hw
        have e : IntKind.u64.wrap (x16 + x9) = x16 + x9 := by rw [IntKind.wrap_u64]; omega
        rw [e] at hw ⊢
        exact l0_last k _ _ _ _ _ _ _ _ _ h8 h9 h92 (by omega) (by omega)
    | false => simp only [bits_Div64.j1, Bool.false_eq_true, if_false]; exact j2_ok (k + 2) _ _ _ _ _ _ _ _ h8 h9 h92
  simp only [bits_Div64.l0]
  split
  · exact hj _
  · exact hj _
theorem div64_ok (a m : Int) (ha : 1 ≤ a) (hm : a < m) (hm2 : m ≤ 18446744073709551615) : ∃ r, bits_Div64.f 40 a 0 m = some r := by
  unfold bits_Div64.f
  rw [if_neg (by omega), if_neg (by omega), if_neg (by omega), lz m (by omega) hm2, Option.bind_some]
  have hL := bitLen_le64 m.toNat (by omega)
  have hsp := bitLen_spec m.toNat
  have hne : m.toNat ≠ 0 := by omega
  have hL0 : bitLen m.toNat ≠ 0 := fun e => by have := hsp.1; rw [e] at this; simp at this; omega
  generalize hLL : bitLen m.toNat = L at *
  have e1 : IntKind.u64.wrap (64 - (L : Int)) = 64 - (L : Int) := by rw [IntKind.wrap_u64]; omega
  rw [e1]
  rw [if_pos (by omega), if_pos (wlt _).1]
  have hs : (64 - (L : Int)).toNat = 64 - L := by omega
  have hy : shl .u64 m (64 - (L : Int)) = ((m.toNat * 2 ^ (64 - L) : Nat) : Int) ∧ 2 ^ 63 ≤ m.toNat * 2 ^ (64 - L) ∧ m.toNat * 2 ^ (64 - L) < 2 ^ 64 := by
    have p1 : 2 ^ L * 2 ^ (64 - L) = 2 ^ 64 := by rw [← Nat.pow_add]; congr 1; omega
    have p2 : 2 ^ (L - 1) * 2 ^ (64 - L) = 2 ^ 63 := by rw [← Nat.pow_add]; congr 1; omega
    have hpos : 0 < 2 ^ (64 - L) := Nat.pow_pos (by decide)
    have l1 : m.toNat * 2 ^ (64 - L) < 2 ^ 64 := by rw [← p1]; exact Nat.mul_lt_mul_of_pos_right hsp.1 hpos
    have l2 : 2 ^ 63 ≤ m.toNat * 2 ^ (64 - L) := by rw [← p2]; exact Nat.mul_le_mul_right _ (hsp.2 hne)
    refine ⟨?_, l2, l1⟩
    unfold shl
    rw [hs, show min (64 - L) IntKind.u64.bits = 64 - L by show min (64 - L) 64 = _; omega]
    have e2 : m * 2 ^ (64 - L) = ((m.toNat * 2 ^ (64 - L) : Nat) : Int) := by
      rw [Int.natCast_mul, Int.toNat_of_nonneg (by omega)]; simp
    rw [e2, IntKind.wrap_u64]
    have e3 : (2 : Nat) ^ 64 = 18446744073709551616 := by simp only [Nat.reducePow]
    rw [e3] at l1
    omega
  obtain ⟨hy, l2, l1⟩ := hy
  have e3 : (2 : Nat) ^ 64 = 18446744073709551616 := by simp only [Nat.reducePow]
  have e4 : (2 : Nat) ^ 63 = 9223372036854775808 := by simp only [Nat.reducePow]
  rw [e3] at l1
  rw [e4] at l2
  rw [hy]
  generalize m.toNat * 2 ^ (64 - L) = y at *
  rw [if_neg (by omega)]
  have hr : ∀ u : Int, 0 ≤ u → u < 18446744073709551616 → _ := fun u h0 h1 => rhat u ((y : Int) / 4294967296) h0 h1 (by omega) (by omega)
  have hb : ∀ x z : Int, 0 ≤ Go.bits .or .u64 x z ∧ Go.bits .or .u64 x z < 18446744073709551616 := fun x z => wlt _
  exact l0_ok 31 _ _ _ _ _ _ _ _ _ (by omega) (by omega) (by omega) (hr _ (hb _ _).1 (hb _ _).2).1 (hr _ (hb _ _).1 (hb _ _).2).2
end Mb
end Go.Proofs.YtdlnfmakfnggpaaDoor.Pr
namespace Go.Proofs.YtdlnfmakfnggpaaDoor.Pr
open Go.RowKit Go.Proofs.YtdlnfmakfnggpaaDoorW.PrintWords
set_option linter.unusedVariables false
set_option linter.unusedSimpArgs false
instance inh26 : Inhabited S26 := ⟨z26⟩
theorem w64n {n : Nat} (h : n ≤ 9223372036854775807) : wrap64 (n : Int) = n := by unfold wrap64; omega
theorem w64s {n : Nat} (h : n < 9223372036854775807) : wrap64 ((n : Int) + 1) = ((n + 1 : Nat) : Int) := by unfold wrap64; omega
theorem rd26 (l : List S26) (i : Nat) (h : i < l.length) : rd_T26 l (i : Int) = l[i] := by simp [rd_T26, List.getD, h]
theorem same_ok (l : List S26) (hl : l.length ≤ 8796093022208) : ∃ k, spoorlaw21_same.f k l l = some true := by
  have key : ∀ d i : Nat, i + d = l.length → spoorlaw21_same.l0 (d + 1) l l (i : Int) = some true := by
    intro d
    induction d with
    | zero => intro i hi; simp only [spoorlaw21_same.l0, if_neg (show ¬ (i : Int) < (l.length : Int) by omega)]
    | succ d ih =>
      intro i hi
      simp only [spoorlaw21_same.l0]
      rw [if_pos (by omega), if_pos (by omega), if_pos (by omega), if_neg (by simp), w64s (by omega)]
      exact ih (i + 1) (by omega)
  refine ⟨l.length + 1, ?_⟩
  unfold spoorlaw21_same.f
  rw [if_pos rfl]
  exact key l.length 0 (by omega)
end Go.Proofs.YtdlnfmakfnggpaaDoor.Pr
