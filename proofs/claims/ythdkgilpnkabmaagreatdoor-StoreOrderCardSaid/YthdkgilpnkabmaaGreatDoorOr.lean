/- The plain order of spans; where elements lie. -/
import Derived.Test.YthdkgilpnkabmaaGreatDoorQt
import Derived.Test.YthdkgilpnkabmaaGreatDoorK0
import Derived.Test.YthdkgilpnkabmaaGreatDoorLe
import Derived.Lib.Hide
import Derived.Lib.LaidU8
namespace Go.Proofs.YthdkgilpnkabmaaGreatDoor.Pr
open Go.RowKit Go.Proofs.YthdkgilpnkabmaaGreatDoorW.PrintWords Go.Proofs.YthdkgilpnkabmaaGreatDoorW.PrintMore
set_option linter.unusedVariables false
set_option linter.unusedSimpArgs false
/-! ### the plain order -/
def ordI (a b : Int) : Int := if a < b then -1 else if b < a then 1 else 0
def ordT (a b : ByteArray) : Int := if Op.bytesLess a.toList b.toList = true then -1 else if Op.bytesLess b.toList a.toList = true then 1 else 0
def firstF : List Int → Int
  | [] => 0
  | x :: l => if x = 0 then firstF l else x
def lexF {α : Type} (f : α → α → Int) : List α → List α → Int
  | a :: l, b :: m => if f a b = 0 then lexF f l m else f a b
  | l, m => ordI l.length m.length
def ordA (a b : S108) : Int := firstF [ordT a.f0 b.f0, ordI a.f1.f0 b.f1.f0, ordT a.f1.f1 b.f1.f1, ordI a.f1.f2 b.f1.f2]
def ordE (a b : S111) : Int := firstF [ordI a.f0 b.f0, ordT a.f1 b.f1]
def ordS (a b : S41) : Int := firstF [ordI a.f0.f0 b.f0.f0, ordI a.f0.f1 b.f0.f1, ordI a.f1 b.f1, ordI a.f9 b.f9, ordI b.f8 a.f8, ordI a.f7 b.f7, ordI a.f2 b.f2, ordT a.f4 b.f4, ordT a.f5 b.f5, ordI a.f6 b.f6, lexF ordI a.f3 b.f3, lexF ordA a.f10 b.f10, lexF ordE a.f11 b.f11]
theorem first_drop (l : List Int) (k : Nat) (h : k < l.length) : firstF (l.drop k) = if rd l (k : Int) = 0 then firstF (l.drop (k + 1)) else rd l (k : Int) := by
  rw [List.drop_eq_getElem_cons h]
  have : rd l (k : Int) = l[k] := by simp [rd, List.getD, h]
  rw [firstF, this]
theorem lex_drop {α : Type} (f : α → α → Int) (l m : List α) (k : Nat) (h : k < l.length) (h' : k < m.length) : lexF f (l.drop k) (m.drop k) = if f l[k] m[k] = 0 then lexF f (l.drop (k + 1)) (m.drop (k + 1)) else f l[k] m[k] := by
  rw [List.drop_eq_getElem_cons h, List.drop_eq_getElem_cons h', lexF]
theorem lex_end {α : Type} (f : α → α → Int) (l m : List α) (k : Nat) (h : k ≤ l.length) (h' : k ≤ m.length) (he : k = l.length ∨ k = m.length) : lexF f (l.drop k) (m.drop k) = ordI l.length m.length := by
  have key : lexF f (l.drop k) (m.drop k) = ordI (l.drop k).length (m.drop k).length := by
    rcases he with he | he
    · rw [he, List.drop_length]; cases m.drop l.length <;> rfl
    · rw [he, List.drop_length]; cases l.drop m.length <;> rfl
  rw [key, List.length_drop, List.length_drop]
  unfold ordI
  split <;> split <;> (try split) <;> (try split) <;> omega
/-! ### where elements lie -/
theorem ints_at {κ : IntKind} {w : World} {A : Option Addr} {n : Nat} {xs : List Int} (h : Kd.C (Kd.int κ) w A n xs) (k : Nat) (hk : k < n) : ∃ b o, A = some ⟨b, o, none⟩ ∧ w.cell? ⟨b, o + k, none⟩ = some (.int κ (rd xs (k : Int))) := by
  obtain ⟨ad, hA, y0⟩ := Kd.at_int h 0 (by omega) (by omega)
  obtain ⟨b, o, sp⟩ := ad
  obtain rfl : sp = none := Go.Proofs.cell_spot y0
  obtain ⟨ad, hA', y⟩ := Kd.at_int h (k : Int) (by omega) (by omega)
  rw [hA] at hA'
  cases hA'
  rw [Int.toNat_natCast, Addr.add_lit] at y
  exact ⟨b, o, hA, y⟩
theorem t108_at {w : World} {A : Option Addr} {n : Nat} {xs : List S108} (h : Kd.C k108 w A n xs) (k : Nat) (hk : k < n) : ∃ b o, A = some ⟨b, o, none⟩ ∧ w.cell? ⟨b, o + k * 4, none⟩ = some (.string (rd_T108 xs (k : Int)).f0) ∧ w.cell? ⟨b, o + k * 4 + 1, none⟩ = some (.int .i64 (rd_T108 xs (k : Int)).f1.f0) ∧
    w.cell? ⟨b, o + k * 4 + 1 + 1, none⟩ = some (.string (rd_T108 xs (k : Int)).f1.f1) ∧ w.cell? ⟨b, o + k * 4 + 1 + 2, none⟩ = some (.int .i64 (rd_T108 xs (k : Int)).f1.f2) := by
  obtain ⟨ad, hA, y0, _⟩ := at_T108 h 0 (by omega) (by omega)
  obtain ⟨b, o, sp⟩ := ad
  obtain rfl : sp = none := Go.Proofs.cell_spot y0
  obtain ⟨ad, hA', a, b', c, d⟩ := at_T108 h (k : Int) (by omega) (by omega)
  rw [hA] at hA'
  cases hA'
  rw [Int.toNat_natCast, Addr.add_lit] at a b' c d
  exact ⟨b, o, hA, a, b', c, d⟩
theorem t111_at {w : World} {A : Option Addr} {n : Nat} {xs : List S111} (h : Kd.C k111 w A n xs) (k : Nat) (hk : k < n) : ∃ b o, A = some ⟨b, o, none⟩ ∧ w.cell? ⟨b, o + k * 2, none⟩ = some (.int .i64 (rd_T111 xs (k : Int)).f0) ∧ w.cell? ⟨b, o + k * 2 + 1, none⟩ = some (.string (rd_T111 xs (k : Int)).f1) := by
  obtain ⟨ad, hA, y0, _⟩ := at_T111 h 0 (by omega) (by omega)
  obtain ⟨b, o, sp⟩ := ad
  obtain rfl : sp = none := Go.Proofs.cell_spot y0
  obtain ⟨ad, hA', a, b'⟩ := at_T111 h (k : Int) (by omega) (by omega)
  rw [hA] at hA'
  cases hA'
  rw [Int.toNat_natCast, Addr.add_lit] at a b'
  exact ⟨b, o, hA, a, b'⟩
theorem C_ints {w : World} {g t : Nat} {cs : Array Value} (l : List Int) (h : w.heap[g]? = some (.cells cs t (0, 0))) (hc : cs = (l.map (Value.int .i64)).toArray) (hl : l.length ≤ 9223372036854775807) :
    Kd.C (Kd.int .i64) w (some ⟨g, 0, none⟩) l.length l := by
  refine ⟨rfl, hl, fun _ => ⟨_, rfl, fun j p hj => ⟨[.int .i64 p], rfl, rfl, fun i u hu => ?_⟩⟩⟩
  have hi : i = 0 := by
    rcases i with _ | i
    · rfl
    · simp at hu
  subst hi
  obtain rfl : Value.int .i64 p = u := by simpa using hu
  show w.cell? (Addr.add ⟨g, 0, none⟩ (j * 1 + 0)) = _
  rw [Addr.add_lit, blk_cell h, hc]
  simp [hj]
end Go.Proofs.YthdkgilpnkabmaaGreatDoor.Pr
