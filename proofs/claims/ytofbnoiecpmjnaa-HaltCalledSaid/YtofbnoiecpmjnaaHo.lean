/- What pick answers, and how ints are read off a slice. -/
import Derived.Test.YtofbnoiecpmjnaaHn
namespace Go.Proofs.Ytofbnoiecpmjnaa.Pr
open Go.RowKit Go.Proofs.YtofbnoiecpmjnaaW.PrintWords Go.Proofs.YtofbnoiecpmjnaaW.PrintLast Go.Proofs.YtofbnoiecpmjnaaW.PrintMore Go.MuLone
open Go.Lib
set_option linter.unusedVariables false
set_option linter.unusedSimpArgs false
def encI (v : Int) : Value := .int .i64 v
def kI : Kd Int := Kd.scalar encI (fun _ => rfl)
theorem infoI3 : (Try.prog.info? 3).map (fun i => (i.zero, i.size, i.bytes)) = some (some (.int .i64 0), 1, 8) := by kernel_rfl
theorem at_I {w : World} {A : Option Addr} {n : Nat} {L : List Int} (h : Kd.C kI w A n L) (i : Int) (h0 : 0 ≤ i) (h1 : i < n) : ∃ ad, A = some ad ∧ w.cell? (ad.add (i.toNat)) = some (.int .i64 (L.getD i.toNat 0)) := by
  obtain ⟨hl, _, hr⟩ := h
  obtain ⟨ad, rfl, hr2⟩ := hr (by omega)
  have hi : i.toNat < L.length := by omega
  obtain ⟨c, hcl, hk, hcc⟩ := hr2 i.toNat L[i.toNat] (by simp [hi])
  have hk' : c = [encI L[i.toNat]] := hk
  subst hk'
  have := hcc 0 _ rfl
  refine ⟨ad, rfl, ?_⟩
  have h2 : w.cell? (ad.add i.toNat) = some (encI L[i.toNat]) := by simpa [kI, Kd.scalar] using this
  rw [h2]
  simp [List.getD, hi, encI]
theorem at_P {w : World} {A : Option Addr} {n : Nat} {L : List Nat} (h : Kd.C kP w A n L) (i : Int) (h0 : 0 ≤ i) (h1 : i < n) : ∃ ad, A = some ad ∧ w.cell? (ad.add (i.toNat)) = some (.pointer (some ⟨L.getD i.toNat 0, 0, none⟩)) := by
  obtain ⟨hl, _, hr⟩ := h
  obtain ⟨ad, rfl, hr2⟩ := hr (by omega)
  have hi : i.toNat < L.length := by omega
  obtain ⟨c, hcl, hk, hcc⟩ := hr2 i.toNat L[i.toNat] (by simp [hi])
  have hk' : c = [encP L[i.toNat]] := hk
  subst hk'
  have := hcc 0 _ rfl
  refine ⟨ad, rfl, ?_⟩
  have h2 : w.cell? (ad.add i.toNat) = some (encP L[i.toNat]) := by simpa [kP, Kd.scalar] using this
  rw [h2]
  simp [List.getD, hi, encP, ptrOf]
def pickF (c : Int) (n : Int) : Int := if c < 0 then (-(c + 1)).tmod n else c.tmod n
theorem pickF_in (c n : Int) (h : 0 < n) : 0 ≤ pickF c n ∧ pickF c n < n := by
  unfold pickF
  split
  · exact ⟨Int.tmod_nonneg _ (by omega), Int.tmod_lt_of_pos _ h⟩
  · exact ⟨Int.tmod_nonneg _ (by omega), Int.tmod_lt_of_pos _ h⟩
theorem wp64 {n : Int} (h : -9223372036854775808 ≤ n) (h' : n ≤ 9223372036854775807) : wrap64 n = n := by unfold wrap64; omega
theorem wrap64_neg1 (c : Int) (h : -9223372036854775808 ≤ c) (h1 : c < 0) : wrap64 (c + 1) = c + 1 ∧ wrap64 (-(c + 1)) = -(c + 1) := ⟨wp64 (by omega) (by omega), wp64 (by omega) (by omega)⟩
theorem pick_run (c n : Int) (W : World) (hc : -9223372036854775808 ≤ c ∧ c ≤ 9223372036854775807) (hn : 0 < n ∧ n ≤ 9223372036854775807) :
    Calls Try.prog 11 #[.int .i64 c, .int .i64 n] W fun e w' => e = .returned (.int .i64 (pickF c n)) ∧ w' = W := by
  have hin := pickF_in c n hn.1
  have hw : wrap64 (pickF c n) = pickF c n := wp64 (by omega) (by omega)
  have hn0 : (n == 0) = false := beq_eq_false_iff_ne.mpr (by omega)
  have HW := Lib.hid hw
  clear hw hin
  by_cases h : c < 0
  · have h1 := wrap64_neg1 c hc.1 h
    have HF := Lib.hid (show pickF c n = (-(c + 1)).tmod n from if_pos h)
    go_enter Try.func11, Try.ntmps11
    go_wp2_with fail
    go_ret
    exact ⟨by rw [HF.out, Int.neg_tmod]; rfl, rfl⟩
  · have HF := Lib.hid (show pickF c n = c.tmod n from if_neg h)
    go_enter Try.func11, Try.ntmps11
    go_wp2_with fail
    go_ret
    exact ⟨by rw [HF.out, Int.tmod_eq_emod_of_nonneg h]; rfl, rfl⟩
end Go.Proofs.Ytofbnoiecpmjnaa.Pr
