/- The pure statement of SampleOnto: the trace that is made backwards of a mix has it, and of one Lo no other. -/
import Derived.Test.YtdlnfmakfnggpaaDoorPr2a
import Derived.Test.YtdlnfmakfnggpaaDoorMy
namespace Go.Proofs.YtdlnfmakfnggpaaDoor.Pure
open Go.RowKit Go.Proofs.YtdlnfmakfnggpaaDoor.Pr Go.Proofs.YtdlnfmakfnggpaaDoorW.PrintWords Go.Proofs.YtdlnfmakfnggpaaDoorW.PrintLast
theorem nat_of {a : Int} (h : (Lit.int .u64 a).wf = true) : ∃ n : Nat, a = n ∧ n < 2 ^ 64 := by
  have h' : 0 ≤ a ∧ a ≤ 18446744073709551615 := by simpa [Lit.wf, IntKind.min, IntKind.max, IntKind.signed, IntKind.bits] using h
  exact ⟨a.toNat, by omega, by omega⟩
theorem onto_gen (al : Option Bool) (nm : Option (Int × Int)) (mx : Int → Int → Option Int) (a0 a1 a2 t z : Int) (h0 : al = some true) (h1 : nm = some (t, a1)) (h2 : mx t a1 = some a0) (h3 : mx a2 a1 = some z) (h4 : (z == a0) = (a2 == t)) :
    (al.bind fun t176 => (nm.bind fun bt177 => (if t176 = true then ((mx bt177.1 bt177.2).bind fun t181 => (if t181 = a0 then ((mx a2 a1).bind fun t182 => (some ((t182 == a0) == (a2 == bt177.1 && (a1 == bt177.2))))) else (some false))) else (some false)))) = some true := by
  subst h0 h1
  simp [h2, h3, h4]
theorem SampleOnto : spoorlaw21_SampleOnto.Pure := by
  intro a0 a1 a2 h0 h1 h2
  obtain ⟨m, rfl, hm⟩ := nat_of h0
  obtain ⟨lo, rfl, hl⟩ := nat_of h1
  obtain ⟨hi, rfl, hh⟩ := nat_of h2
  have e1 := mix_named m lo hm hl
  have e2 := mix_int (namedN m lo) lo (namedN_lt m lo) hl
  rw [e1] at e2
  have e3 : (((mixN hi lo : Nat) : Int) == (m : Int)) = (((hi : Nat) : Int) == ((namedN m lo : Nat) : Int)) := by
    have hi2 := mix_inj hi (namedN m lo) lo hh (namedN_lt m lo)
    rw [e1] at hi2
    have hb : hi = namedN m lo → mixN hi lo = m := fun h => by rw [h]; exact e1
    generalize mixN hi lo = x at *
    generalize namedN m lo = y at *
    by_cases e : hi = y
    · have h5 := hb e
      rw [h5, e, beq_self_eq_true, beq_self_eq_true]
    · have h5 : ¬ x = m := fun h => e (hi2 h)
      have h6 : ¬ (x : Int) = (m : Int) := by omega
      have h7 : ¬ (hi : Int) = (y : Int) := by omega
      rw [beq_eq_false_iff_ne.2 h6, beq_eq_false_iff_ne.2 h7]
  exact ⟨9, onto_gen _ _ sample_Mix.f _ _ _ _ _ rfl (named_int m lo hm hl) e2 (mix_int hi lo hh hl) e3⟩
end Go.Proofs.YtdlnfmakfnggpaaDoor.Pure
