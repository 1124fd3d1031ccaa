/- The row of the law SketchPlays: for every input it answers true, and its arguments read behind the call as they read before. No condition. -/
import Derived.Test.YtlnhpccapadpmaaRows
import Derived.Test.YtlnhpccapadpmaaMk
import Derived.WalkKit
import Derived.ProofKit
import Derived.OpenShut
import Derived.ShutString
import Derived.ChangeOld
import Derived.Below
import Derived.SizedLaws
namespace Go.Proofs.Ytlnhpccapadpmaa.sketchPlays
open Go.ChangeShapes Go.WideShapes Go.ChangeAt Go.RowKit Go.Proofs.Ytlnhpccapadpmaa.Pr Go.Proofs.YtlnhpccapadpmaaW.PrintWords
open Go.ChangeMaps (open_string shut_string)
set_option linter.unusedVariables false
set_option linter.unusedSimpArgs false
def ok61 (x : S61) : Prop := ((Lit.int .i64 x.f0).wf = true) ∧ (((Lit.int .u64 x.f1).wf = true))
theorem opens61 : Opn.Opens Try.prog 61 k61 ok61 := Opn.opens_iso (fun x : S61 => (x.f0, x.f1)) (fun p => ⟨p.1, p.2⟩) (fun _ => rfl) (Opn.opens_struct Try.underlying61 (by kernel_rfl) (Opn.opensAt_cons rfl (by kernel_rfl) (Opn.opens_int Try.underlying3) (Opn.opensAt_one rfl (by kernel_rfl) (Opn.opens_int Try.underlying23))))
def okL (xs : List S61) : Prop := xs.length * Try.prog.bytesOf 61 ≤ reachBytes ∧ ∀ x ∈ xs, ok61 x
def ok56 (x : S56) : Prop := ((Lit.int .i64 x.f0).wf = true) ∧ ((Lit.int .i64 x.f1).wf = true) ∧ okL x.f2 ∧ okL x.f3 ∧ ((Lit.int .u64 x.f4).wf = true) ∧ ((Lit.int .u64 x.f5).wf = true)
theorem opens56 : Opn.Opens Try.prog 56 k56 ok56 := Opn.opens_iso (fun x : S56 => (x.f0, x.f1, x.f2, x.f3, x.f4, x.f5)) (fun p => ⟨p.1, p.2.1, p.2.2.1, p.2.2.2.1, p.2.2.2.2.1, p.2.2.2.2.2⟩) (fun _ => rfl) (Opn.opens_struct Try.underlying56 (by kernel_rfl)
  (Opn.opensAt_cons rfl (by kernel_rfl) (Opn.opens_int Try.underlying3) (Opn.opensAt_cons rfl (by kernel_rfl) (Opn.opens_int Try.underlying3)
  (Opn.opensAt_cons rfl (by kernel_rfl) (Pr.Opn.opens_sliceN Try.underlying31 opens61 (by kernel_rfl)) (Opn.opensAt_cons rfl (by kernel_rfl) (Pr.Opn.opens_sliceN Try.underlying31 opens61 (by kernel_rfl))
  (Opn.opensAt_cons rfl (by kernel_rfl) (Opn.opens_int Try.underlying23) (Opn.opensAt_one rfl (by kernel_rfl) (Opn.opens_int Try.underlying23))))))))
theorem i64_of_wf {n : Int} (h : (Lit.int .i64 n).wf = true) : -9223372036854775808 ≤ n ∧ n ≤ 9223372036854775807 := by
  simp only [Lit.wf, IntKind.min, IntKind.max, IntKind.signed, IntKind.bits, Bool.and_eq_true, decide_eq_true_eq] at h
  simp at h
  omega
theorem u64_of_wf {n : Int} (h : (Lit.int .u64 n).wf = true) : 0 ≤ n ∧ n ≤ 18446744073709551615 := by
  simp only [Lit.wf, IntKind.min, IntKind.max, IntKind.signed, IntKind.bits, Bool.and_eq_true, decide_eq_true_eq] at h
  simp at h
  omega
theorem okL_of {xs : List S61} (h : okL xs) : (∀ b ∈ xs, (-9223372036854775808 ≤ b.f0 ∧ b.f0 ≤ 9223372036854775807) ∧ 0 ≤ b.f1 ∧ b.f1 ≤ 18446744073709551615) ∧ xs.length ≤ 140737488351232 := by
  refine ⟨fun b hb => ⟨i64_of_wf (h.2 b hb).1, u64_of_wf (h.2 b hb).2⟩, ?_⟩
  have h1 := h.1
  rw [show Try.prog.bytesOf 61 = 16 by kernel_rfl] at h1
  unfold reachBytes at h1
  omega
theorem said_of {L : List S56} (h : L.length * Try.prog.bytesOf 56 ≤ reachBytes ∧ ∀ x ∈ L, ok56 x) : L.length ≤ 140737488351232 ∧
    (∀ x ∈ L, (∀ b ∈ x.f2, (-9223372036854775808 ≤ b.f0 ∧ b.f0 ≤ 9223372036854775807) ∧ 0 ≤ b.f1 ∧ b.f1 ≤ 18446744073709551615) ∧ (∀ b ∈ x.f3, (-9223372036854775808 ≤ b.f0 ∧ b.f0 ≤ 9223372036854775807) ∧ 0 ≤ b.f1 ∧ b.f1 ≤ 18446744073709551615)) ∧
    (∀ x ∈ L, x.f2.length ≤ 140737488351232 ∧ x.f3.length ≤ 140737488351232) ∧ (∀ x ∈ L, ∀ X Y, Gd X → Gd Y → Same X Y x.f1 x.f4 x.f5) := by
  refine ⟨?_, fun x hx => ?_, fun x hx => ?_, fun x hx X Y hX hY => ?_⟩
  · have h1 := h.1
    rw [show Try.prog.bytesOf 56 = 80 by kernel_rfl] at h1
    unfold reachBytes at h1
    omega
  · obtain ⟨_, _, a, b, _⟩ := h.2 x hx
    exact ⟨(okL_of a).1, (okL_of b).1⟩
  · obtain ⟨_, _, a, b, _⟩ := h.2 x hx
    exact ⟨(okL_of a).2, (okL_of b).2⟩
  · obtain ⟨_, a, _, _, b, c⟩ := h.2 x hx
    exact Pure.same_all hX hY (i64_of_wf a) (u64_of_wf b) (u64_of_wf c)
theorem own : ownKnob Try.prog.godebug = none := by kernel_rfl
theorem laidOut : laidOutB Try.prog = true := by kernel_rfl
set_option maxRecDepth 100000 in
theorem lifted (os : Os) (started : os.Started) (H : Type) (enc : TypeId × Value → H) :
    ReturnsInHanded {} Try.checked os 7 .any (Rows.sketchPlaysSpec.pre6 enc Try.prog Try.f7 Rows.sketchPlaysRow.domain false) (Rows.sketchPlaysSpec.post enc Try.prog Try.f7 false true false false) := by
  refine returnsInHanded_of_change_sized (C := Try.checked) own started (by kernel_rfl) Try.func7
    (ChangeSpec.witness6 (enc := enc) (C := Try.checked) false ⟨#[], #[.slice none 0 0], []⟩ 7 (by kernel_rfl) (by kernel_rfl) (by kernel_rfl) (by kernel_rfl)) ?_
  intro W base args ds gs before hval0 hW hcnd hsz0 _
  have hsz : (DataW.weightsEach Try.prog (Try.f7.params.toList ++ Rows.sketchPlaysSpec.plain.varTypes Try.prog) (ds ++ gs)).all (· ≤ reachBytes) = true := hsz0
  have hval : ∀ (j : Nat) t v, Try.f7.params[j]? = some t → args[j]? = some v → Value.okWide Try.prog W .any base t v := hval0
  have hW' := hW
  obtain ⟨p, q, hA0, hV, rfl, hfz, hnd⟩ := hW
  have hA : DataW.TrodAll enc Try.prog W 0 (fun _ => true) true Try.f7.params.toList args.toList ds p := hA0
  rw [Try.params7] at hA hval hsz
  obtain ⟨v0, vs0, d0, ds0, p0, q0, hargs, rfl, rfl, h0, r0⟩ := trodAll_cons hA
  obtain ⟨rfl, rfl, rfl⟩ := trodAll_nil r0
  obtain rfl : args = #[v0] := by cases args; simp_all
  obtain ⟨rfl, rfl⟩ := trodVars_none hV
  obtain ⟨a0, len0, cap0, rfl⟩ := okWide_slice Try.underlying50 (hval 0 50 v0 rfl rfl)
  have k0 := h0
  have lt0 : ∀ x ∈ p0, x.block < W.heap.size := by obtain ⟨m, hm⟩ := k0; exact DataW.trod_lt m _ _ _ hm
  obtain ⟨l0, rfl, c0, C0, ok0_⟩ := Opn.open_arg_slice (Opn.opens_slice Try.underlying50 opens56 (by kernel_rfl)) h0 (Opn.weights_arg hsz 0 rfl rfl)
  clear hA0 hval0 hsz0 hsz
  obtain ⟨u1, u2, u3, u4⟩ := said_of ok0_
  refine (plays_run a0 cap0 l0 W C0 c0 u1 u2 u3 u4 10 Pure.awake_yes).mono fun e W' ⟨he, bel⟩ => ?_
  subst he
  exact ⟨_, rfl, _, _, _, [], _, [], hW', trodAll_mk1 (shut_bool Try.underlying4 _), (trodAll_cons_mk (Below.trod laidOut (by kernel_rfl) (of_decide_eq_true (by kernel_rfl)) k0 bel lt0) trodAll_mk0), rfl, bel.frame _, fun h => by cases h⟩
theorem over : Rows.sketchPlaysRow.holds Try.pinned (OpenSpec.ofChange Rows.sketchPlaysSpec) :=
  OpenClaim.holds_of_wide 7 Try.f7 rfl rfl rfl rfl rfl rfl rfl ⟨rfl, rfl, rfl, rfl, rfl⟩ rfl rfl rfl rfl rfl (by kernel_rfl) Try.func7 (by kernel_rfl)
    (of_decide_eq_true (by kernel_rfl)) (by unfold Func.isWrapper; first | (rw [if_pos (by decide +kernel)]; kernel_rfl) | (rw [if_neg (by decide +kernel)]; exact ⟨rfl, rfl⟩))
    (fun os started H enc _ => lifted os started H enc)
theorem proved : Rows.SketchPlaysSaid := over
#print axioms proved
end Go.Proofs.Ytlnhpccapadpmaa.sketchPlays
namespace Go.Proofs.Ytlnhpccapadpmaa
/-- The row, under a short name, for the claim. -/
theorem sketchPlays_holds : Rows.SketchPlaysSaid := sketchPlays.proved
end Go.Proofs.Ytlnhpccapadpmaa
