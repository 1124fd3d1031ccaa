/- How arguments that came in are opened. -/
import Derived.Test.YtafpmcmpkgbgaaaPr0
import Derived.Test.YtafpmcmpkgbgaaaOpn
import Derived.KernelRfl
namespace Go.Proofs.Ytafpmcmpkgbgaaa.Pr
open Go.RowKit Go.Proofs.YtafpmcmpkgbgaaaW.PrintWords
set_option linter.unusedVariables false
def ok23 (x : S23) : Prop := ((Lit.int .i64 x.f0).wf = true) ∧ (((Lit.int .i64 x.f1).wf = true))
theorem opens23 : Opn.Opens Try.prog 23 k23 ok23 := Opn.opens_iso (fun x : S23 => (x.f0, x.f1)) (fun p => ⟨p.1, p.2⟩) (fun _ => rfl) (Opn.opens_struct Try.underlying23 (by kernel_rfl) (Opn.opensAt_cons rfl (by kernel_rfl) (Opn.opens_int Try.underlying2) (Opn.opensAt_one rfl (by kernel_rfl) (Opn.opens_int Try.underlying2))))
end Go.Proofs.Ytafpmcmpkgbgaaa.Pr
