/- How arguments that came in are opened. -/
import Derived.Test.YtlnhpccapadpmaaPr0
import Derived.Test.YtlnhpccapadpmaaOpn
import Derived.KernelRfl
namespace Go.Proofs.Ytlnhpccapadpmaa.Pr
open Go.RowKit Go.Proofs.YtlnhpccapadpmaaW.PrintWords
set_option linter.unusedVariables false
def ok73 (x : S73) : Prop := ((Lit.int .u64 x.f0).wf = true) ∧ (((Lit.int .u64 x.f1).wf = true))
theorem opens73 : Opn.Opens Try.prog 73 k73 ok73 := Opn.opens_iso (fun x : S73 => (x.f0, x.f1)) (fun p => ⟨p.1, p.2⟩) (fun _ => rfl) (Opn.opens_struct Try.underlying73 (by kernel_rfl) (Opn.opensAt_cons rfl (by kernel_rfl) (Opn.opens_int Try.underlying23) (Opn.opensAt_one rfl (by kernel_rfl) (Opn.opens_int Try.underlying23))))
end Go.Proofs.Ytlnhpccapadpmaa.Pr
