/- How arguments that came in are opened. -/
import Derived.Test.YtdlnfmakfnggpaaDoorPr0
import Derived.Test.YtdlnfmakfnggpaaDoorOpn
import Derived.KernelRfl
namespace Go.Proofs.YtdlnfmakfnggpaaDoor.Pr
open Go.RowKit Go.Proofs.YtdlnfmakfnggpaaDoorW.PrintWords
set_option linter.unusedVariables false
def ok26 (x : S26) : Prop := ((Lit.int .u64 x.f0).wf = true) ∧ (((Lit.int .u64 x.f1).wf = true))
theorem opens26 : Opn.Opens Tryd.prog 26 k26 ok26 := Opn.opens_iso (fun x : S26 => (x.f0, x.f1)) (fun p => ⟨p.1, p.2⟩) (fun _ => rfl) (Opn.opens_struct Tryd.underlying26 (by kernel_rfl) (Opn.opensAt_cons rfl (by kernel_rfl) (Opn.opens_int Tryd.underlying23) (Opn.opensAt_one rfl (by kernel_rfl) (Opn.opens_int Tryd.underlying23))))
def ok30 (x : S30) : Prop := ((Lit.int .i64 x.f0).wf = true) ∧ (((Lit.int .u64 x.f1).wf = true) ∧ (((x.f2).size ≤ 140737488351232) ∧ (((Lit.int .i64 x.f3).wf = true))))
theorem opens30 : Opn.Opens Tryd.prog 30 k30 ok30 := Opn.opens_iso (fun x : S30 => (x.f0, (x.f1, (x.f2, x.f3)))) (fun p => ⟨p.1, p.2.1, p.2.2.1, p.2.2.2⟩) (fun _ => rfl) (Opn.opens_struct Tryd.underlying30 (by kernel_rfl) (Opn.opensAt_cons rfl (by kernel_rfl) (Opn.opens_int Tryd.underlying28) (Opn.opensAt_cons rfl (by kernel_rfl) (Opn.opens_int Tryd.underlying23) (Opn.opensAt_cons rfl (by kernel_rfl) (Opn.opens_string Tryd.underlying9) (Opn.opensAt_one rfl (by kernel_rfl) (Opn.opens_int Tryd.underlying3))))))
end Go.Proofs.YtdlnfmakfnggpaaDoor.Pr
