/- The pure statement of SketchNames: a closed one; it is reckoned. -/
import Derived.Test.YtlnhpccapadpmaaPr2a
namespace Go.Proofs.Ytlnhpccapadpmaa.Pure
open Go.RowKit Go.Proofs.Ytlnhpccapadpmaa.Pr Go.Proofs.YtlnhpccapadpmaaW.PrintWords Go.Proofs.YtlnhpccapadpmaaW.PrintLast

theorem awake_true : spoorlaw13_awake.f 10 = some true := by kernel_rfl
theorem SketchNames : spoorlaw13_SketchNames.Pure := ⟨10, by kernel_rfl⟩
end Go.Proofs.Ytlnhpccapadpmaa.Pure
