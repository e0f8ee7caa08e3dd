/- The examples of the chapter: awake returns true. -/
import Derived.Test.YtehnhedifhpalaaDoorCp3
set_option linter.unusedVariables false
set_option linter.unusedSimpArgs false
namespace Go.Proofs.YtehnhedifhpalaaDoor.Cp
open Go.RowKit Go.Proofs.YtehnhedifhpalaaDoorW.PrintWords Go.Proofs.YtehnhedifhpalaaDoorW.PrintLast Go.Proofs.YtehnhedifhpalaaDoorW.PrintMore
set_option maxRecDepth 100000 in
theorem awake_f : Ev (fun k => letterbaglaw01_awake.f k) true := Ev.of letterbaglaw01_awake.mono (k := 60) (by kernel_rfl)
end Go.Proofs.YtehnhedifhpalaaDoor.Cp
