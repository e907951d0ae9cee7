import Derived.Test.YtcncjldggfbjdaaE2
import Derived.Test.YtcncjldggfbjdaaPExx5
namespace Go.Proofs.Ytcncjldggfbjdaa.E
open Go.RowKit Go.Proofs.YtcncjldggfbjdaaW.PrintWords Go.Proofs.YtcncjldggfbjdaaW.PrintLast Go.Proofs.YtcncjldggfbjdaaW.PrintMore Go.Proofs.Ytcncjldggfbjdaa.G0 Go.Proofs.Ytcncjldggfbjdaa.G1 Go.Proofs.Ytcncjldggfbjdaa.G2 Go.Proofs.Ytcncjldggfbjdaa.PEx
set_option linter.unusedVariables false
set_option linter.unusedSimpArgs false
theorem small_now : bournelaw01_small.f 40 = some true := by decide +kernel
theorem small_ev : Ev (fun k => bournelaw01_small.f k) true := Ev.of (bournelaw01_small.mono) small_now
end Go.Proofs.Ytcncjldggfbjdaa.E
