/- How the arguments read. -/
import Derived.Test.YtopmppnnihdnaaaOpnW
namespace Go.Proofs.Ytopmppnnihdnaaa
set_option linter.unusedVariables false
set_option linter.unusedSimpArgs false
open Go.ChangeShapes Go.WideShapes Go.ChangeAt Go.RowKit
set_option maxRecDepth 100000
theorem cz9 : Try.prog.cellsOf 9 = 1 := by kernel_rfl
end Go.Proofs.Ytopmppnnihdnaaa
