/- How the arguments read. -/
import Derived.Test.YtffipdfcndbneaaDoorOpn
namespace Go.Proofs.YtffipdfcndbneaaDoor
set_option linter.unusedVariables false
set_option linter.unusedSimpArgs false
open Go.ChangeShapes Go.WideShapes Go.ChangeAt Go.RowKit
set_option maxRecDepth 100000
theorem cz9 : Tryd.prog.cellsOf 9 = 1 := by kernel_rfl
end Go.Proofs.YtffipdfcndbneaaDoor
