/- The package-level variables that are read, and what they hold. -/
import Derived.Test.YtopmppnnihdnaaaRg
namespace Go.Proofs.Ytopmppnnihdnaaa
def globs : List (Nat × Value) := []
end Go.Proofs.Ytopmppnnihdnaaa
