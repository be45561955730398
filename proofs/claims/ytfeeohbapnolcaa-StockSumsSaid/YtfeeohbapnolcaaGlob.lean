/- The package-level variables that are read, and what they hold. -/
import Derived.Test.YtfeeohbapnolcaaRg
namespace Go.Proofs.Ytfeeohbapnolcaa
def globs : List (Nat × Value) := []
end Go.Proofs.Ytfeeohbapnolcaa
