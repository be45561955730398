/- The package-level variables that are read, and what they hold. -/
import Derived.Test.YtfjmmebjfllciaaDoorRg
namespace Go.Proofs.YtfjmmebjfllciaaDoor
def globs : List (Nat × Value) := [(0, .iface 98 (.agg #[.pointer (some ⟨1, 27, none⟩)]))]
end Go.Proofs.YtfjmmebjfllciaaDoor
