/- The package-level variables that are read, and what they hold. -/
import Derived.Test.YtimkioaaljdnoaaDoorRg
namespace Go.Proofs.YtimkioaaljdnoaaDoor
def globs : List (Nat × Value) := [(0, .iface 131 (.agg #[.pointer (some ⟨1, 44, none⟩)]))]
end Go.Proofs.YtimkioaaljdnoaaDoor
