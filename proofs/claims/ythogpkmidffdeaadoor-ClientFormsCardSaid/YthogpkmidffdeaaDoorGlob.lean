/- The package-level variables that are read, and what they hold. -/
import Derived.Test.YthogpkmidffdeaaDoorRg
namespace Go.Proofs.YthogpkmidffdeaaDoor
def globs : List (Nat × Value) := [(0, .iface 121 (.agg #[.pointer (some ⟨1, 52, none⟩)]))]
end Go.Proofs.YthogpkmidffdeaaDoor
