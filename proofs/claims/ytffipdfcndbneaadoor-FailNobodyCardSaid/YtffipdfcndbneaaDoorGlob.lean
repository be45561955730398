/- The package-level variables that are read, and what they hold. -/
import Derived.Test.YtffipdfcndbneaaDoorRg
namespace Go.Proofs.YtffipdfcndbneaaDoor
def globs : List (Nat × Value) := [(0, .iface 76 (.agg #[.pointer (some ⟨1, 26, none⟩)]))]
end Go.Proofs.YtffipdfcndbneaaDoor
