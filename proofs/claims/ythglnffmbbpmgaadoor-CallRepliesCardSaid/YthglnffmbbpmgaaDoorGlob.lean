/- The package-level variables that are read, and what they hold. -/
import Derived.Test.YthglnffmbbpmgaaDoorRg
namespace Go.Proofs.YthglnffmbbpmgaaDoor
def globs : List (Nat × Value) := [(0, .iface 140 (.agg #[.pointer (some ⟨1, 28, none⟩)]))]
end Go.Proofs.YthglnffmbbpmgaaDoor
