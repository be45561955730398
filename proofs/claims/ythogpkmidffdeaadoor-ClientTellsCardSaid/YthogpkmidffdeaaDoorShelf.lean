/- The shelf's contracts for this program: none is laid here, for none is wanted. The text stands for those that import it. -/
import Derived.Shelf.Lay
import Derived.Shelf.LaySoft
import Derived.Test.YthogpkmidffdeaaDoorProg
namespace Go.Proofs
end Go.Proofs
