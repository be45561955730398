/- ClientForms, as the statement asks. -/
import Derived.Test.YthogpkmidffdeaaDoorAmT39Q
import Derived.Test.YthogpkmidffdeaaDoorOpnS
import Derived.Test.YthogpkmidffdeaaDoorAmLaw
namespace Go.Proofs.YthogpkmidffdeaaDoor
set_option linter.unusedVariables false
set_option linter.unusedSimpArgs false
open Go.RowKit
open NumP
open Go.WideShapes
set_option maxRecDepth 100000
theorem clientForms_law (W : World) (hg : GOk [] W) (v0 : Value) (x0 : (List Co)) (rp0 : VRep [] W v0 ((fun l : List Co => AV.sl (l.map aCo)) x0)) (gd0 : (fun l => l.length ≤ maxLen ∧ ∀ x, x ∈ l → (good_aCo) x) x0) (v1 : Value) (x1 : Co) (rp1 : VRep [] W v1 (aCo x1)) (gd1 : (good_aCo) x1) :
    Calls Tryd.prog 4 #[v0, v1] W fun e W' => e = .returned (.bool true) ∧ Below W.heap.size W W' := by
  skip
  exact law_of_fn (forms_fn x0 x1 ) hg (.cons rp0 (.cons rp1 (.nil)))
end Go.Proofs.YthogpkmidffdeaaDoor
