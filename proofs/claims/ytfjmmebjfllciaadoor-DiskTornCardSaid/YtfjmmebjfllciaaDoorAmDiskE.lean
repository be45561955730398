/- The laws, as their frames ask. -/
import Derived.Test.YtfjmmebjfllciaaDoorAmDiskL
import Derived.Test.YtfjmmebjfllciaaDoorOpnS
namespace Go.Proofs.YtfjmmebjfllciaaDoor
set_option linter.unusedVariables false
set_option linter.unusedSimpArgs false
open Go.RowKit
open Go.ChangeShapes
open Go.WideShapes
set_option maxRecDepth 100000
theorem diskPlays_law (W : World) (hg : GOk [] W) (v0 : Value) (x0 : Int) (rp0 : VRep [] W v0 ((AV.int .i64) x0)) (gd0 : (fit1) x0) (v1 : Value) (x1 : (List ActP)) (rp1 : VRep [] W v1 ((fun l : List ActP => AV.sl (l.map aAct)) x1)) (gd1 : (fun l => l.length ≤ maxLen ∧ ∀ x, x ∈ l → (good_aAct) x) x1) :
    Calls Tryd.prog 4 #[v0, v1] W fun e W' => e = .returned (.bool true) ∧ Below W.heap.size W W' := by
  skip
  exact law_of_fn (plays_fn x0 x1 ) hg (.cons rp0 (.cons rp1 (.nil)))
theorem diskSafe_law (W : World) (hg : GOk [] W) (v0 : Value) (x0 : (List ActP)) (rp0 : VRep [] W v0 ((fun l : List ActP => AV.sl (l.map aAct)) x0)) (gd0 : (fun l => l.length ≤ maxLen ∧ ∀ x, x ∈ l → (good_aAct) x) x0) (v1 : Value) (x1 : Ch) (rp1 : VRep [] W v1 (aCh x1)) (gd1 : (good_aCh) x1) (v2 : Value) (x2 : Ch) (rp2 : VRep [] W v2 (aCh x2)) (gd2 : (good_aCh) x2) :
    Calls Tryd.prog 5 #[v0, v1, v2] W fun e W' => e = .returned (.bool true) ∧ Below W.heap.size W W' := by
  skip
  exact law_of_fn (safe_fn x0 x1 x2 ) hg (.cons rp0 (.cons rp1 (.cons rp2 (.nil))))
theorem diskTorn_law (W : World) (hg : GOk [] W) (v0 : Value) (x0 : ByteArray) (rp0 : VRep [] W v0 (AV.str x0)) (gd0 : (fun s => s.size ≤ maxLen) x0) (v1 : Value) (x1 : ByteArray) (rp1 : VRep [] W v1 (AV.str x1)) (gd1 : (fun s => s.size ≤ maxLen) x1) (v2 : Value) (x2 : Ch) (rp2 : VRep [] W v2 (aCh x2)) (gd2 : (good_aCh) x2) :
    Calls Tryd.prog 3 #[v0, v1, v2] W fun e W' => e = .returned (.bool true) ∧ Below W.heap.size W W' := by
  skip
  exact law_of_fn (torn_fn x0 x1 x2 ) hg (.cons rp0 (.cons rp1 (.cons rp2 (.nil))))
theorem diskNobody_law (W : World) (hg : GOk [] W) (v0 : Value) (x0 : (List ActP)) (rp0 : VRep [] W v0 ((fun l : List ActP => AV.sl (l.map aAct)) x0)) (gd0 : (fun l => l.length ≤ maxLen ∧ ∀ x, x ∈ l → (good_aAct) x) x0) :
    Calls Tryd.prog 6 #[v0] W fun e W' => e = .returned (.bool true) ∧ Below W.heap.size W W' := by
  skip
  exact law_of_fn (nobody_fn x0 ) hg (.cons rp0 (.nil))
end Go.Proofs.YtfjmmebjfllciaaDoor
