/- The laws of call, as the statements ask. -/
import Derived.Test.YthglnffmbbpmgaaDoorAmT10
import Derived.Test.YthglnffmbbpmgaaDoorOpnS
import Derived.Test.YthglnffmbbpmgaaDoorAmLaw
namespace Go.Proofs.YthglnffmbbpmgaaDoor
set_option linter.unusedVariables false
set_option linter.unusedSimpArgs false
open Go.RowKit
open NumP
open Go.WideShapes
set_option maxRecDepth 100000
theorem callReplies_law (W : World) (hg : GOk [] W) (v0 : Value) (x0 : Rp) (rp0 : VRep [] W v0 (aRp x0)) (gd0 : (good_aRp) x0) (v1 : Value) (x1 : Rp) (rp1 : VRep [] W v1 (aRp x1)) (gd1 : (good_aRp) x1) :
    Calls Tryd.prog 3 #[v0, v1] W fun e W' => e = .returned (.bool true) ∧ Below W.heap.size W W' := by
  skip
  exact law_of_fn (replies_fn x0 x1 gd0.2.2 gd1.2.2) hg (.cons rp0 (.cons rp1 (.nil)))
theorem callBack_law (W : World) (hg : GOk [] W) (v0 : Value) (x0 : Cl) (rp0 : VRep [] W v0 (aCl x0)) (gd0 : (good_aCl) x0) :
    Calls Tryd.prog 4 #[v0] W fun e W' => e = .returned (.bool true) ∧ Below W.heap.size W W' := by
  skip
  exact law_of_fn (back_fn x0 ) hg (.cons rp0 (.nil))
theorem callOnly_law (W : World) (hg : GOk [] W) (v0 : Value) (x0 : ByteArray) (rp0 : VRep [] W v0 (AV.str x0)) (gd0 : (fun s => s.size ≤ maxLen) x0) :
    Calls Tryd.prog 5 #[v0] W fun e W' => e = .returned (.bool true) ∧ Below W.heap.size W W' := by
  skip
  exact law_of_fn (only_fn x0 ) hg (.cons rp0 (.nil))
theorem callTakes_law (W : World) (hg : GOk [] W) (v0 : Value) (x0 : ByteArray) (rp0 : VRep [] W v0 (AV.str x0)) (gd0 : (fun s => s.size ≤ maxLen) x0) :
    Calls Tryd.prog 6 #[v0] W fun e W' => e = .returned (.bool true) ∧ Below W.heap.size W W' := by
  skip
  exact law_of_fn (takes_fn x0 ) hg (.cons rp0 (.nil))
end Go.Proofs.YthglnffmbbpmgaaDoor
