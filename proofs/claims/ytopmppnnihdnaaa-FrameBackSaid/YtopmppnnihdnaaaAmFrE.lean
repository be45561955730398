/- The laws of frames, as the statements ask. -/
import Derived.Test.YtopmppnnihdnaaaAmFrM
import Derived.Test.YtopmppnnihdnaaaOpnS
import Derived.Test.YtopmppnnihdnaaaAmLaw
namespace Go.Proofs.Ytopmppnnihdnaaa
set_option linter.unusedVariables false
set_option linter.unusedSimpArgs false
open Go.RowKit
open NumP
open Go.WideShapes
set_option maxRecDepth 100000
theorem framePuts_law (W : World) (hg : GOk [] W) (v0 : Value) (x0 : ByteArray) (rp0 : VRep [] W v0 (AV.str x0)) (gd0 : (fun s => s.size ≤ reachBytes) x0) (v1 : Value) (x1 : (List ByteArray)) (rp1 : VRep [] W v1 ((fun l : List ByteArray => AV.sl (l.map AV.str)) x1)) (gd1 : (fun l => l.length ≤ maxLen ∧ ∀ x, x ∈ l → (fun s => s.size ≤ reachBytes) x) x1) :
    Calls Try.prog 3 #[v0, v1] W fun e W' => e = .returned (.bool true) ∧ Below W.heap.size W W' := by
  skip
  exact law_of_fn (puts_fn x0 x1 gd0 gd1.2) hg (.cons rp0 (.cons rp1 (.nil)))
theorem frameGets_law (W : World) (hg : GOk [] W) (v0 : Value) (x0 : ByteArray) (rp0 : VRep [] W v0 (AV.str x0)) (gd0 : (fun s => s.size ≤ maxLen) x0) (v1 : Value) (x1 : Int) (rp1 : VRep [] W v1 ((AV.int .i64) x1)) (gd1 : (fit1) x1) :
    Calls Try.prog 4 #[v0, v1] W fun e W' => e = .returned (.bool true) ∧ Below W.heap.size W W' := by
  skip
  exact law_of_fn (gets_fn x0 x1 ) hg (.cons rp0 (.cons rp1 (.nil)))
theorem frameBack_law (W : World) (hg : GOk [] W) (v0 : Value) (x0 : (List ByteArray)) (rp0 : VRep [] W v0 ((fun l : List ByteArray => AV.sl (l.map AV.str)) x0)) (gd0 : (fun l => l.length ≤ maxLen ∧ ∀ x, x ∈ l → (fun s => s.size ≤ reachBytes) x) x0) (v1 : Value) (x1 : ByteArray) (rp1 : VRep [] W v1 (AV.str x1)) (gd1 : (fun s => s.size ≤ reachBytes) x1) (v2 : Value) (x2 : ByteArray) (rp2 : VRep [] W v2 (AV.str x2)) (gd2 : (fun s => s.size ≤ reachBytes) x2) :
    Calls Try.prog 5 #[v0, v1, v2] W fun e W' => e = .returned (.bool true) ∧ Below W.heap.size W W' := by
  skip
  exact law_of_fn (back_fn x0 x1 x2 gd0.2 gd1) hg (.cons rp0 (.cons rp1 (.cons rp2 (.nil))))
theorem framePrefix_law (W : World) (hg : GOk [] W) (v0 : Value) (x0 : ByteArray) (rp0 : VRep [] W v0 (AV.str x0)) (gd0 : (fun s => s.size ≤ maxLen) x0) (v1 : Value) (x1 : ByteArray) (rp1 : VRep [] W v1 (AV.str x1)) (gd1 : (fun s => s.size ≤ maxLen) x1) :
    Calls Try.prog 6 #[v0, v1] W fun e W' => e = .returned (.bool true) ∧ Below W.heap.size W W' := by
  skip
  exact law_of_fn (prefix_fn x0 x1 ) hg (.cons rp0 (.cons rp1 (.nil)))
end Go.Proofs.Ytopmppnnihdnaaa
