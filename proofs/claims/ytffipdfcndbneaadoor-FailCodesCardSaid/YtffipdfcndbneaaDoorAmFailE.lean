/- The laws, as their frames ask. -/
import Derived.Test.YtffipdfcndbneaaDoorAmFailL
import Derived.Test.YtffipdfcndbneaaDoorOpnS
namespace Go.Proofs.YtffipdfcndbneaaDoor
set_option linter.unusedVariables false
set_option linter.unusedSimpArgs false
open Go.RowKit
open Go.ChangeShapes
open Go.WideShapes
set_option maxRecDepth 100000
theorem failTells_law (W : World) (hg : GOk [] W) (v0 : Value) (x0 : Int) (rp0 : VRep [] W v0 ((AV.int .i64) x0)) (gd0 : (fit1) x0) (v1 : Value) (x1 : (List ByteArray)) (rp1 : VRep [] W v1 ((fun l : List ByteArray => AV.sl (l.map AV.str)) x1)) (gd1 : (fun l => l.length ≤ maxLen ∧ ∀ x, x ∈ l → (fun s => s.size ≤ maxLen) x) x1) (v2 : Value) (x2 : ByteArray) (rp2 : VRep [] W v2 (AV.str x2)) (gd2 : (fun s => s.size ≤ maxLen) x2) :
    Calls Tryd.prog 3 #[v0, v1, v2] W fun e W' => e = .returned (.bool true) ∧ Below W.heap.size W W' := by
  skip
  exact law_of_fn (tells_fn x0 x1 x2 gd0) hg (.cons rp0 (.cons rp1 (.cons rp2 (.nil))))
theorem failCodes_law (W : World) (hg : GOk [] W) (v0 : Value) (x0 : Int) (rp0 : VRep [] W v0 ((AV.int .i64) x0)) (gd0 : (fit1) x0) (v1 : Value) (x1 : Int) (rp1 : VRep [] W v1 ((AV.int .i64) x1)) (gd1 : (fit1) x1) (v2 : Value) (x2 : (List ByteArray)) (rp2 : VRep [] W v2 ((fun l : List ByteArray => AV.sl (l.map AV.str)) x2)) (gd2 : (fun l => l.length ≤ maxLen ∧ ∀ x, x ∈ l → (fun s => s.size ≤ maxLen) x) x2) :
    Calls Tryd.prog 4 #[v0, v1, v2] W fun e W' => e = .returned (.bool true) ∧ Below W.heap.size W W' := by
  skip
  exact law_of_fn (codes_fn x0 x1 x2 gd0) hg (.cons rp0 (.cons rp1 (.cons rp2 (.nil))))
theorem failTrace_law (W : World) (hg : GOk [] W) (v0 : Value) (x0 : Int) (rp0 : VRep [] W v0 ((AV.int .i64) x0)) (gd0 : (fit1) x0) (v1 : Value) (x1 : (List ByteArray)) (rp1 : VRep [] W v1 ((fun l : List ByteArray => AV.sl (l.map AV.str)) x1)) (gd1 : (fun l => l.length ≤ maxLen ∧ ∀ x, x ∈ l → (fun s => s.size ≤ maxLen) x) x1) :
    Calls Tryd.prog 5 #[v0, v1] W fun e W' => e = .returned (.bool true) ∧ Below W.heap.size W W' := by
  skip
  exact law_of_fn (trace_law_fn x0 x1 gd0) hg (.cons rp0 (.cons rp1 (.nil)))
theorem failNobody_law (W : World) (hg : GOk [] W) (v0 : Value) (x0 : Int) (rp0 : VRep [] W v0 ((AV.int .i64) x0)) (gd0 : (fit1) x0) :
    Calls Tryd.prog 6 #[v0] W fun e W' => e = .returned (.bool true) ∧ Below W.heap.size W W' := by
  skip
  exact law_of_fn (nobody_fn x0 gd0) hg (.cons rp0 (.nil))
end Go.Proofs.YtffipdfcndbneaaDoor
