/- The laws of text, as the statements ask. -/
import Derived.Test.YtimkioaaljdnoaaDoorAmT6
import Derived.Test.YtimkioaaljdnoaaDoorOpnS
namespace Go.Proofs.YtimkioaaljdnoaaDoor
set_option linter.unusedVariables false
set_option linter.unusedSimpArgs false
open Go.RowKit
open NumP
open Go.WideShapes
set_option maxRecDepth 100000
theorem good_all {l : List Pc} (h : ∀ x, x ∈ l → good_aPc x) : ∀ x, x ∈ l → goodPc x := fun x hx => ⟨(h x hx).2.1, fun y hy => (h x hx).2.2.2.2 y hy⟩
theorem textLays_law (W : World) (hg : GOk [] W) (v0 : Value) (x0 : (List Pc)) (rp0 : VRep [] W v0 ((fun l : List Pc => AV.sl (l.map aPc)) x0)) (gd0 : (fun l => l.length ≤ maxLen ∧ ∀ x, x ∈ l → (good_aPc) x) x0) :
    Calls Tryd.prog 3 #[v0] W fun e W' => e = .returned (.bool true) ∧ Below W.heap.size W W' := by
  skip
  exact law_of_fn (lays_fn x0 (good_all gd0.2)) hg (.cons rp0 (.nil))
theorem textReads_law (W : World) (hg : GOk [] W) (v0 : Value) (x0 : ByteArray) (rp0 : VRep [] W v0 (AV.str x0)) (gd0 : (fun s => s.size ≤ maxLen) x0) (v1 : Value) (x1 : (List Pc)) (rp1 : VRep [] W v1 ((fun l : List Pc => AV.sl (l.map aPc)) x1)) (gd1 : (fun l => l.length ≤ maxLen ∧ ∀ x, x ∈ l → (good_aPc) x) x1) :
    Calls Tryd.prog 4 #[v0, v1] W fun e W' => e = .returned (.bool true) ∧ Below W.heap.size W W' := by
  skip
  exact law_of_fn (reads_fn x0 x1 (good_all gd1.2)) hg (.cons rp0 (.cons rp1 (.nil)))
theorem textBack_law (W : World) (hg : GOk [] W) (v0 : Value) (x0 : (List Pc)) (rp0 : VRep [] W v0 ((fun l : List Pc => AV.sl (l.map aPc)) x0)) (gd0 : (fun l => l.length ≤ maxLen ∧ ∀ x, x ∈ l → (good_aPc) x) x0) :
    Calls Tryd.prog 5 #[v0] W fun e W' => e = .returned (.bool true) ∧ Below W.heap.size W W' := by
  skip
  exact law_of_fn (back_fn x0 (good_all gd0.2)) hg (.cons rp0 (.nil))
theorem textFirst_law (W : World) (hg : GOk [] W) (v0 : Value) (x0 : ByteArray) (rp0 : VRep [] W v0 (AV.str x0)) (gd0 : (fun s => s.size ≤ maxLen) x0) (v1 : Value) (x1 : (List Pc)) (rp1 : VRep [] W v1 ((fun l : List Pc => AV.sl (l.map aPc)) x1)) (gd1 : (fun l => l.length ≤ maxLen ∧ ∀ x, x ∈ l → (good_aPc) x) x1) (v2 : Value) (x2 : Pc) (rp2 : VRep [] W v2 (aPc x2)) (gd2 : (good_aPc) x2) :
    Calls Tryd.prog 6 #[v0, v1, v2] W fun e W' => e = .returned (.bool true) ∧ Below W.heap.size W W' := by
  skip
  exact law_of_fn (first_fn x0 x1 x2 (good_all gd1.2)) hg (.cons rp0 (.cons rp1 (.cons rp2 (.nil))))
end Go.Proofs.YtimkioaaljdnoaaDoor
