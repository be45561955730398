/- The types, and the functions, as they are called. -/
import Derived.Test.YtffipdfcndbneaaDoorAmObj
import Derived.Test.YtffipdfcndbneaaDoorRows
namespace Go.Proofs.YtffipdfcndbneaaDoor
set_option linter.unusedVariables false
set_option linter.unusedSimpArgs false
open Go.RowKit
set_option maxRecDepth 100000
theorem mixed : Tryd.prog.follows .mixedOrders = true := by kernel_rfl
theorem ti3 : Ti Tryd.prog 3 (.int .i64 0) 1 8 := by unfold Ti; kernel_rfl
theorem sz3 : Sz Tryd.prog 3 1 := ti3.sz
theorem zv3 : Zv Tryd.prog 3 (.int .i64 0) := ti3.zv
theorem ti5 : Ti Tryd.prog 5 (.int .u8 0) 1 1 := by unfold Ti; kernel_rfl
theorem sz5 : Sz Tryd.prog 5 1 := ti5.sz
theorem zv5 : Zv Tryd.prog 5 (.int .u8 0) := ti5.zv
theorem ti9 : Ti Tryd.prog 9 (.string ⟨#[]⟩) 1 16 := by unfold Ti; kernel_rfl
theorem sz9 : Sz Tryd.prog 9 1 := ti9.sz
theorem zv9 : Zv Tryd.prog 9 (.string ⟨#[]⟩) := ti9.zv
theorem ti22 : Ti Tryd.prog 22 (.slice none 0 0) 1 24 := by unfold Ti; kernel_rfl
theorem sz22 : Sz Tryd.prog 22 1 := ti22.sz
theorem zv22 : Zv Tryd.prog 22 (.slice none 0 0) := ti22.zv
theorem ti26 : Ti Tryd.prog 26 (.nilIface) 1 16 := by unfold Ti; kernel_rfl
theorem sz26 : Sz Tryd.prog 26 1 := ti26.sz
theorem zv26 : Zv Tryd.prog 26 (.nilIface) := ti26.zv
theorem ti28 : Ti Tryd.prog 28 (.int .i64 0) 1 8 := by unfold Ti; kernel_rfl
theorem sz28 : Sz Tryd.prog 28 1 := ti28.sz
theorem zv28 : Zv Tryd.prog 28 (.int .i64 0) := ti28.zv
theorem ti30 : Ti Tryd.prog 30 (.agg #[.slice none 0 0, .int .i64 0]) 2 32 := by unfold Ti; kernel_rfl
theorem sz30 : Sz Tryd.prog 30 2 := ti30.sz
theorem zv30 : Zv Tryd.prog 30 (.agg #[.slice none 0 0, .int .i64 0]) := ti30.zv
theorem ti46 : Ti Tryd.prog 46 (.pointer none) 1 8 := by unfold Ti; kernel_rfl
theorem sz46 : Sz Tryd.prog 46 1 := ti46.sz
theorem zv46 : Zv Tryd.prog 46 (.pointer none) := ti46.zv
theorem ti48 : Ti Tryd.prog 48 (.agg #[.string ⟨#[]⟩, .nilIface]) 2 32 := by unfold Ti; kernel_rfl
theorem sz48 : Sz Tryd.prog 48 2 := ti48.sz
theorem zv48 : Zv Tryd.prog 48 (.agg #[.string ⟨#[]⟩, .nilIface]) := ti48.zv
theorem ti61 : Ti Tryd.prog 61 (.agg #[.pointer none, .pointer none, .int .u64 0]) 3 24 := by unfold Ti; kernel_rfl
theorem sz61 : Sz Tryd.prog 61 3 := ti61.sz
theorem zv61 : Zv Tryd.prog 61 (.agg #[.pointer none, .pointer none, .int .u64 0]) := ti61.zv
theorem so30 : StOk Tryd.prog 30 (.agg #[.slice none 0 0, .int .i64 0]) [(0, 1), (1, 1)] := ⟨_, Tryd.underlying30, zv30, by kernel_rfl, by kernel_rfl⟩
theorem so48 : StOk Tryd.prog 48 (.agg #[.string ⟨#[]⟩, .nilIface]) [(0, 1), (1, 1)] := ⟨_, Tryd.underlying48, zv48, by kernel_rfl, by kernel_rfl⟩
theorem cf7 : ∀ (vs : Array Value) (W : World), (callFunc 7 vs).run Tryd.prog W = .ok (.enter 7 vs) W := fun _ _ => by rfl
theorem cf8 : ∀ (vs : Array Value) (W : World), (callFunc 8 vs).run Tryd.prog W = .ok (.enter 8 vs) W := fun _ _ => by rfl
theorem cf9 : ∀ (vs : Array Value) (W : World), (callFunc 9 vs).run Tryd.prog W = .ok (.enter 9 vs) W := fun _ _ => by rfl
theorem cf10 : ∀ (vs : Array Value) (W : World), (callFunc 10 vs).run Tryd.prog W = .ok (.enter 10 vs) W := fun _ _ => by rfl
theorem cf11 : ∀ (vs : Array Value) (W : World), (callFunc 11 vs).run Tryd.prog W = .ok (.enter 11 vs) W := fun _ _ => by rfl
theorem cf12 : ∀ (vs : Array Value) (W : World), (callFunc 12 vs).run Tryd.prog W = .ok (.enter 12 vs) W := fun _ _ => by rfl
theorem cf13 : ∀ (vs : Array Value) (W : World), (callFunc 13 vs).run Tryd.prog W = .ok (.enter 13 vs) W := fun _ _ => by rfl
theorem cf14 : ∀ (vs : Array Value) (W : World), (callFunc 14 vs).run Tryd.prog W = .ok (.enter 14 vs) W := fun _ _ => by rfl
theorem cf15 : ∀ (vs : Array Value) (W : World), (callFunc 15 vs).run Tryd.prog W = .ok (.enter 15 vs) W := fun _ _ => by rfl
theorem cf16 : ∀ (vs : Array Value) (W : World), (callFunc 16 vs).run Tryd.prog W = .ok (.enter 16 vs) W := fun _ _ => by rfl
theorem cf17 : ∀ (vs : Array Value) (W : World), (callFunc 17 vs).run Tryd.prog W = .ok (.enter 17 vs) W := fun _ _ => by rfl
theorem cf18 : ∀ (vs : Array Value) (W : World), (callFunc 18 vs).run Tryd.prog W = .ok (.enter 18 vs) W := fun _ _ => by rfl
theorem cf19 : ∀ (vs : Array Value) (W : World), (callFunc 19 vs).run Tryd.prog W = .ok (.enter 19 vs) W := fun _ _ => by rfl
theorem cf20 : ∀ (vs : Array Value) (W : World), (callFunc 20 vs).run Tryd.prog W = .ok (.enter 20 vs) W := fun _ _ => by rfl
theorem cf21 : ∀ (vs : Array Value) (W : World), (callFunc 21 vs).run Tryd.prog W = .ok (.enter 21 vs) W := fun _ _ => by rfl
theorem cf22 : ∀ (vs : Array Value) (W : World), (callFunc 22 vs).run Tryd.prog W = .ok (.enter 22 vs) W := fun _ _ => by rfl
theorem cf23 : ∀ (vs : Array Value) (W : World), (callFunc 23 vs).run Tryd.prog W = .ok (.enter 23 vs) W := fun _ _ => by rfl
theorem cf24 : ∀ (vs : Array Value) (W : World), (callFunc 24 vs).run Tryd.prog W = .ok (.enter 24 vs) W := fun _ _ => by rfl
theorem cf25 : ∀ (vs : Array Value) (W : World), (callFunc 25 vs).run Tryd.prog W = .ok (.enter 25 vs) W := fun _ _ => by rfl
theorem cf26 : ∀ (vs : Array Value) (W : World), (callFunc 26 vs).run Tryd.prog W = .ok (.enter 26 vs) W := fun _ _ => by rfl
theorem cf27 : ∀ (vs : Array Value) (W : World), (callFunc 27 vs).run Tryd.prog W = .ok (.enter 27 vs) W := fun _ _ => by rfl
theorem cf28 : ∀ (vs : Array Value) (W : World), (callFunc 28 vs).run Tryd.prog W = .ok (.enter 28 vs) W := fun _ _ => by rfl
theorem cf29 : ∀ (vs : Array Value) (W : World), (callFunc 29 vs).run Tryd.prog W = .ok (.enter 29 vs) W := fun _ _ => by rfl
theorem cf33 : ∀ (vs : Array Value) (W : World), (callFunc 33 vs).run Tryd.prog W = .ok (.enter 33 vs) W := fun _ _ => by rfl
theorem cf34 : ∀ (vs : Array Value) (W : World), (callFunc 34 vs).run Tryd.prog W = .ok (.enter 34 vs) W := fun _ _ => by rfl
theorem cf35 : ∀ (vs : Array Value) (W : World), (callFunc 35 vs).run Tryd.prog W = .ok (.enter 35 vs) W := fun _ _ => by rfl
theorem cf37 : ∀ (vs : Array Value) (W : World), (callFunc 37 vs).run Tryd.prog W = .ok (.enter 37 vs) W := fun _ _ => by rfl
end Go.Proofs.YtffipdfcndbneaaDoor
