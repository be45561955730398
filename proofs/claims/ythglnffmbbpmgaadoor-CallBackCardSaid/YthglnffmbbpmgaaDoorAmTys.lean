/- The types, and the functions, as they are called. -/
import Derived.Test.YthglnffmbbpmgaaDoorAmObj
import Derived.Test.YthglnffmbbpmgaaDoorRows
namespace Go.Proofs.YthglnffmbbpmgaaDoor
set_option linter.unusedVariables false
set_option linter.unusedSimpArgs false
open Go.RowKit
set_option maxRecDepth 100000
theorem mixed : Tryd.prog.follows .mixedOrders = true := by kernel_rfl
theorem ti3 : Ti Tryd.prog 3 (.int .i64 0) 1 8 := by unfold Ti; kernel_rfl
theorem sz3 : Sz Tryd.prog 3 1 := ti3.sz
theorem zv3 : Zv Tryd.prog 3 (.int .i64 0) := ti3.zv
theorem ti4 : Ti Tryd.prog 4 (.bool false) 1 1 := by unfold Ti; kernel_rfl
theorem sz4 : Sz Tryd.prog 4 1 := ti4.sz
theorem zv4 : Zv Tryd.prog 4 (.bool false) := ti4.zv
theorem ti9 : Ti Tryd.prog 9 (.string ⟨#[]⟩) 1 16 := by unfold Ti; kernel_rfl
theorem sz9 : Sz Tryd.prog 9 1 := ti9.sz
theorem zv9 : Zv Tryd.prog 9 (.string ⟨#[]⟩) := ti9.zv
theorem ti22 : Ti Tryd.prog 22 (.int .i64 0) 1 8 := by unfold Ti; kernel_rfl
theorem sz22 : Sz Tryd.prog 22 1 := ti22.sz
theorem zv22 : Zv Tryd.prog 22 (.int .i64 0) := ti22.zv
theorem ti23 : Ti Tryd.prog 23 (.slice none 0 0) 1 24 := by unfold Ti; kernel_rfl
theorem sz23 : Sz Tryd.prog 23 1 := ti23.sz
theorem zv23 : Zv Tryd.prog 23 (.slice none 0 0) := ti23.zv
theorem ti25 : Ti Tryd.prog 25 (.agg #[.int .i64 0, .slice none 0 0]) 2 32 := by unfold Ti; kernel_rfl
theorem sz25 : Sz Tryd.prog 25 2 := ti25.sz
theorem zv25 : Zv Tryd.prog 25 (.agg #[.int .i64 0, .slice none 0 0]) := ti25.zv
theorem ti28 : Ti Tryd.prog 28 (.nilIface) 1 16 := by unfold Ti; kernel_rfl
theorem sz28 : Sz Tryd.prog 28 1 := ti28.sz
theorem zv28 : Zv Tryd.prog 28 (.nilIface) := ti28.zv
theorem ti38 : Ti Tryd.prog 38 (.slice none 0 0) 1 24 := by unfold Ti; kernel_rfl
theorem sz38 : Sz Tryd.prog 38 1 := ti38.sz
theorem zv38 : Zv Tryd.prog 38 (.slice none 0 0) := ti38.zv
theorem ti40 : Ti Tryd.prog 40 (.agg #[.int .i64 0, .int .i64 0, .int .i64 0, .int .i64 0, .int .i64 0, .int .i64 0, .slice none 0 0]) 7 72 := by unfold Ti; kernel_rfl
theorem sz40 : Sz Tryd.prog 40 7 := ti40.sz
theorem zv40 : Zv Tryd.prog 40 (.agg #[.int .i64 0, .int .i64 0, .int .i64 0, .int .i64 0, .int .i64 0, .int .i64 0, .slice none 0 0]) := ti40.zv
theorem ti59 : Ti Tryd.prog 59 (.agg #[.pointer none, .slice none 0 0]) 2 32 := by unfold Ti; kernel_rfl
theorem sz59 : Sz Tryd.prog 59 2 := ti59.sz
theorem zv59 : Zv Tryd.prog 59 (.agg #[.pointer none, .slice none 0 0]) := ti59.zv
theorem ti61 : Ti Tryd.prog 61 (.agg #[.pointer none, .slice none 0 0, .nilIface]) 3 48 := by unfold Ti; kernel_rfl
theorem sz61 : Sz Tryd.prog 61 3 := ti61.sz
theorem zv61 : Zv Tryd.prog 61 (.agg #[.pointer none, .slice none 0 0, .nilIface]) := ti61.zv
theorem ti66 : Ti Tryd.prog 66 (.agg #[.string ⟨#[]⟩, .string ⟨#[]⟩, .int .i64 0]) 3 40 := by unfold Ti; kernel_rfl
theorem sz66 : Sz Tryd.prog 66 3 := ti66.sz
theorem zv66 : Zv Tryd.prog 66 (.agg #[.string ⟨#[]⟩, .string ⟨#[]⟩, .int .i64 0]) := ti66.zv
theorem ti79 : Ti Tryd.prog 79 (.agg #[.int .i64 0, .int .i64 0]) 2 16 := by unfold Ti; kernel_rfl
theorem sz79 : Sz Tryd.prog 79 2 := ti79.sz
theorem zv79 : Zv Tryd.prog 79 (.agg #[.int .i64 0, .int .i64 0]) := ti79.zv
theorem ti82 : Ti Tryd.prog 82 (.agg #[.string ⟨#[]⟩, .int .i64 0, .string ⟨#[]⟩, .int .i64 0]) 4 48 := by unfold Ti; kernel_rfl
theorem sz82 : Sz Tryd.prog 82 4 := ti82.sz
theorem zv82 : Zv Tryd.prog 82 (.agg #[.string ⟨#[]⟩, .int .i64 0, .string ⟨#[]⟩, .int .i64 0]) := ti82.zv
theorem ti83 : Ti Tryd.prog 83 (.agg #[.int .i64 0, .int .i64 0, .int .i64 0, .int .i64 0, .int .i64 0, .int .i64 0]) 6 48 := by unfold Ti; kernel_rfl
theorem sz83 : Sz Tryd.prog 83 6 := ti83.sz
theorem zv83 : Zv Tryd.prog 83 (.agg #[.int .i64 0, .int .i64 0, .int .i64 0, .int .i64 0, .int .i64 0, .int .i64 0]) := ti83.zv
theorem ti94 : Ti Tryd.prog 94 (.pointer none) 1 8 := by unfold Ti; kernel_rfl
theorem sz94 : Sz Tryd.prog 94 1 := ti94.sz
theorem zv94 : Zv Tryd.prog 94 (.pointer none) := ti94.zv
theorem ti96 : Ti Tryd.prog 96 (.agg #[.string ⟨#[]⟩, .nilIface]) 2 32 := by unfold Ti; kernel_rfl
theorem sz96 : Sz Tryd.prog 96 2 := ti96.sz
theorem zv96 : Zv Tryd.prog 96 (.agg #[.string ⟨#[]⟩, .nilIface]) := ti96.zv
theorem ti109 : Ti Tryd.prog 109 (.agg #[.pointer none, .pointer none, .int .u64 0]) 3 24 := by unfold Ti; kernel_rfl
theorem sz109 : Sz Tryd.prog 109 3 := ti109.sz
theorem zv109 : Zv Tryd.prog 109 (.agg #[.pointer none, .pointer none, .int .u64 0]) := ti109.zv
theorem ti119 : Ti Tryd.prog 119 (.agg #[.string ⟨#[]⟩, .int .i64 0, .nilIface, .bool false]) 4 48 := by unfold Ti; kernel_rfl
theorem sz119 : Sz Tryd.prog 119 4 := ti119.sz
theorem zv119 : Zv Tryd.prog 119 (.agg #[.string ⟨#[]⟩, .int .i64 0, .nilIface, .bool false]) := ti119.zv
theorem so25 : StOk Tryd.prog 25 (.agg #[.int .i64 0, .slice none 0 0]) [(0, 1), (1, 1)] := ⟨_, Tryd.underlying25, zv25, by kernel_rfl, by kernel_rfl⟩
theorem so40 : StOk Tryd.prog 40 (.agg #[.int .i64 0, .int .i64 0, .int .i64 0, .int .i64 0, .int .i64 0, .int .i64 0, .slice none 0 0]) [(0, 1), (1, 1), (2, 1), (3, 1), (4, 1), (5, 1), (6, 1)] := ⟨_, Tryd.underlying40, zv40, by kernel_rfl, by kernel_rfl⟩
theorem so66 : StOk Tryd.prog 66 (.agg #[.string ⟨#[]⟩, .string ⟨#[]⟩, .int .i64 0]) [(0, 1), (1, 1), (2, 1)] := ⟨_, Tryd.underlying66, zv66, by kernel_rfl, by kernel_rfl⟩
theorem so79 : StOk Tryd.prog 79 (.agg #[.int .i64 0, .int .i64 0]) [(0, 1), (1, 1)] := ⟨_, Tryd.underlying79, zv79, by kernel_rfl, by kernel_rfl⟩
theorem so82 : StOk Tryd.prog 82 (.agg #[.string ⟨#[]⟩, .int .i64 0, .string ⟨#[]⟩, .int .i64 0]) [(0, 1), (1, 1), (2, 1), (3, 1)] := ⟨_, Tryd.underlying82, zv82, by kernel_rfl, by kernel_rfl⟩
theorem so96 : StOk Tryd.prog 96 (.agg #[.string ⟨#[]⟩, .nilIface]) [(0, 1), (1, 1)] := ⟨_, Tryd.underlying96, zv96, by kernel_rfl, by kernel_rfl⟩
theorem so119 : StOk Tryd.prog 119 (.agg #[.string ⟨#[]⟩, .int .i64 0, .nilIface, .bool false]) [(0, 1), (1, 1), (2, 1), (3, 1)] := ⟨_, Tryd.underlying119, zv119, by kernel_rfl, by kernel_rfl⟩
theorem eq79 : EqOk Tryd.prog 79 [.int, .int] := ⟨_, Tryd.underlying79, by kernel_rfl, by kernel_rfl, by kernel_rfl, by kernel_rfl⟩
theorem cf7 : ∀ (vs : Array Value) (W : World), (callFunc 7 vs).run Tryd.prog W = .ok (.enter 7 vs) W := fun _ _ => by rfl
theorem cf8 : ∀ (vs : Array Value) (W : World), (callFunc 8 vs).run Tryd.prog W = .ok (.enter 8 vs) W := fun _ _ => by rfl
theorem cf9 : ∀ (vs : Array Value) (W : World), (callFunc 9 vs).run Tryd.prog W = .ok (.enter 9 vs) W := fun _ _ => by rfl
theorem cf10 : ∀ (vs : Array Value) (W : World), (callFunc 10 vs).run Tryd.prog W = .ok (.enter 10 vs) W := fun _ _ => by rfl
theorem cf11 : ∀ (vs : Array Value) (W : World), (callFunc 11 vs).run Tryd.prog W = .ok (.enter 11 vs) W := fun _ _ => by rfl
theorem cf12 : ∀ (vs : Array Value) (W : World), (callFunc 12 vs).run Tryd.prog W = .ok (.enter 12 vs) W := fun _ _ => by rfl
theorem cf13 : ∀ (vs : Array Value) (W : World), (callFunc 13 vs).run Tryd.prog W = .ok (.enter 13 vs) W := fun _ _ => by rfl
theorem cf14 : ∀ (vs : Array Value) (W : World), (callFunc 14 vs).run Tryd.prog W = .ok (.enter 14 vs) W := fun _ _ => by rfl
theorem cf15 : ∀ (vs : Array Value) (W : World), (callFunc 15 vs).run Tryd.prog W = .ok (.enter 15 vs) W := fun _ _ => by rfl
theorem cf16 : ∀ (vs : Array Value) (W : World), (callFunc 16 vs).run Tryd.prog W = .ok (.enter 16 vs) W := fun _ _ => by rfl
theorem cf17 : ∀ (vs : Array Value) (W : World), (callFunc 17 vs).run Tryd.prog W = .ok (.enter 17 vs) W := fun _ _ => by rfl
theorem cf18 : ∀ (vs : Array Value) (W : World), (callFunc 18 vs).run Tryd.prog W = .ok (.enter 18 vs) W := fun _ _ => by rfl
theorem cf19 : ∀ (vs : Array Value) (W : World), (callFunc 19 vs).run Tryd.prog W = .ok (.enter 19 vs) W := fun _ _ => by rfl
theorem cf20 : ∀ (vs : Array Value) (W : World), (callFunc 20 vs).run Tryd.prog W = .ok (.enter 20 vs) W := fun _ _ => by rfl
theorem cf21 : ∀ (vs : Array Value) (W : World), (callFunc 21 vs).run Tryd.prog W = .ok (.enter 21 vs) W := fun _ _ => by rfl
theorem cf22 : ∀ (vs : Array Value) (W : World), (callFunc 22 vs).run Tryd.prog W = .ok (.enter 22 vs) W := fun _ _ => by rfl
theorem cf23 : ∀ (vs : Array Value) (W : World), (callFunc 23 vs).run Tryd.prog W = .ok (.enter 23 vs) W := fun _ _ => by rfl
theorem cf24 : ∀ (vs : Array Value) (W : World), (callFunc 24 vs).run Tryd.prog W = .ok (.enter 24 vs) W := fun _ _ => by rfl
theorem cf25 : ∀ (vs : Array Value) (W : World), (callFunc 25 vs).run Tryd.prog W = .ok (.enter 25 vs) W := fun _ _ => by rfl
theorem cf26 : ∀ (vs : Array Value) (W : World), (callFunc 26 vs).run Tryd.prog W = .ok (.enter 26 vs) W := fun _ _ => by rfl
theorem cf27 : ∀ (vs : Array Value) (W : World), (callFunc 27 vs).run Tryd.prog W = .ok (.enter 27 vs) W := fun _ _ => by rfl
theorem cf28 : ∀ (vs : Array Value) (W : World), (callFunc 28 vs).run Tryd.prog W = .ok (.enter 28 vs) W := fun _ _ => by rfl
theorem cf29 : ∀ (vs : Array Value) (W : World), (callFunc 29 vs).run Tryd.prog W = .ok (.enter 29 vs) W := fun _ _ => by rfl
theorem cf30 : ∀ (vs : Array Value) (W : World), (callFunc 30 vs).run Tryd.prog W = .ok (.enter 30 vs) W := fun _ _ => by rfl
theorem cf31 : ∀ (vs : Array Value) (W : World), (callFunc 31 vs).run Tryd.prog W = .ok (.enter 31 vs) W := fun _ _ => by rfl
theorem cf32 : ∀ (vs : Array Value) (W : World), (callFunc 32 vs).run Tryd.prog W = .ok (.enter 32 vs) W := fun _ _ => by rfl
theorem cf33 : ∀ (vs : Array Value) (W : World), (callFunc 33 vs).run Tryd.prog W = .ok (.enter 33 vs) W := fun _ _ => by rfl
theorem cf34 : ∀ (vs : Array Value) (W : World), (callFunc 34 vs).run Tryd.prog W = .ok (.enter 34 vs) W := fun _ _ => by rfl
theorem cf35 : ∀ (vs : Array Value) (W : World), (callFunc 35 vs).run Tryd.prog W = .ok (.enter 35 vs) W := fun _ _ => by rfl
theorem cf36 : ∀ (vs : Array Value) (W : World), (callFunc 36 vs).run Tryd.prog W = .ok (.enter 36 vs) W := fun _ _ => by rfl
theorem cf37 : ∀ (vs : Array Value) (W : World), (callFunc 37 vs).run Tryd.prog W = .ok (.enter 37 vs) W := fun _ _ => by rfl
theorem cf38 : ∀ (vs : Array Value) (W : World), (callFunc 38 vs).run Tryd.prog W = .ok (.enter 38 vs) W := fun _ _ => by rfl
theorem cf39 : ∀ (vs : Array Value) (W : World), (callFunc 39 vs).run Tryd.prog W = .ok (.enter 39 vs) W := fun _ _ => by rfl
theorem cf40 : ∀ (vs : Array Value) (W : World), (callFunc 40 vs).run Tryd.prog W = .ok (.enter 40 vs) W := fun _ _ => by rfl
theorem cf41 : ∀ (vs : Array Value) (W : World), (callFunc 41 vs).run Tryd.prog W = .ok (.enter 41 vs) W := fun _ _ => by rfl
theorem cf42 : ∀ (vs : Array Value) (W : World), (callFunc 42 vs).run Tryd.prog W = .ok (.enter 42 vs) W := fun _ _ => by rfl
theorem cf43 : ∀ (vs : Array Value) (W : World), (callFunc 43 vs).run Tryd.prog W = .ok (.enter 43 vs) W := fun _ _ => by rfl
theorem cf44 : ∀ (vs : Array Value) (W : World), (callFunc 44 vs).run Tryd.prog W = .ok (.enter 44 vs) W := fun _ _ => by rfl
theorem cf45 : ∀ (vs : Array Value) (W : World), (callFunc 45 vs).run Tryd.prog W = .ok (.enter 45 vs) W := fun _ _ => by rfl
theorem cf46 : ∀ (vs : Array Value) (W : World), (callFunc 46 vs).run Tryd.prog W = .ok (.enter 46 vs) W := fun _ _ => by rfl
theorem cf47 : ∀ (vs : Array Value) (W : World), (callFunc 47 vs).run Tryd.prog W = .ok (.enter 47 vs) W := fun _ _ => by rfl
theorem cf48 : ∀ (vs : Array Value) (W : World), (callFunc 48 vs).run Tryd.prog W = .ok (.enter 48 vs) W := fun _ _ => by rfl
theorem cf49 : ∀ (vs : Array Value) (W : World), (callFunc 49 vs).run Tryd.prog W = .ok (.enter 49 vs) W := fun _ _ => by rfl
theorem cf50 : ∀ (vs : Array Value) (W : World), (callFunc 50 vs).run Tryd.prog W = .ok (.enter 50 vs) W := fun _ _ => by rfl
theorem cf51 : ∀ (vs : Array Value) (W : World), (callFunc 51 vs).run Tryd.prog W = .ok (.enter 51 vs) W := fun _ _ => by rfl
theorem cf52 : ∀ (vs : Array Value) (W : World), (callFunc 52 vs).run Tryd.prog W = .ok (.enter 52 vs) W := fun _ _ => by rfl
theorem cf53 : ∀ (vs : Array Value) (W : World), (callFunc 53 vs).run Tryd.prog W = .ok (.enter 53 vs) W := fun _ _ => by rfl
theorem cf54 : ∀ (vs : Array Value) (W : World), (callFunc 54 vs).run Tryd.prog W = .ok (.enter 54 vs) W := fun _ _ => by rfl
theorem cf55 : ∀ (vs : Array Value) (W : World), (callFunc 55 vs).run Tryd.prog W = .ok (.enter 55 vs) W := fun _ _ => by rfl
theorem cf56 : ∀ (vs : Array Value) (W : World), (callFunc 56 vs).run Tryd.prog W = .ok (.enter 56 vs) W := fun _ _ => by rfl
theorem cf57 : ∀ (vs : Array Value) (W : World), (callFunc 57 vs).run Tryd.prog W = .ok (.enter 57 vs) W := fun _ _ => by rfl
theorem cf58 : ∀ (vs : Array Value) (W : World), (callFunc 58 vs).run Tryd.prog W = .ok (.enter 58 vs) W := fun _ _ => by rfl
theorem cf59 : ∀ (vs : Array Value) (W : World), (callFunc 59 vs).run Tryd.prog W = .ok (.enter 59 vs) W := fun _ _ => by rfl
theorem cf63 : ∀ (vs : Array Value) (W : World), (callFunc 63 vs).run Tryd.prog W = .ok (.enter 63 vs) W := fun _ _ => by rfl
theorem cf64 : ∀ (vs : Array Value) (W : World), (callFunc 64 vs).run Tryd.prog W = .ok (.enter 64 vs) W := fun _ _ => by rfl
theorem cf65 : ∀ (vs : Array Value) (W : World), (callFunc 65 vs).run Tryd.prog W = .ok (.enter 65 vs) W := fun _ _ => by rfl
theorem cf66 : ∀ (vs : Array Value) (W : World), (callFunc 66 vs).run Tryd.prog W = .ok (.enter 66 vs) W := fun _ _ => by rfl
theorem cf67 : ∀ (vs : Array Value) (W : World), (callFunc 67 vs).run Tryd.prog W = .ok (.enter 67 vs) W := fun _ _ => by rfl
theorem cf68 : ∀ (vs : Array Value) (W : World), (callFunc 68 vs).run Tryd.prog W = .ok (.enter 68 vs) W := fun _ _ => by rfl
theorem cf69 : ∀ (vs : Array Value) (W : World), (callFunc 69 vs).run Tryd.prog W = .ok (.enter 69 vs) W := fun _ _ => by rfl
theorem cf70 : ∀ (vs : Array Value) (W : World), (callFunc 70 vs).run Tryd.prog W = .ok (.enter 70 vs) W := fun _ _ => by rfl
theorem cf71 : ∀ (vs : Array Value) (W : World), (callFunc 71 vs).run Tryd.prog W = .ok (.enter 71 vs) W := fun _ _ => by rfl
theorem cf72 : ∀ (vs : Array Value) (W : World), (callFunc 72 vs).run Tryd.prog W = .ok (.enter 72 vs) W := fun _ _ => by rfl
theorem cf73 : ∀ (vs : Array Value) (W : World), (callFunc 73 vs).run Tryd.prog W = .ok (.enter 73 vs) W := fun _ _ => by rfl
theorem cf74 : ∀ (vs : Array Value) (W : World), (callFunc 74 vs).run Tryd.prog W = .ok (.enter 74 vs) W := fun _ _ => by rfl
theorem cf75 : ∀ (vs : Array Value) (W : World), (callFunc 75 vs).run Tryd.prog W = .ok (.enter 75 vs) W := fun _ _ => by rfl
theorem cf76 : ∀ (vs : Array Value) (W : World), (callFunc 76 vs).run Tryd.prog W = .ok (.enter 76 vs) W := fun _ _ => by rfl
theorem cf77 : ∀ (vs : Array Value) (W : World), (callFunc 77 vs).run Tryd.prog W = .ok (.enter 77 vs) W := fun _ _ => by rfl
theorem cf78 : ∀ (vs : Array Value) (W : World), (callFunc 78 vs).run Tryd.prog W = .ok (.enter 78 vs) W := fun _ _ => by rfl
theorem cf79 : ∀ (vs : Array Value) (W : World), (callFunc 79 vs).run Tryd.prog W = .ok (.enter 79 vs) W := fun _ _ => by rfl
theorem cf81 : ∀ (vs : Array Value) (W : World), (callFunc 81 vs).run Tryd.prog W = .ok (.enter 81 vs) W := fun _ _ => by rfl
theorem cf111 : ∀ (vs : Array Value) (W : World), (callFunc 111 vs).run Tryd.prog W = .ok (.enter 111 vs) W := fun _ _ => by rfl
end Go.Proofs.YthglnffmbbpmgaaDoor
