/- The types, and the functions, as they are called. -/
import Derived.Test.YtfjmmebjfllciaaDoorAmObj
import Derived.Test.YtfjmmebjfllciaaDoorRows
namespace Go.Proofs.YtfjmmebjfllciaaDoor
set_option linter.unusedVariables false
set_option linter.unusedSimpArgs false
open Go.RowKit
set_option maxRecDepth 100000
theorem mixed : Tryd.prog.follows .mixedOrders = true := by kernel_rfl
theorem ti3 : Ti Tryd.prog 3 (.int .i64 0) 1 8 := by unfold Ti; kernel_rfl
theorem sz3 : Sz Tryd.prog 3 1 := ti3.sz
theorem zv3 : Zv Tryd.prog 3 (.int .i64 0) := ti3.zv
theorem ti4 : Ti Tryd.prog 4 (.bool false) 1 1 := by unfold Ti; kernel_rfl
theorem sz4 : Sz Tryd.prog 4 1 := ti4.sz
theorem zv4 : Zv Tryd.prog 4 (.bool false) := ti4.zv
theorem ti9 : Ti Tryd.prog 9 (.string ⟨#[]⟩) 1 16 := by unfold Ti; kernel_rfl
theorem sz9 : Sz Tryd.prog 9 1 := ti9.sz
theorem zv9 : Zv Tryd.prog 9 (.string ⟨#[]⟩) := ti9.zv
theorem ti23 : Ti Tryd.prog 23 (.agg #[.int .i64 0, .string ⟨#[]⟩, .bool false]) 3 32 := by unfold Ti; kernel_rfl
theorem sz23 : Sz Tryd.prog 23 3 := ti23.sz
theorem zv23 : Zv Tryd.prog 23 (.agg #[.int .i64 0, .string ⟨#[]⟩, .bool false]) := ti23.zv
theorem ti27 : Ti Tryd.prog 27 (.nilIface) 1 16 := by unfold Ti; kernel_rfl
theorem sz27 : Sz Tryd.prog 27 1 := ti27.sz
theorem zv27 : Zv Tryd.prog 27 (.nilIface) := ti27.zv
theorem ti39 : Ti Tryd.prog 39 (.agg #[.string ⟨#[]⟩, .string ⟨#[]⟩]) 2 32 := by unfold Ti; kernel_rfl
theorem sz39 : Sz Tryd.prog 39 2 := ti39.sz
theorem zv39 : Zv Tryd.prog 39 (.agg #[.string ⟨#[]⟩, .string ⟨#[]⟩]) := ti39.zv
theorem ti40 : Ti Tryd.prog 40 (.agg #[.bool false, .bool false]) 2 2 := by unfold Ti; kernel_rfl
theorem sz40 : Sz Tryd.prog 40 2 := ti40.sz
theorem zv40 : Zv Tryd.prog 40 (.agg #[.bool false, .bool false]) := ti40.zv
theorem ti42 : Ti Tryd.prog 42 (.agg #[.string ⟨#[]⟩, .string ⟨#[]⟩, .string ⟨#[]⟩, .string ⟨#[]⟩, .bool false, .bool false, .int .i64 0, .int .i64 0, .int .i64 0, .bool false]) 10 104 := by unfold Ti; kernel_rfl
theorem sz42 : Sz Tryd.prog 42 10 := ti42.sz
theorem zv42 : Zv Tryd.prog 42 (.agg #[.string ⟨#[]⟩, .string ⟨#[]⟩, .string ⟨#[]⟩, .string ⟨#[]⟩, .bool false, .bool false, .int .i64 0, .int .i64 0, .int .i64 0, .bool false]) := ti42.zv
theorem ti45 : Ti Tryd.prog 45 (.int .i64 0) 1 8 := by unfold Ti; kernel_rfl
theorem sz45 : Sz Tryd.prog 45 1 := ti45.sz
theorem zv45 : Zv Tryd.prog 45 (.int .i64 0) := ti45.zv
theorem ti50 : Ti Tryd.prog 50 (.agg #[.int .i64 0, .int .i64 0, .string ⟨#[]⟩, .int .i64 0, .string ⟨#[]⟩, .bool false, .int .i64 0, .string ⟨#[]⟩, .bool false]) 9 96 := by unfold Ti; kernel_rfl
theorem sz50 : Sz Tryd.prog 50 9 := ti50.sz
theorem zv50 : Zv Tryd.prog 50 (.agg #[.int .i64 0, .int .i64 0, .string ⟨#[]⟩, .int .i64 0, .string ⟨#[]⟩, .bool false, .int .i64 0, .string ⟨#[]⟩, .bool false]) := ti50.zv
theorem ti55 : Ti Tryd.prog 55 (.agg #[.int .i64 0, .int .i64 0]) 2 16 := by unfold Ti; kernel_rfl
theorem sz55 : Sz Tryd.prog 55 2 := ti55.sz
theorem zv55 : Zv Tryd.prog 55 (.agg #[.int .i64 0, .int .i64 0]) := ti55.zv
theorem ti59 : Ti Tryd.prog 59 (.agg #[.string ⟨#[]⟩, .int .i64 0, .bool false]) 3 32 := by unfold Ti; kernel_rfl
theorem sz59 : Sz Tryd.prog 59 3 := ti59.sz
theorem zv59 : Zv Tryd.prog 59 (.agg #[.string ⟨#[]⟩, .int .i64 0, .bool false]) := ti59.zv
theorem ti60 : Ti Tryd.prog 60 (.agg #[.string ⟨#[]⟩, .int .i64 0, .bool false, .string ⟨#[]⟩, .int .i64 0, .bool false]) 6 64 := by unfold Ti; kernel_rfl
theorem sz60 : Sz Tryd.prog 60 6 := ti60.sz
theorem zv60 : Zv Tryd.prog 60 (.agg #[.string ⟨#[]⟩, .int .i64 0, .bool false, .string ⟨#[]⟩, .int .i64 0, .bool false]) := ti60.zv
theorem ti62 : Ti Tryd.prog 62 (.agg #[.string ⟨#[]⟩, .int .i64 0, .bool false, .string ⟨#[]⟩, .int .i64 0, .bool false, .int .i64 0, .int .i64 0, .int .i64 0, .bool false]) 10 96 := by unfold Ti; kernel_rfl
theorem sz62 : Sz Tryd.prog 62 10 := ti62.sz
theorem zv62 : Zv Tryd.prog 62 (.agg #[.string ⟨#[]⟩, .int .i64 0, .bool false, .string ⟨#[]⟩, .int .i64 0, .bool false, .int .i64 0, .int .i64 0, .int .i64 0, .bool false]) := ti62.zv
theorem ti75 : Ti Tryd.prog 75 (.agg #[.int .i64 0, .string ⟨#[]⟩, .bool false]) 3 32 := by unfold Ti; kernel_rfl
theorem sz75 : Sz Tryd.prog 75 3 := ti75.sz
theorem zv75 : Zv Tryd.prog 75 (.agg #[.int .i64 0, .string ⟨#[]⟩, .bool false]) := ti75.zv
theorem ti81 : Ti Tryd.prog 81 (.agg #[.pointer none, .pointer none, .int .u64 0]) 3 24 := by unfold Ti; kernel_rfl
theorem sz81 : Sz Tryd.prog 81 3 := ti81.sz
theorem zv81 : Zv Tryd.prog 81 (.agg #[.pointer none, .pointer none, .int .u64 0]) := ti81.zv
theorem ti96 : Ti Tryd.prog 96 (.agg #[.string ⟨#[]⟩, .nilIface]) 2 32 := by unfold Ti; kernel_rfl
theorem sz96 : Sz Tryd.prog 96 2 := ti96.sz
theorem zv96 : Zv Tryd.prog 96 (.agg #[.string ⟨#[]⟩, .nilIface]) := ti96.zv
theorem so23 : StOk Tryd.prog 23 (.agg #[.int .i64 0, .string ⟨#[]⟩, .bool false]) [(0, 1), (1, 1), (2, 1)] := ⟨_, Tryd.underlying23, zv23, by kernel_rfl, by kernel_rfl⟩
theorem so42 : StOk Tryd.prog 42 (.agg #[.string ⟨#[]⟩, .string ⟨#[]⟩, .string ⟨#[]⟩, .string ⟨#[]⟩, .bool false, .bool false, .int .i64 0, .int .i64 0, .int .i64 0, .bool false]) [(0, 2), (2, 2), (4, 2), (6, 1), (7, 1), (8, 1), (9, 1)] := ⟨_, Tryd.underlying42, zv42, by kernel_rfl, by kernel_rfl⟩
theorem so59 : StOk Tryd.prog 59 (.agg #[.string ⟨#[]⟩, .int .i64 0, .bool false]) [(0, 1), (1, 1), (2, 1)] := ⟨_, Tryd.underlying59, zv59, by kernel_rfl, by kernel_rfl⟩
theorem so62 : StOk Tryd.prog 62 (.agg #[.string ⟨#[]⟩, .int .i64 0, .bool false, .string ⟨#[]⟩, .int .i64 0, .bool false, .int .i64 0, .int .i64 0, .int .i64 0, .bool false]) [(0, 6), (6, 1), (7, 1), (8, 1), (9, 1)] := ⟨_, Tryd.underlying62, zv62, by kernel_rfl, by kernel_rfl⟩
theorem so75 : StOk Tryd.prog 75 (.agg #[.int .i64 0, .string ⟨#[]⟩, .bool false]) [(0, 1), (1, 1), (2, 1)] := ⟨_, Tryd.underlying75, zv75, by kernel_rfl, by kernel_rfl⟩
theorem so96 : StOk Tryd.prog 96 (.agg #[.string ⟨#[]⟩, .nilIface]) [(0, 1), (1, 1)] := ⟨_, Tryd.underlying96, zv96, by kernel_rfl, by kernel_rfl⟩
theorem cf7 : ∀ (vs : Array Value) (W : World), (callFunc 7 vs).run Tryd.prog W = .ok (.enter 7 vs) W := fun _ _ => by rfl
theorem cf8 : ∀ (vs : Array Value) (W : World), (callFunc 8 vs).run Tryd.prog W = .ok (.enter 8 vs) W := fun _ _ => by rfl
theorem cf9 : ∀ (vs : Array Value) (W : World), (callFunc 9 vs).run Tryd.prog W = .ok (.enter 9 vs) W := fun _ _ => by rfl
theorem cf10 : ∀ (vs : Array Value) (W : World), (callFunc 10 vs).run Tryd.prog W = .ok (.enter 10 vs) W := fun _ _ => by rfl
theorem cf11 : ∀ (vs : Array Value) (W : World), (callFunc 11 vs).run Tryd.prog W = .ok (.enter 11 vs) W := fun _ _ => by rfl
theorem cf12 : ∀ (vs : Array Value) (W : World), (callFunc 12 vs).run Tryd.prog W = .ok (.enter 12 vs) W := fun _ _ => by rfl
theorem cf13 : ∀ (vs : Array Value) (W : World), (callFunc 13 vs).run Tryd.prog W = .ok (.enter 13 vs) W := fun _ _ => by rfl
theorem cf14 : ∀ (vs : Array Value) (W : World), (callFunc 14 vs).run Tryd.prog W = .ok (.enter 14 vs) W := fun _ _ => by rfl
theorem cf15 : ∀ (vs : Array Value) (W : World), (callFunc 15 vs).run Tryd.prog W = .ok (.enter 15 vs) W := fun _ _ => by rfl
theorem cf16 : ∀ (vs : Array Value) (W : World), (callFunc 16 vs).run Tryd.prog W = .ok (.enter 16 vs) W := fun _ _ => by rfl
theorem cf17 : ∀ (vs : Array Value) (W : World), (callFunc 17 vs).run Tryd.prog W = .ok (.enter 17 vs) W := fun _ _ => by rfl
theorem cf18 : ∀ (vs : Array Value) (W : World), (callFunc 18 vs).run Tryd.prog W = .ok (.enter 18 vs) W := fun _ _ => by rfl
theorem cf19 : ∀ (vs : Array Value) (W : World), (callFunc 19 vs).run Tryd.prog W = .ok (.enter 19 vs) W := fun _ _ => by rfl
theorem cf20 : ∀ (vs : Array Value) (W : World), (callFunc 20 vs).run Tryd.prog W = .ok (.enter 20 vs) W := fun _ _ => by rfl
theorem cf21 : ∀ (vs : Array Value) (W : World), (callFunc 21 vs).run Tryd.prog W = .ok (.enter 21 vs) W := fun _ _ => by rfl
theorem cf22 : ∀ (vs : Array Value) (W : World), (callFunc 22 vs).run Tryd.prog W = .ok (.enter 22 vs) W := fun _ _ => by rfl
theorem cf23 : ∀ (vs : Array Value) (W : World), (callFunc 23 vs).run Tryd.prog W = .ok (.enter 23 vs) W := fun _ _ => by rfl
theorem cf24 : ∀ (vs : Array Value) (W : World), (callFunc 24 vs).run Tryd.prog W = .ok (.enter 24 vs) W := fun _ _ => by rfl
theorem cf25 : ∀ (vs : Array Value) (W : World), (callFunc 25 vs).run Tryd.prog W = .ok (.enter 25 vs) W := fun _ _ => by rfl
theorem cf26 : ∀ (vs : Array Value) (W : World), (callFunc 26 vs).run Tryd.prog W = .ok (.enter 26 vs) W := fun _ _ => by rfl
theorem cf27 : ∀ (vs : Array Value) (W : World), (callFunc 27 vs).run Tryd.prog W = .ok (.enter 27 vs) W := fun _ _ => by rfl
theorem cf28 : ∀ (vs : Array Value) (W : World), (callFunc 28 vs).run Tryd.prog W = .ok (.enter 28 vs) W := fun _ _ => by rfl
theorem cf29 : ∀ (vs : Array Value) (W : World), (callFunc 29 vs).run Tryd.prog W = .ok (.enter 29 vs) W := fun _ _ => by rfl
theorem cf30 : ∀ (vs : Array Value) (W : World), (callFunc 30 vs).run Tryd.prog W = .ok (.enter 30 vs) W := fun _ _ => by rfl
theorem cf31 : ∀ (vs : Array Value) (W : World), (callFunc 31 vs).run Tryd.prog W = .ok (.enter 31 vs) W := fun _ _ => by rfl
theorem cf32 : ∀ (vs : Array Value) (W : World), (callFunc 32 vs).run Tryd.prog W = .ok (.enter 32 vs) W := fun _ _ => by rfl
theorem cf33 : ∀ (vs : Array Value) (W : World), (callFunc 33 vs).run Tryd.prog W = .ok (.enter 33 vs) W := fun _ _ => by rfl
theorem cf34 : ∀ (vs : Array Value) (W : World), (callFunc 34 vs).run Tryd.prog W = .ok (.enter 34 vs) W := fun _ _ => by rfl
theorem cf35 : ∀ (vs : Array Value) (W : World), (callFunc 35 vs).run Tryd.prog W = .ok (.enter 35 vs) W := fun _ _ => by rfl
theorem cf36 : ∀ (vs : Array Value) (W : World), (callFunc 36 vs).run Tryd.prog W = .ok (.enter 36 vs) W := fun _ _ => by rfl
theorem cf37 : ∀ (vs : Array Value) (W : World), (callFunc 37 vs).run Tryd.prog W = .ok (.enter 37 vs) W := fun _ _ => by rfl
theorem cf38 : ∀ (vs : Array Value) (W : World), (callFunc 38 vs).run Tryd.prog W = .ok (.enter 38 vs) W := fun _ _ => by rfl
theorem cf39 : ∀ (vs : Array Value) (W : World), (callFunc 39 vs).run Tryd.prog W = .ok (.enter 39 vs) W := fun _ _ => by rfl
theorem cf40 : ∀ (vs : Array Value) (W : World), (callFunc 40 vs).run Tryd.prog W = .ok (.enter 40 vs) W := fun _ _ => by rfl
theorem cf41 : ∀ (vs : Array Value) (W : World), (callFunc 41 vs).run Tryd.prog W = .ok (.enter 41 vs) W := fun _ _ => by rfl
theorem cf42 : ∀ (vs : Array Value) (W : World), (callFunc 42 vs).run Tryd.prog W = .ok (.enter 42 vs) W := fun _ _ => by rfl
theorem cf43 : ∀ (vs : Array Value) (W : World), (callFunc 43 vs).run Tryd.prog W = .ok (.enter 43 vs) W := fun _ _ => by rfl
theorem cf47 : ∀ (vs : Array Value) (W : World), (callFunc 47 vs).run Tryd.prog W = .ok (.enter 47 vs) W := fun _ _ => by rfl
theorem cf48 : ∀ (vs : Array Value) (W : World), (callFunc 48 vs).run Tryd.prog W = .ok (.enter 48 vs) W := fun _ _ => by rfl
theorem cf49 : ∀ (vs : Array Value) (W : World), (callFunc 49 vs).run Tryd.prog W = .ok (.enter 49 vs) W := fun _ _ => by rfl
theorem cf50 : ∀ (vs : Array Value) (W : World), (callFunc 50 vs).run Tryd.prog W = .ok (.enter 50 vs) W := fun _ _ => by rfl
theorem cf51 : ∀ (vs : Array Value) (W : World), (callFunc 51 vs).run Tryd.prog W = .ok (.enter 51 vs) W := fun _ _ => by rfl
theorem cf52 : ∀ (vs : Array Value) (W : World), (callFunc 52 vs).run Tryd.prog W = .ok (.enter 52 vs) W := fun _ _ => by rfl
theorem cf78 : ∀ (vs : Array Value) (W : World), (callFunc 78 vs).run Tryd.prog W = .ok (.enter 78 vs) W := fun _ _ => by rfl
end Go.Proofs.YtfjmmebjfllciaaDoor
