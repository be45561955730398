/- The types, and the functions, as they are called. -/
import Derived.Test.YthogpkmidffdeaaDoorAmObj
import Derived.Test.YthogpkmidffdeaaDoorRows
namespace Go.Proofs.YthogpkmidffdeaaDoor
set_option linter.unusedVariables false
set_option linter.unusedSimpArgs false
open Go.RowKit
set_option maxRecDepth 100000
theorem mixed : Tryd.prog.follows .mixedOrders = true := by kernel_rfl
theorem ti3 : Ti Tryd.prog 3 (.int .i64 0) 1 8 := by unfold Ti; kernel_rfl
theorem sz3 : Sz Tryd.prog 3 1 := ti3.sz
theorem zv3 : Zv Tryd.prog 3 (.int .i64 0) := ti3.zv
theorem ti4 : Ti Tryd.prog 4 (.bool false) 1 1 := by unfold Ti; kernel_rfl
theorem sz4 : Sz Tryd.prog 4 1 := ti4.sz
theorem zv4 : Zv Tryd.prog 4 (.bool false) := ti4.zv
theorem ti5 : Ti Tryd.prog 5 (.int .u8 0) 1 1 := by unfold Ti; kernel_rfl
theorem sz5 : Sz Tryd.prog 5 1 := ti5.sz
theorem zv5 : Zv Tryd.prog 5 (.int .u8 0) := ti5.zv
theorem ti9 : Ti Tryd.prog 9 (.string ⟨#[]⟩) 1 16 := by unfold Ti; kernel_rfl
theorem sz9 : Sz Tryd.prog 9 1 := ti9.sz
theorem zv9 : Zv Tryd.prog 9 (.string ⟨#[]⟩) := ti9.zv
theorem ti24 : Ti Tryd.prog 24 (.agg #[.int .i64 0, .int .i64 0, .string ⟨#[]⟩, .int .i64 0, .int .i64 0, .string ⟨#[]⟩]) 6 64 := by unfold Ti; kernel_rfl
theorem sz24 : Sz Tryd.prog 24 6 := ti24.sz
theorem zv24 : Zv Tryd.prog 24 (.agg #[.int .i64 0, .int .i64 0, .string ⟨#[]⟩, .int .i64 0, .int .i64 0, .string ⟨#[]⟩]) := ti24.zv
theorem ti29 : Ti Tryd.prog 29 (.int .i64 0) 1 8 := by unfold Ti; kernel_rfl
theorem sz29 : Sz Tryd.prog 29 1 := ti29.sz
theorem zv29 : Zv Tryd.prog 29 (.int .i64 0) := ti29.zv
theorem ti41 : Ti Tryd.prog 41 (.agg #[.int .i64 0, .int .i64 0, .string ⟨#[]⟩, .int .i64 0, .int .i64 0, .string ⟨#[]⟩]) 6 64 := by unfold Ti; kernel_rfl
theorem sz41 : Sz Tryd.prog 41 6 := ti41.sz
theorem zv41 : Zv Tryd.prog 41 (.agg #[.int .i64 0, .int .i64 0, .string ⟨#[]⟩, .int .i64 0, .int .i64 0, .string ⟨#[]⟩]) := ti41.zv
theorem ti48 : Ti Tryd.prog 48 (.slice none 0 0) 1 24 := by unfold Ti; kernel_rfl
theorem sz48 : Sz Tryd.prog 48 1 := ti48.sz
theorem zv48 : Zv Tryd.prog 48 (.slice none 0 0) := ti48.zv
theorem ti50 : Ti Tryd.prog 50 (.agg #[.int .i64 0, .int .i64 0, .int .i64 0, .int .i64 0, .int .i64 0, .int .i64 0, .slice none 0 0]) 7 72 := by unfold Ti; kernel_rfl
theorem sz50 : Sz Tryd.prog 50 7 := ti50.sz
theorem zv50 : Zv Tryd.prog 50 (.agg #[.int .i64 0, .int .i64 0, .int .i64 0, .int .i64 0, .int .i64 0, .int .i64 0, .slice none 0 0]) := ti50.zv
theorem ti52 : Ti Tryd.prog 52 (.nilIface) 1 16 := by unfold Ti; kernel_rfl
theorem sz52 : Sz Tryd.prog 52 1 := ti52.sz
theorem zv52 : Zv Tryd.prog 52 (.nilIface) := ti52.zv
theorem ti72 : Ti Tryd.prog 72 (.agg #[.int .i64 0, .int .i64 0]) 2 16 := by unfold Ti; kernel_rfl
theorem sz72 : Sz Tryd.prog 72 2 := ti72.sz
theorem zv72 : Zv Tryd.prog 72 (.agg #[.int .i64 0, .int .i64 0]) := ti72.zv
theorem ti79 : Ti Tryd.prog 79 (.agg #[.string ⟨#[]⟩, .int .i64 0, .string ⟨#[]⟩, .int .i64 0]) 4 48 := by unfold Ti; kernel_rfl
theorem sz79 : Sz Tryd.prog 79 4 := ti79.sz
theorem zv79 : Zv Tryd.prog 79 (.agg #[.string ⟨#[]⟩, .int .i64 0, .string ⟨#[]⟩, .int .i64 0]) := ti79.zv
theorem ti80 : Ti Tryd.prog 80 (.agg #[.int .i64 0, .int .i64 0, .int .i64 0, .int .i64 0, .int .i64 0, .int .i64 0]) 6 48 := by unfold Ti; kernel_rfl
theorem sz80 : Sz Tryd.prog 80 6 := ti80.sz
theorem zv80 : Zv Tryd.prog 80 (.agg #[.int .i64 0, .int .i64 0, .int .i64 0, .int .i64 0, .int .i64 0, .int .i64 0]) := ti80.zv
theorem ti88 : Ti Tryd.prog 88 (.agg #[.string ⟨#[]⟩, .int .i64 0, .nilIface, .bool false]) 4 48 := by unfold Ti; kernel_rfl
theorem sz88 : Sz Tryd.prog 88 4 := ti88.sz
theorem zv88 : Zv Tryd.prog 88 (.agg #[.string ⟨#[]⟩, .int .i64 0, .nilIface, .bool false]) := ti88.zv
theorem ti94 : Ti Tryd.prog 94 (.pointer none) 1 8 := by unfold Ti; kernel_rfl
theorem sz94 : Sz Tryd.prog 94 1 := ti94.sz
theorem zv94 : Zv Tryd.prog 94 (.pointer none) := ti94.zv
theorem ti96 : Ti Tryd.prog 96 (.agg #[.string ⟨#[]⟩, .nilIface]) 2 32 := by unfold Ti; kernel_rfl
theorem sz96 : Sz Tryd.prog 96 2 := ti96.sz
theorem zv96 : Zv Tryd.prog 96 (.agg #[.string ⟨#[]⟩, .nilIface]) := ti96.zv
theorem ti101 : Ti Tryd.prog 101 (.agg #[.pointer none, .pointer none, .int .u64 0]) 3 24 := by unfold Ti; kernel_rfl
theorem sz101 : Sz Tryd.prog 101 3 := ti101.sz
theorem zv101 : Zv Tryd.prog 101 (.agg #[.pointer none, .pointer none, .int .u64 0]) := ti101.zv
theorem so24 : StOk Tryd.prog 24 (.agg #[.int .i64 0, .int .i64 0, .string ⟨#[]⟩, .int .i64 0, .int .i64 0, .string ⟨#[]⟩]) [(0, 1), (1, 1), (2, 1), (3, 1), (4, 1), (5, 1)] := ⟨_, Tryd.underlying24, zv24, by kernel_rfl, by kernel_rfl⟩
theorem so41 : StOk Tryd.prog 41 (.agg #[.int .i64 0, .int .i64 0, .string ⟨#[]⟩, .int .i64 0, .int .i64 0, .string ⟨#[]⟩]) [(0, 1), (1, 1), (2, 1), (3, 1), (4, 1), (5, 1)] := ⟨_, Tryd.underlying41, zv41, by kernel_rfl, by kernel_rfl⟩
theorem so50 : StOk Tryd.prog 50 (.agg #[.int .i64 0, .int .i64 0, .int .i64 0, .int .i64 0, .int .i64 0, .int .i64 0, .slice none 0 0]) [(0, 1), (1, 1), (2, 1), (3, 1), (4, 1), (5, 1), (6, 1)] := ⟨_, Tryd.underlying50, zv50, by kernel_rfl, by kernel_rfl⟩
theorem so72 : StOk Tryd.prog 72 (.agg #[.int .i64 0, .int .i64 0]) [(0, 1), (1, 1)] := ⟨_, Tryd.underlying72, zv72, by kernel_rfl, by kernel_rfl⟩
theorem so79 : StOk Tryd.prog 79 (.agg #[.string ⟨#[]⟩, .int .i64 0, .string ⟨#[]⟩, .int .i64 0]) [(0, 1), (1, 1), (2, 1), (3, 1)] := ⟨_, Tryd.underlying79, zv79, by kernel_rfl, by kernel_rfl⟩
theorem so88 : StOk Tryd.prog 88 (.agg #[.string ⟨#[]⟩, .int .i64 0, .nilIface, .bool false]) [(0, 1), (1, 1), (2, 1), (3, 1)] := ⟨_, Tryd.underlying88, zv88, by kernel_rfl, by kernel_rfl⟩
theorem so96 : StOk Tryd.prog 96 (.agg #[.string ⟨#[]⟩, .nilIface]) [(0, 1), (1, 1)] := ⟨_, Tryd.underlying96, zv96, by kernel_rfl, by kernel_rfl⟩
theorem eq24 : EqOk Tryd.prog 24 [.int, .int, .str, .int, .int, .str] := ⟨_, Tryd.underlying24, by kernel_rfl, by kernel_rfl, by kernel_rfl, by kernel_rfl⟩
theorem eq41 : EqOk Tryd.prog 41 [.int, .int, .str, .int, .int, .str] := ⟨_, Tryd.underlying41, by kernel_rfl, by kernel_rfl, by kernel_rfl, by kernel_rfl⟩
theorem cf6 : ∀ (vs : Array Value) (W : World), (callFunc 6 vs).run Tryd.prog W = .ok (.enter 6 vs) W := fun _ _ => by rfl
theorem cf7 : ∀ (vs : Array Value) (W : World), (callFunc 7 vs).run Tryd.prog W = .ok (.enter 7 vs) W := fun _ _ => by rfl
theorem cf8 : ∀ (vs : Array Value) (W : World), (callFunc 8 vs).run Tryd.prog W = .ok (.enter 8 vs) W := fun _ _ => by rfl
theorem cf9 : ∀ (vs : Array Value) (W : World), (callFunc 9 vs).run Tryd.prog W = .ok (.enter 9 vs) W := fun _ _ => by rfl
theorem cf10 : ∀ (vs : Array Value) (W : World), (callFunc 10 vs).run Tryd.prog W = .ok (.enter 10 vs) W := fun _ _ => by rfl
theorem cf11 : ∀ (vs : Array Value) (W : World), (callFunc 11 vs).run Tryd.prog W = .ok (.enter 11 vs) W := fun _ _ => by rfl
theorem cf12 : ∀ (vs : Array Value) (W : World), (callFunc 12 vs).run Tryd.prog W = .ok (.enter 12 vs) W := fun _ _ => by rfl
theorem cf13 : ∀ (vs : Array Value) (W : World), (callFunc 13 vs).run Tryd.prog W = .ok (.enter 13 vs) W := fun _ _ => by rfl
theorem cf14 : ∀ (vs : Array Value) (W : World), (callFunc 14 vs).run Tryd.prog W = .ok (.enter 14 vs) W := fun _ _ => by rfl
theorem cf15 : ∀ (vs : Array Value) (W : World), (callFunc 15 vs).run Tryd.prog W = .ok (.enter 15 vs) W := fun _ _ => by rfl
theorem cf16 : ∀ (vs : Array Value) (W : World), (callFunc 16 vs).run Tryd.prog W = .ok (.enter 16 vs) W := fun _ _ => by rfl
theorem cf17 : ∀ (vs : Array Value) (W : World), (callFunc 17 vs).run Tryd.prog W = .ok (.enter 17 vs) W := fun _ _ => by rfl
theorem cf18 : ∀ (vs : Array Value) (W : World), (callFunc 18 vs).run Tryd.prog W = .ok (.enter 18 vs) W := fun _ _ => by rfl
theorem cf19 : ∀ (vs : Array Value) (W : World), (callFunc 19 vs).run Tryd.prog W = .ok (.enter 19 vs) W := fun _ _ => by rfl
theorem cf20 : ∀ (vs : Array Value) (W : World), (callFunc 20 vs).run Tryd.prog W = .ok (.enter 20 vs) W := fun _ _ => by rfl
theorem cf21 : ∀ (vs : Array Value) (W : World), (callFunc 21 vs).run Tryd.prog W = .ok (.enter 21 vs) W := fun _ _ => by rfl
theorem cf22 : ∀ (vs : Array Value) (W : World), (callFunc 22 vs).run Tryd.prog W = .ok (.enter 22 vs) W := fun _ _ => by rfl
theorem cf23 : ∀ (vs : Array Value) (W : World), (callFunc 23 vs).run Tryd.prog W = .ok (.enter 23 vs) W := fun _ _ => by rfl
theorem cf24 : ∀ (vs : Array Value) (W : World), (callFunc 24 vs).run Tryd.prog W = .ok (.enter 24 vs) W := fun _ _ => by rfl
theorem cf25 : ∀ (vs : Array Value) (W : World), (callFunc 25 vs).run Tryd.prog W = .ok (.enter 25 vs) W := fun _ _ => by rfl
theorem cf26 : ∀ (vs : Array Value) (W : World), (callFunc 26 vs).run Tryd.prog W = .ok (.enter 26 vs) W := fun _ _ => by rfl
theorem cf27 : ∀ (vs : Array Value) (W : World), (callFunc 27 vs).run Tryd.prog W = .ok (.enter 27 vs) W := fun _ _ => by rfl
theorem cf28 : ∀ (vs : Array Value) (W : World), (callFunc 28 vs).run Tryd.prog W = .ok (.enter 28 vs) W := fun _ _ => by rfl
theorem cf29 : ∀ (vs : Array Value) (W : World), (callFunc 29 vs).run Tryd.prog W = .ok (.enter 29 vs) W := fun _ _ => by rfl
theorem cf30 : ∀ (vs : Array Value) (W : World), (callFunc 30 vs).run Tryd.prog W = .ok (.enter 30 vs) W := fun _ _ => by rfl
theorem cf31 : ∀ (vs : Array Value) (W : World), (callFunc 31 vs).run Tryd.prog W = .ok (.enter 31 vs) W := fun _ _ => by rfl
theorem cf32 : ∀ (vs : Array Value) (W : World), (callFunc 32 vs).run Tryd.prog W = .ok (.enter 32 vs) W := fun _ _ => by rfl
theorem cf33 : ∀ (vs : Array Value) (W : World), (callFunc 33 vs).run Tryd.prog W = .ok (.enter 33 vs) W := fun _ _ => by rfl
theorem cf34 : ∀ (vs : Array Value) (W : World), (callFunc 34 vs).run Tryd.prog W = .ok (.enter 34 vs) W := fun _ _ => by rfl
theorem cf35 : ∀ (vs : Array Value) (W : World), (callFunc 35 vs).run Tryd.prog W = .ok (.enter 35 vs) W := fun _ _ => by rfl
theorem cf36 : ∀ (vs : Array Value) (W : World), (callFunc 36 vs).run Tryd.prog W = .ok (.enter 36 vs) W := fun _ _ => by rfl
theorem cf37 : ∀ (vs : Array Value) (W : World), (callFunc 37 vs).run Tryd.prog W = .ok (.enter 37 vs) W := fun _ _ => by rfl
theorem cf38 : ∀ (vs : Array Value) (W : World), (callFunc 38 vs).run Tryd.prog W = .ok (.enter 38 vs) W := fun _ _ => by rfl
theorem cf39 : ∀ (vs : Array Value) (W : World), (callFunc 39 vs).run Tryd.prog W = .ok (.enter 39 vs) W := fun _ _ => by rfl
theorem cf40 : ∀ (vs : Array Value) (W : World), (callFunc 40 vs).run Tryd.prog W = .ok (.enter 40 vs) W := fun _ _ => by rfl
theorem cf41 : ∀ (vs : Array Value) (W : World), (callFunc 41 vs).run Tryd.prog W = .ok (.enter 41 vs) W := fun _ _ => by rfl
theorem cf42 : ∀ (vs : Array Value) (W : World), (callFunc 42 vs).run Tryd.prog W = .ok (.enter 42 vs) W := fun _ _ => by rfl
theorem cf43 : ∀ (vs : Array Value) (W : World), (callFunc 43 vs).run Tryd.prog W = .ok (.enter 43 vs) W := fun _ _ => by rfl
theorem cf44 : ∀ (vs : Array Value) (W : World), (callFunc 44 vs).run Tryd.prog W = .ok (.enter 44 vs) W := fun _ _ => by rfl
theorem cf45 : ∀ (vs : Array Value) (W : World), (callFunc 45 vs).run Tryd.prog W = .ok (.enter 45 vs) W := fun _ _ => by rfl
theorem cf46 : ∀ (vs : Array Value) (W : World), (callFunc 46 vs).run Tryd.prog W = .ok (.enter 46 vs) W := fun _ _ => by rfl
theorem cf47 : ∀ (vs : Array Value) (W : World), (callFunc 47 vs).run Tryd.prog W = .ok (.enter 47 vs) W := fun _ _ => by rfl
theorem cf48 : ∀ (vs : Array Value) (W : World), (callFunc 48 vs).run Tryd.prog W = .ok (.enter 48 vs) W := fun _ _ => by rfl
theorem cf49 : ∀ (vs : Array Value) (W : World), (callFunc 49 vs).run Tryd.prog W = .ok (.enter 49 vs) W := fun _ _ => by rfl
theorem cf50 : ∀ (vs : Array Value) (W : World), (callFunc 50 vs).run Tryd.prog W = .ok (.enter 50 vs) W := fun _ _ => by rfl
theorem cf51 : ∀ (vs : Array Value) (W : World), (callFunc 51 vs).run Tryd.prog W = .ok (.enter 51 vs) W := fun _ _ => by rfl
theorem cf52 : ∀ (vs : Array Value) (W : World), (callFunc 52 vs).run Tryd.prog W = .ok (.enter 52 vs) W := fun _ _ => by rfl
theorem cf53 : ∀ (vs : Array Value) (W : World), (callFunc 53 vs).run Tryd.prog W = .ok (.enter 53 vs) W := fun _ _ => by rfl
theorem cf54 : ∀ (vs : Array Value) (W : World), (callFunc 54 vs).run Tryd.prog W = .ok (.enter 54 vs) W := fun _ _ => by rfl
theorem cf55 : ∀ (vs : Array Value) (W : World), (callFunc 55 vs).run Tryd.prog W = .ok (.enter 55 vs) W := fun _ _ => by rfl
theorem cf59 : ∀ (vs : Array Value) (W : World), (callFunc 59 vs).run Tryd.prog W = .ok (.enter 59 vs) W := fun _ _ => by rfl
theorem cf60 : ∀ (vs : Array Value) (W : World), (callFunc 60 vs).run Tryd.prog W = .ok (.enter 60 vs) W := fun _ _ => by rfl
theorem cf61 : ∀ (vs : Array Value) (W : World), (callFunc 61 vs).run Tryd.prog W = .ok (.enter 61 vs) W := fun _ _ => by rfl
theorem cf62 : ∀ (vs : Array Value) (W : World), (callFunc 62 vs).run Tryd.prog W = .ok (.enter 62 vs) W := fun _ _ => by rfl
theorem cf63 : ∀ (vs : Array Value) (W : World), (callFunc 63 vs).run Tryd.prog W = .ok (.enter 63 vs) W := fun _ _ => by rfl
theorem cf64 : ∀ (vs : Array Value) (W : World), (callFunc 64 vs).run Tryd.prog W = .ok (.enter 64 vs) W := fun _ _ => by rfl
theorem cf65 : ∀ (vs : Array Value) (W : World), (callFunc 65 vs).run Tryd.prog W = .ok (.enter 65 vs) W := fun _ _ => by rfl
theorem cf67 : ∀ (vs : Array Value) (W : World), (callFunc 67 vs).run Tryd.prog W = .ok (.enter 67 vs) W := fun _ _ => by rfl
theorem cf68 : ∀ (vs : Array Value) (W : World), (callFunc 68 vs).run Tryd.prog W = .ok (.enter 68 vs) W := fun _ _ => by rfl
theorem cf69 : ∀ (vs : Array Value) (W : World), (callFunc 69 vs).run Tryd.prog W = .ok (.enter 69 vs) W := fun _ _ => by rfl
theorem cf92 : ∀ (vs : Array Value) (W : World), (callFunc 92 vs).run Tryd.prog W = .ok (.enter 92 vs) W := fun _ _ => by rfl
end Go.Proofs.YthogpkmidffdeaaDoor
