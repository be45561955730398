/- The types, and the functions, as they are called. -/
import Derived.Test.YtfeeohbapnolcaaAmObj
import Derived.Test.YtfeeohbapnolcaaRows
namespace Go.Proofs.Ytfeeohbapnolcaa
set_option linter.unusedVariables false
set_option linter.unusedSimpArgs false
open Go.RowKit
set_option maxRecDepth 100000
theorem mixed : Try.prog.follows .mixedOrders = true := by kernel_rfl
theorem ti3 : Ti Try.prog 3 (.int .i64 0) 1 8 := by unfold Ti; kernel_rfl
theorem sz3 : Sz Try.prog 3 1 := ti3.sz
theorem zv3 : Zv Try.prog 3 (.int .i64 0) := ti3.zv
theorem ti22 : Ti Try.prog 22 (.slice none 0 0) 1 24 := by unfold Ti; kernel_rfl
theorem sz22 : Sz Try.prog 22 1 := ti22.sz
theorem zv22 : Zv Try.prog 22 (.slice none 0 0) := ti22.zv
theorem ti25 : Ti Try.prog 25 (.int .i64 0) 1 8 := by unfold Ti; kernel_rfl
theorem sz25 : Sz Try.prog 25 1 := ti25.sz
theorem zv25 : Zv Try.prog 25 (.int .i64 0) := ti25.zv
theorem ti34 : Ti Try.prog 34 (.agg #[.int .i64 0, .int .i64 0, .int .i64 0, .int .i64 0]) 4 32 := by unfold Ti; kernel_rfl
theorem sz34 : Sz Try.prog 34 4 := ti34.sz
theorem zv34 : Zv Try.prog 34 (.agg #[.int .i64 0, .int .i64 0, .int .i64 0, .int .i64 0]) := ti34.zv
theorem ti42 : Ti Try.prog 42 (.agg #[.slice none 0 0, .slice none 0 0, .slice none 0 0, .slice none 0 0, .slice none 0 0, .slice none 0 0]) 6 144 := by unfold Ti; kernel_rfl
theorem sz42 : Sz Try.prog 42 6 := ti42.sz
theorem zv42 : Zv Try.prog 42 (.agg #[.slice none 0 0, .slice none 0 0, .slice none 0 0, .slice none 0 0, .slice none 0 0, .slice none 0 0]) := ti42.zv
theorem ti43 : Ti Try.prog 43 (.agg #[.int .i64 0, .int .i64 0, .int .i64 0, .int .i64 0, .int .i64 0, .int .i64 0]) 6 48 := by unfold Ti; kernel_rfl
theorem sz43 : Sz Try.prog 43 6 := ti43.sz
theorem zv43 : Zv Try.prog 43 (.agg #[.int .i64 0, .int .i64 0, .int .i64 0, .int .i64 0, .int .i64 0, .int .i64 0]) := ti43.zv
theorem so34 : StOk Try.prog 34 (.agg #[.int .i64 0, .int .i64 0, .int .i64 0, .int .i64 0]) [(0, 1), (1, 1), (2, 1), (3, 1)] := ⟨_, Try.underlying34, zv34, by kernel_rfl, by kernel_rfl⟩
theorem eq34 : EqOk Try.prog 34 [.int, .int, .int, .int] := ⟨_, Try.underlying34, by kernel_rfl, by kernel_rfl, by kernel_rfl, by kernel_rfl⟩
theorem cf6 : ∀ (vs : Array Value) (W : World), (callFunc 6 vs).run Try.prog W = .ok (.enter 6 vs) W := fun _ _ => by rfl
theorem cf7 : ∀ (vs : Array Value) (W : World), (callFunc 7 vs).run Try.prog W = .ok (.enter 7 vs) W := fun _ _ => by rfl
theorem cf8 : ∀ (vs : Array Value) (W : World), (callFunc 8 vs).run Try.prog W = .ok (.enter 8 vs) W := fun _ _ => by rfl
theorem cf9 : ∀ (vs : Array Value) (W : World), (callFunc 9 vs).run Try.prog W = .ok (.enter 9 vs) W := fun _ _ => by rfl
theorem cf10 : ∀ (vs : Array Value) (W : World), (callFunc 10 vs).run Try.prog W = .ok (.enter 10 vs) W := fun _ _ => by rfl
theorem cf11 : ∀ (vs : Array Value) (W : World), (callFunc 11 vs).run Try.prog W = .ok (.enter 11 vs) W := fun _ _ => by rfl
theorem cf12 : ∀ (vs : Array Value) (W : World), (callFunc 12 vs).run Try.prog W = .ok (.enter 12 vs) W := fun _ _ => by rfl
theorem cf13 : ∀ (vs : Array Value) (W : World), (callFunc 13 vs).run Try.prog W = .ok (.enter 13 vs) W := fun _ _ => by rfl
theorem cf14 : ∀ (vs : Array Value) (W : World), (callFunc 14 vs).run Try.prog W = .ok (.enter 14 vs) W := fun _ _ => by rfl
theorem cf15 : ∀ (vs : Array Value) (W : World), (callFunc 15 vs).run Try.prog W = .ok (.enter 15 vs) W := fun _ _ => by rfl
theorem cf16 : ∀ (vs : Array Value) (W : World), (callFunc 16 vs).run Try.prog W = .ok (.enter 16 vs) W := fun _ _ => by rfl
theorem cf17 : ∀ (vs : Array Value) (W : World), (callFunc 17 vs).run Try.prog W = .ok (.enter 17 vs) W := fun _ _ => by rfl
theorem cf18 : ∀ (vs : Array Value) (W : World), (callFunc 18 vs).run Try.prog W = .ok (.enter 18 vs) W := fun _ _ => by rfl
theorem cf19 : ∀ (vs : Array Value) (W : World), (callFunc 19 vs).run Try.prog W = .ok (.enter 19 vs) W := fun _ _ => by rfl
theorem cf20 : ∀ (vs : Array Value) (W : World), (callFunc 20 vs).run Try.prog W = .ok (.enter 20 vs) W := fun _ _ => by rfl
theorem cf21 : ∀ (vs : Array Value) (W : World), (callFunc 21 vs).run Try.prog W = .ok (.enter 21 vs) W := fun _ _ => by rfl
theorem cf22 : ∀ (vs : Array Value) (W : World), (callFunc 22 vs).run Try.prog W = .ok (.enter 22 vs) W := fun _ _ => by rfl
theorem cf23 : ∀ (vs : Array Value) (W : World), (callFunc 23 vs).run Try.prog W = .ok (.enter 23 vs) W := fun _ _ => by rfl
theorem cf24 : ∀ (vs : Array Value) (W : World), (callFunc 24 vs).run Try.prog W = .ok (.enter 24 vs) W := fun _ _ => by rfl
theorem cf25 : ∀ (vs : Array Value) (W : World), (callFunc 25 vs).run Try.prog W = .ok (.enter 25 vs) W := fun _ _ => by rfl
theorem cf26 : ∀ (vs : Array Value) (W : World), (callFunc 26 vs).run Try.prog W = .ok (.enter 26 vs) W := fun _ _ => by rfl
theorem cf27 : ∀ (vs : Array Value) (W : World), (callFunc 27 vs).run Try.prog W = .ok (.enter 27 vs) W := fun _ _ => by rfl
theorem cf28 : ∀ (vs : Array Value) (W : World), (callFunc 28 vs).run Try.prog W = .ok (.enter 28 vs) W := fun _ _ => by rfl
theorem cf29 : ∀ (vs : Array Value) (W : World), (callFunc 29 vs).run Try.prog W = .ok (.enter 29 vs) W := fun _ _ => by rfl
theorem cf30 : ∀ (vs : Array Value) (W : World), (callFunc 30 vs).run Try.prog W = .ok (.enter 30 vs) W := fun _ _ => by rfl
theorem cf31 : ∀ (vs : Array Value) (W : World), (callFunc 31 vs).run Try.prog W = .ok (.enter 31 vs) W := fun _ _ => by rfl
theorem cf32 : ∀ (vs : Array Value) (W : World), (callFunc 32 vs).run Try.prog W = .ok (.enter 32 vs) W := fun _ _ => by rfl
theorem cf33 : ∀ (vs : Array Value) (W : World), (callFunc 33 vs).run Try.prog W = .ok (.enter 33 vs) W := fun _ _ => by rfl
theorem cf34 : ∀ (vs : Array Value) (W : World), (callFunc 34 vs).run Try.prog W = .ok (.enter 34 vs) W := fun _ _ => by rfl
theorem cf35 : ∀ (vs : Array Value) (W : World), (callFunc 35 vs).run Try.prog W = .ok (.enter 35 vs) W := fun _ _ => by rfl
theorem cf36 : ∀ (vs : Array Value) (W : World), (callFunc 36 vs).run Try.prog W = .ok (.enter 36 vs) W := fun _ _ => by rfl
theorem cf37 : ∀ (vs : Array Value) (W : World), (callFunc 37 vs).run Try.prog W = .ok (.enter 37 vs) W := fun _ _ => by rfl
theorem cf38 : ∀ (vs : Array Value) (W : World), (callFunc 38 vs).run Try.prog W = .ok (.enter 38 vs) W := fun _ _ => by rfl
theorem cf41 : ∀ (vs : Array Value) (W : World), (callFunc 41 vs).run Try.prog W = .ok (.enter 41 vs) W := fun _ _ => by rfl
end Go.Proofs.Ytfeeohbapnolcaa
