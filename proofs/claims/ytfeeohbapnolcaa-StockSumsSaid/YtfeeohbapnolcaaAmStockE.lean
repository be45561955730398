/- The laws, as their frames ask. -/
import Derived.Test.YtfeeohbapnolcaaAmStockF
import Derived.Test.YtfeeohbapnolcaaAmLaw
import Derived.Test.YtfeeohbapnolcaaOpenIt
import Derived.Test.YtfeeohbapnolcaaOpenTwo
namespace Go.Proofs.Ytfeeohbapnolcaa
set_option linter.unusedVariables false
set_option linter.unusedSimpArgs false
open Go.RowKit
open StockP
open ChangeShapes
open WideShapes
open ChangeAt
set_option maxRecDepth 100000
theorem stockTells_law (W : World) (a0 : Option Addr) (c0 : Nat) (xs0 : List It) (hr0 : Reads encIt 4 W a0 xs0) (hf0 : ∀ x, x ∈ xs0 → fitIt x) (hc0 : xs0.length ≤ c0 ∧ c0 ≤ maxLen) (hn0 : a0 = none → c0 = 0) (ha0 : ∀ x, a0 = some x → x.spot = none ∧ x.block < W.heap.size) (x1 y1 : Int) {px1 py1 : Prop} (fx1 : px1) (fy1 : py1) (a2 : Int) (w2 : (Lit.int .i64 a2).wf = true) :
    Calls Try.prog 3 #[.slice a0 xs0.length c0, .agg #[.int .i64 x1, .int .i64 y1], .int .i64 a2] W fun e W' => e = .returned (.bool true) ∧ Below W.heap.size W W' :=
  law_of_fn (tells_fn xs0 x1 y1 a2) (fun p hp => by simp [globs] at hp) (.cons (vrep_rows encIt_len (fun _ => rfl) hr0 hc0 hn0 ha0) (.cons (.agg _ _ rfl (vrep_two x1 y1)) (.cons (.int _ _) (.nil))))
theorem stockKeeps_law (W : World) (a0 : Option Addr) (c0 : Nat) (xs0 : List It) (hr0 : Reads encIt 4 W a0 xs0) (hf0 : ∀ x, x ∈ xs0 → fitIt x) (hc0 : xs0.length ≤ c0 ∧ c0 ≤ maxLen) (hn0 : a0 = none → c0 = 0) (ha0 : ∀ x, a0 = some x → x.spot = none ∧ x.block < W.heap.size) (a1 : Int) (w1 : (Lit.int .i64 a1).wf = true) (a2 : Int) (w2 : (Lit.int .i64 a2).wf = true) :
    Calls Try.prog 5 #[.slice a0 xs0.length c0, .int .i64 a1, .int .i64 a2] W fun e W' => e = .returned (.bool true) ∧ Below W.heap.size W W' :=
  law_of_fn (keeps_fn xs0 a1 a2) (fun p hp => by simp [globs] at hp) (.cons (vrep_rows encIt_len (fun _ => rfl) hr0 hc0 hn0 ha0) (.cons (.int _ _) (.cons (.int _ _) (.nil))))
theorem stockSums_law (W : World) (a0 : Option Addr) (c0 : Nat) (xs0 : List It) (hr0 : Reads encIt 4 W a0 xs0) (hf0 : ∀ x, x ∈ xs0 → fitIt x) (hc0 : xs0.length ≤ c0 ∧ c0 ≤ maxLen) (hn0 : a0 = none → c0 = 0) (ha0 : ∀ x, a0 = some x → x.spot = none ∧ x.block < W.heap.size) (x1 y1 : Int) {px1 py1 : Prop} (fx1 : px1) (fy1 : py1) (a2 : Int) (w2 : (Lit.int .i64 a2).wf = true) :
    Calls Try.prog 4 #[.slice a0 xs0.length c0, .agg #[.int .i64 x1, .int .i64 y1], .int .i64 a2] W fun e W' => e = .returned (.bool true) ∧ Below W.heap.size W W' :=
  law_of_fn (sums_fn xs0 x1 y1 a2) (fun p hp => by simp [globs] at hp) (.cons (vrep_rows encIt_len (fun _ => rfl) hr0 hc0 hn0 ha0) (.cons (.agg _ _ rfl (vrep_two x1 y1)) (.cons (.int _ _) (.nil))))
end Go.Proofs.Ytfeeohbapnolcaa
