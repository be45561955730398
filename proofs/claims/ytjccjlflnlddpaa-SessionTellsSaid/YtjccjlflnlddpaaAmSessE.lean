/- The laws, as their frames ask. -/
import Derived.Test.YtjccjlflnlddpaaAmSessD
import Derived.Test.YtjccjlflnlddpaaAmLaw
import Derived.Test.YtjccjlflnlddpaaOpenSe
namespace Go.Proofs.Ytjccjlflnlddpaa
set_option linter.unusedVariables false
set_option linter.unusedSimpArgs false
open Go.RowKit
open SessP
open ChangeShapes
open WideShapes
open ChangeAt
set_option maxRecDepth 100000
theorem sessionTells_law (W : World) (a0 : Option Addr) (c0 : Nat) (xs0 : List Se) (hr0 : Reads encSe 3 W a0 xs0) (hf0 : ∀ x, x ∈ xs0 → fitSe x) (hc0 : xs0.length ≤ c0 ∧ c0 ≤ maxLen) (hn0 : a0 = none → c0 = 0) (ha0 : ∀ x, a0 = some x → x.spot = none ∧ x.block < W.heap.size) (a1 : Option Addr) (c1 : Nat) (xs1 : List Se) (hr1 : Reads encSe 3 W a1 xs1) (hf1 : ∀ x, x ∈ xs1 → fitSe x) (hc1 : xs1.length ≤ c1 ∧ c1 ≤ maxLen) (hn1 : a1 = none → c1 = 0) (ha1 : ∀ x, a1 = some x → x.spot = none ∧ x.block < W.heap.size) (x2 : Se) (hx2 : fitSe x2) :
    Calls Try.prog 3 #[.slice a0 xs0.length c0, .slice a1 xs1.length c1, .agg (encSe x2).toArray] W fun e W' => e = .returned (.bool true) ∧ Below W.heap.size W W' :=
  law_of_fn (tells_fn xs0 xs1 x2) (.cons (vrep_rows encSe_len (fun _ => rfl) hr0 hc0 hn0 ha0) (.cons (vrep_rows encSe_len (fun _ => rfl) hr1 hc1 hn1 ha1) (.cons (vrep_agg (av := aSe) (fun _ => rfl) x2) (.nil))))
theorem sessionOnce_law (W : World) (a0 : Option Addr) (c0 : Nat) (xs0 : List Se) (hr0 : Reads encSe 3 W a0 xs0) (hf0 : ∀ x, x ∈ xs0 → fitSe x) (hc0 : xs0.length ≤ c0 ∧ c0 ≤ maxLen) (hn0 : a0 = none → c0 = 0) (ha0 : ∀ x, a0 = some x → x.spot = none ∧ x.block < W.heap.size) (x1 : Se) (hx1 : fitSe x1) (a2 : Int) (w2 : (Lit.int .i64 a2).wf = true) :
    Calls Try.prog 4 #[.slice a0 xs0.length c0, .agg (encSe x1).toArray, .int .i64 a2] W fun e W' => e = .returned (.bool true) ∧ Below W.heap.size W W' :=
  law_of_fn (once_fn xs0 x1 a2) (.cons (vrep_rows encSe_len (fun _ => rfl) hr0 hc0 hn0 ha0) (.cons (vrep_agg (av := aSe) (fun _ => rfl) x1) (.cons (.int _ _) (.nil))))
theorem sessionKeeps_law (W : World) (a0 : Option Addr) (c0 : Nat) (xs0 : List Se) (hr0 : Reads encSe 3 W a0 xs0) (hf0 : ∀ x, x ∈ xs0 → fitSe x) (hc0 : xs0.length ≤ c0 ∧ c0 ≤ maxLen) (hn0 : a0 = none → c0 = 0) (ha0 : ∀ x, a0 = some x → x.spot = none ∧ x.block < W.heap.size) (x1 : Se) (hx1 : fitSe x1) :
    Calls Try.prog 5 #[.slice a0 xs0.length c0, .agg (encSe x1).toArray] W fun e W' => e = .returned (.bool true) ∧ Below W.heap.size W W' :=
  law_of_fn (keeps_fn xs0 x1) (.cons (vrep_rows encSe_len (fun _ => rfl) hr0 hc0 hn0 ha0) (.cons (vrep_agg (av := aSe) (fun _ => rfl) x1) (.nil)))
end Go.Proofs.Ytjccjlflnlddpaa
