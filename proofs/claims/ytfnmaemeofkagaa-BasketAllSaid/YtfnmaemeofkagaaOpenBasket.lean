/- How []api.Line read. -/
import Derived.Test.YtfnmaemeofkagaaOpenStock
import Derived.Test.YtfnmaemeofkagaaBasketWalk
namespace Go.Proofs.Ytfnmaemeofkagaa
open Go.ChangeShapes Go.WideShapes Go.ChangeAt Go.RowKit
open StockP
set_option maxRecDepth 100000
theorem elem_lines {H : Type} {encH : TypeId × Value → H} {W : World} {bb : Nat} {spare : Nat → Bool} {held : Bool} (m : Nat) (cs : List Value) (y : DataW H × List MemPlace) (hl : cs.length = 2)
    (h : DataW.trod encH Try.prog W bb spare held m 40 cs = some y) : ∃ x : Ln, cs = encL x ∧ fitL x := by
  obtain ⟨c0, c1, rfl⟩ : ∃ c0 c1, cs = [c0, c1] := by
    match cs, hl with
    | [c0, c1], _ => exact ⟨c0, c1, rfl⟩
  obtain ⟨xs, m2, _, _, _, hxl, hel⟩ := DataW.trod_struct Try.underlying40 h
  have hn : xs.length = 2 := hxl
  have h0 : DataW.trod encH Try.prog W bb spare held m2 3 (([c0, c1].drop 0).take (Try.prog.cellsOf 3)) = xs[0]? := hel 0 _ rfl
  rw [List.getElem?_eq_getElem (by omega), cellsInt] at h0
  have h1 : DataW.trod encH Try.prog W bb spare held m2 3 (([c0, c1].drop 1).take (Try.prog.cellsOf 3)) = xs[1]? := hel 1 _ rfl
  rw [List.getElem?_eq_getElem (by omega), cellsInt] at h1
  obtain ⟨n0, e0, _, w0⟩ := DataW.trod_int Try.underlying3 h0
  simp at e0
  subst e0
  obtain ⟨n1, e1, _, w1⟩ := DataW.trod_int Try.underlying3 h1
  simp at e1
  subst e1
  exact ⟨⟨n0, n1⟩, rfl, wf64 w0, wf64 w1⟩
theorem cells_lines : Try.prog.cellsOf 40 = 2 := by kernel_rfl
theorem open_lines {H : Type} {encH : TypeId × Value → H} {W : World} {b0 bb : Nat} {spare : Nat → Bool} {held : Bool} {v : Value} {d : DataW H} {p : List MemPlace} {r : Reach}
    (hv : Value.okWide Try.prog W r b0 23 v) (h : DataW.Trod encH Try.prog W bb spare held 23 v d p) :
    ∃ a cap, ∃ xs : List Ln, v = .slice a xs.length cap ∧ xs.length ≤ cap ∧ cap ≤ maxLen ∧ Reads encL 2 W a xs ∧ ∀ x, x ∈ xs → fitL x :=
  open_rows encL fitL 2 (by omega) Try.underlying23 cells_lines elem_lines hv h
theorem open_lines' {H : Type} {encH : TypeId × Value → H} {W : World} {b0 bb : Nat} {spare : Nat → Bool} {held : Bool} {v : Value} {d : DataW H} {p : List MemPlace} {r : Reach}
    (hv : Value.okWide Try.prog W r b0 23 v) (h : DataW.Trod encH Try.prog W bb spare held 23 v d p) :
    ∃ a cap, ∃ xs : List Ln, v = .slice a xs.length cap ∧ xs.length ≤ cap ∧ cap ≤ maxLen ∧ Reads encL 2 W a xs ∧ (∀ x, x ∈ xs → fitL x) ∧ (a = none → cap = 0) :=
  open_rows' encL fitL 2 (by omega) Try.underlying23 cells_lines elem_lines hv h
end Go.Proofs.Ytfnmaemeofkagaa
