/- How []api.Item reads. -/
import Derived.Test.YtfeeohbapnolcaaRecIt
import Derived.Test.YtfeeohbapnolcaaOpen
namespace Go.Proofs.Ytfeeohbapnolcaa
set_option linter.unusedVariables false
set_option linter.unusedSimpArgs false
open Go.ChangeShapes Go.WideShapes Go.ChangeAt Go.RowKit
open StockP
set_option maxRecDepth 100000
theorem cellsOfInt : Try.prog.cellsOf 3 = 1 := by kernel_rfl
theorem cellsOfStr : Try.prog.cellsOf 9 = 1 := by kernel_rfl
theorem elem_items {H : Type} {encH : TypeId × Value → H} {W : World} {bb : Nat} {spare : Nat → Bool} {held : Bool} (m : Nat) (cs : List Value) (y : DataW H × List MemPlace) (hl : cs.length = 4)
    (h : DataW.trod encH Try.prog W bb spare held m 34 cs = some y) : ∃ x : It, cs = encIt x ∧ fitIt x := by
  obtain ⟨c0, c1, c2, c3, rfl⟩ : ∃ c0 c1 c2 c3, cs = [c0, c1, c2, c3] := by
    match cs, hl with
    | [c0, c1, c2, c3], _ => exact ⟨c0, c1, c2, c3, rfl⟩
  obtain ⟨xs, m2, _, _, _, hxl, hel⟩ := DataW.trod_struct Try.underlying34 h
  have hn : xs.length = 4 := hxl
  have h0 : DataW.trod encH Try.prog W bb spare held m2 3 (([c0, c1, c2, c3].drop 0).take (Try.prog.cellsOf 3)) = xs[0]? := hel 0 _ rfl
  rw [List.getElem?_eq_getElem (by omega), cellsOfInt] at h0
  have h1 : DataW.trod encH Try.prog W bb spare held m2 3 (([c0, c1, c2, c3].drop 1).take (Try.prog.cellsOf 3)) = xs[1]? := hel 1 _ rfl
  rw [List.getElem?_eq_getElem (by omega), cellsOfInt] at h1
  have h2 : DataW.trod encH Try.prog W bb spare held m2 3 (([c0, c1, c2, c3].drop 2).take (Try.prog.cellsOf 3)) = xs[2]? := hel 2 _ rfl
  rw [List.getElem?_eq_getElem (by omega), cellsOfInt] at h2
  have h3 : DataW.trod encH Try.prog W bb spare held m2 3 (([c0, c1, c2, c3].drop 3).take (Try.prog.cellsOf 3)) = xs[3]? := hel 3 _ rfl
  rw [List.getElem?_eq_getElem (by omega), cellsOfInt] at h3
  obtain ⟨n0, e0, _, w0⟩ := DataW.trod_int Try.underlying3 h0
  simp at e0
  subst e0
  obtain ⟨n1, e1, _, w1⟩ := DataW.trod_int Try.underlying3 h1
  simp at e1
  subst e1
  obtain ⟨n2, e2, _, w2⟩ := DataW.trod_int Try.underlying3 h2
  simp at e2
  subst e2
  obtain ⟨n3, e3, _, w3⟩ := DataW.trod_int Try.underlying3 h3
  simp at e3
  subst e3
  exact ⟨⟨n0, n1, n2, n3⟩, rfl, wf64 w0, wf64 w1, wf64 w2, wf64 w3⟩
theorem cells_items : Try.prog.cellsOf 34 = 4 := by kernel_rfl
theorem open_items {H : Type} {encH : TypeId × Value → H} {W : World} {b0 bb : Nat} {spare : Nat → Bool} {held : Bool} {v : Value} {d : DataW H} {p : List MemPlace} {r : Reach}
    (hv : Value.okWide Try.prog W r b0 22 v) (h : DataW.Trod encH Try.prog W bb spare held 22 v d p) :
    ∃ a cap, ∃ xs : List It, v = .slice a xs.length cap ∧ xs.length ≤ cap ∧ cap ≤ maxLen ∧ Reads encIt 4 W a xs ∧ (∀ x, x ∈ xs → fitIt x) ∧ (a = none → cap = 0) :=
  open_rows' encIt fitIt 4 (by omega) Try.underlying22 cells_items elem_items hv h
/-- one value of it -/
theorem open_one_items {H : Type} {encH : TypeId × Value → H} {W : World} {b0 bb : Nat} {spare : Nat → Bool} {held : Bool} {v : Value} {d : DataW H} {p : List MemPlace} {r : Reach}
    (hv : Value.okWide Try.prog W r b0 34 v) (h : DataW.Trod encH Try.prog W bb spare held 34 v d p) :
    ∃ x : It, v = .agg (encIt x).toArray ∧ fitIt x := by
  have hv2 : ∃ cs : Array Value, v = .agg cs ∧ cs.size = 4 := by
    simp only [Value.okWide, Try.underlying34] at hv
    obtain ⟨cs, h1, h2, _⟩ := hv
    exact ⟨cs, h1, by rw [h2, cells_items]⟩
  obtain ⟨cs, rfl, hsz⟩ := hv2
  obtain ⟨fuel, hf⟩ := h
  obtain ⟨x, hx, hg⟩ := elem_items fuel cs.toList _ (by simpa using hsz) hf
  exact ⟨x, by rw [← hx], hg⟩
end Go.Proofs.Ytfeeohbapnolcaa
