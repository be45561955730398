/- How []api.Session reads. -/
import Derived.Test.YtjccjlflnlddpaaRecSe
import Derived.Test.YtjccjlflnlddpaaOpen
namespace Go.Proofs.Ytjccjlflnlddpaa
set_option linter.unusedVariables false
set_option linter.unusedSimpArgs false
open Go.ChangeShapes Go.WideShapes Go.ChangeAt Go.RowKit
open SessP
set_option maxRecDepth 100000
theorem cellsOfInt : Try.prog.cellsOf 3 = 1 := by kernel_rfl
theorem cellsOfStr : Try.prog.cellsOf 9 = 1 := by kernel_rfl
theorem elem_sess {H : Type} {encH : TypeId × Value → H} {W : World} {bb : Nat} {spare : Nat → Bool} {held : Bool} (m : Nat) (cs : List Value) (y : DataW H × List MemPlace) (hl : cs.length = 3)
    (h : DataW.trod encH Try.prog W bb spare held m 24 cs = some y) : ∃ x : Se, cs = encSe x ∧ fitSe x := by
  obtain ⟨c0, c1, c2, rfl⟩ : ∃ c0 c1 c2, cs = [c0, c1, c2] := by
    match cs, hl with
    | [c0, c1, c2], _ => exact ⟨c0, c1, c2, rfl⟩
  obtain ⟨xs, m2, _, _, _, hxl, hel⟩ := DataW.trod_struct Try.underlying24 h
  have hn : xs.length = 3 := hxl
  have h0 : DataW.trod encH Try.prog W bb spare held m2 3 (([c0, c1, c2].drop 0).take (Try.prog.cellsOf 3)) = xs[0]? := hel 0 _ rfl
  rw [List.getElem?_eq_getElem (by omega), cellsOfInt] at h0
  have h1 : DataW.trod encH Try.prog W bb spare held m2 3 (([c0, c1, c2].drop 1).take (Try.prog.cellsOf 3)) = xs[1]? := hel 1 _ rfl
  rw [List.getElem?_eq_getElem (by omega), cellsOfInt] at h1
  have h2 : DataW.trod encH Try.prog W bb spare held m2 9 (([c0, c1, c2].drop 2).take (Try.prog.cellsOf 9)) = xs[2]? := hel 2 _ rfl
  rw [List.getElem?_eq_getElem (by omega), cellsOfStr] at h2
  obtain ⟨n0, e0, _, w0⟩ := DataW.trod_int Try.underlying3 h0
  simp at e0
  subst e0
  obtain ⟨n1, e1, _, w1⟩ := DataW.trod_int Try.underlying3 h1
  simp at e1
  subst e1
  obtain ⟨n2, e2, _, w2⟩ := DataW.trod_string Try.underlying9 h2
  simp at e2
  subst e2
  exact ⟨⟨n0, n1, n2⟩, rfl, wf64 w0, wf64 w1, w2⟩
theorem cells_sess : Try.prog.cellsOf 24 = 3 := by kernel_rfl
theorem open_sess {H : Type} {encH : TypeId × Value → H} {W : World} {b0 bb : Nat} {spare : Nat → Bool} {held : Bool} {v : Value} {d : DataW H} {p : List MemPlace} {r : Reach}
    (hv : Value.okWide Try.prog W r b0 22 v) (h : DataW.Trod encH Try.prog W bb spare held 22 v d p) :
    ∃ a cap, ∃ xs : List Se, v = .slice a xs.length cap ∧ xs.length ≤ cap ∧ cap ≤ maxLen ∧ Reads encSe 3 W a xs ∧ (∀ x, x ∈ xs → fitSe x) ∧ (a = none → cap = 0) :=
  open_rows' encSe fitSe 3 (by omega) Try.underlying22 cells_sess elem_sess hv h
/-- one value of it -/
theorem open_one_sess {H : Type} {encH : TypeId × Value → H} {W : World} {b0 bb : Nat} {spare : Nat → Bool} {held : Bool} {v : Value} {d : DataW H} {p : List MemPlace} {r : Reach}
    (hv : Value.okWide Try.prog W r b0 24 v) (h : DataW.Trod encH Try.prog W bb spare held 24 v d p) :
    ∃ x : Se, v = .agg (encSe x).toArray ∧ fitSe x := by
  have hv2 : ∃ cs : Array Value, v = .agg cs ∧ cs.size = 3 := by
    simp only [Value.okWide, Try.underlying24] at hv
    obtain ⟨cs, h1, h2, _⟩ := hv
    exact ⟨cs, h1, by rw [h2, cells_sess]⟩
  obtain ⟨cs, rfl, hsz⟩ := hv2
  obtain ⟨fuel, hf⟩ := h
  obtain ⟨x, hx, hg⟩ := elem_sess fuel cs.toList _ (by simpa using hsz) hf
  exact ⟨x, by rw [← hx], hg⟩
end Go.Proofs.Ytjccjlflnlddpaa
