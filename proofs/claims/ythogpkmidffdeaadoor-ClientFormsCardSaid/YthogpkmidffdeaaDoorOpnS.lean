/- How the arguments read. -/
import Derived.Test.YthogpkmidffdeaaDoorOpn
import Derived.Test.YthogpkmidffdeaaDoorAmT39
namespace Go.Proofs.YthogpkmidffdeaaDoor
set_option linter.unusedVariables false
set_option linter.unusedSimpArgs false
open Go.ChangeShapes Go.WideShapes Go.ChangeAt Go.RowKit
set_option maxRecDepth 100000
theorem cz3 : Tryd.prog.cellsOf 3 = 1 := by kernel_rfl
theorem cz9 : Tryd.prog.cellsOf 9 = 1 := by kernel_rfl
theorem cz24 : Tryd.prog.cellsOf 24 = 6 := by kernel_rfl

def good_aCo (x : Co) : Prop := (fit1) x.client ∧ (fit1) x.seq ∧ (fun s => s.size ≤ maxLen) x.payload ∧ (fit1) x.start ∧ (fit1) x.end_ ∧ (fun s => s.size ≤ maxLen) x.reply
theorem opn_aCo : Opn Tryd.prog 24 aCo good_aCo := by
  intro H encH W bb spare held m cs y h
  obtain ⟨xs, m2, _, _, hl, hxl, hel⟩ := DataW.trod_struct Tryd.underlying24 h
  have hn : xs.length = 6 := hxl
  rw [cz24] at hl
  have h0 : DataW.trod encH Tryd.prog W bb spare held m2 3 ((cs.drop 0).take (Tryd.prog.cellsOf 3)) = xs[0]? := hel 0 _ rfl
  rw [List.getElem?_eq_getElem (by omega), cz3] at h0
  obtain ⟨x0, c0, g0⟩ := (opn_i64 Tryd.underlying3) encH W bb spare held _ _ _ h0
  have h1 : DataW.trod encH Tryd.prog W bb spare held m2 3 ((cs.drop 1).take (Tryd.prog.cellsOf 3)) = xs[1]? := hel 1 _ rfl
  rw [List.getElem?_eq_getElem (by omega), cz3] at h1
  obtain ⟨x1, c1, g1⟩ := (opn_i64 Tryd.underlying3) encH W bb spare held _ _ _ h1
  have h2 : DataW.trod encH Tryd.prog W bb spare held m2 9 ((cs.drop 2).take (Tryd.prog.cellsOf 9)) = xs[2]? := hel 2 _ rfl
  rw [List.getElem?_eq_getElem (by omega), cz9] at h2
  obtain ⟨x2, c2, g2⟩ := (opn_str Tryd.underlying9) encH W bb spare held _ _ _ h2
  have h3 : DataW.trod encH Tryd.prog W bb spare held m2 3 ((cs.drop 3).take (Tryd.prog.cellsOf 3)) = xs[3]? := hel 3 _ rfl
  rw [List.getElem?_eq_getElem (by omega), cz3] at h3
  obtain ⟨x3, c3, g3⟩ := (opn_i64 Tryd.underlying3) encH W bb spare held _ _ _ h3
  have h4 : DataW.trod encH Tryd.prog W bb spare held m2 3 ((cs.drop 4).take (Tryd.prog.cellsOf 3)) = xs[4]? := hel 4 _ rfl
  rw [List.getElem?_eq_getElem (by omega), cz3] at h4
  obtain ⟨x4, c4, g4⟩ := (opn_i64 Tryd.underlying3) encH W bb spare held _ _ _ h4
  have h5 : DataW.trod encH Tryd.prog W bb spare held m2 9 ((cs.drop 5).take (Tryd.prog.cellsOf 9)) = xs[5]? := hel 5 _ rfl
  rw [List.getElem?_eq_getElem (by omega), cz9] at h5
  obtain ⟨x5, c5, g5⟩ := (opn_str Tryd.underlying9) encH W bb spare held _ _ _ h5
  have d5 := CL.last c5 (by rw [hl])
  have d4 := CL.join c4 d5 rfl rfl
  have d3 := CL.join c3 d4 rfl rfl
  have d2 := CL.join c2 d3 rfl rfl
  have d1 := CL.join c1 d2 rfl rfl
  have d0 := CL.join c0 d1 rfl rfl
  rw [List.drop_zero] at d0
  exact ⟨⟨x0, x1, x2, x3, x4, x5⟩, d0, g0, g1, g2, g3, g4, g5⟩
end Go.Proofs.YthogpkmidffdeaaDoor
