/- How the arguments read. -/
import Derived.Test.YtimkioaaljdnoaaDoorOpn
import Derived.Test.YtimkioaaljdnoaaDoorAmT6
namespace Go.Proofs.YtimkioaaljdnoaaDoor
set_option linter.unusedVariables false
set_option linter.unusedSimpArgs false
open Go.ChangeShapes Go.WideShapes Go.ChangeAt Go.RowKit
set_option maxRecDepth 100000
theorem cz3 : Tryd.prog.cellsOf 3 = 1 := by kernel_rfl
theorem cz9 : Tryd.prog.cellsOf 9 = 1 := by kernel_rfl
theorem cz33 : Tryd.prog.cellsOf 33 = 1 := by kernel_rfl
theorem cz35 : Tryd.prog.cellsOf 35 = 4 := by kernel_rfl

def good_aPc (x : Pc) : Prop := (fit1) x.kind ∧ (fit1) x.n ∧ (fun s => s.size ≤ maxLen) x.s ∧ (fun l => l.length ≤ maxLen ∧ ∀ x, x ∈ l → (fit1) x) x.l
theorem opn_aPc : Opn Tryd.prog 35 aPc good_aPc := by
  intro H encH W bb spare held m cs y h
  obtain ⟨xs, m2, _, _, hl, hxl, hel⟩ := DataW.trod_struct Tryd.underlying35 h
  have hn : xs.length = 4 := hxl
  rw [cz35] at hl
  have h0 : DataW.trod encH Tryd.prog W bb spare held m2 3 ((cs.drop 0).take (Tryd.prog.cellsOf 3)) = xs[0]? := hel 0 _ rfl
  rw [List.getElem?_eq_getElem (by omega), cz3] at h0
  obtain ⟨x0, c0, g0⟩ := (opn_i64 Tryd.underlying3) encH W bb spare held _ _ _ h0
  have h1 : DataW.trod encH Tryd.prog W bb spare held m2 3 ((cs.drop 1).take (Tryd.prog.cellsOf 3)) = xs[1]? := hel 1 _ rfl
  rw [List.getElem?_eq_getElem (by omega), cz3] at h1
  obtain ⟨x1, c1, g1⟩ := (opn_i64 Tryd.underlying3) encH W bb spare held _ _ _ h1
  have h2 : DataW.trod encH Tryd.prog W bb spare held m2 9 ((cs.drop 2).take (Tryd.prog.cellsOf 9)) = xs[2]? := hel 2 _ rfl
  rw [List.getElem?_eq_getElem (by omega), cz9] at h2
  obtain ⟨x2, c2, g2⟩ := (opn_str Tryd.underlying9) encH W bb spare held _ _ _ h2
  have h3 : DataW.trod encH Tryd.prog W bb spare held m2 33 ((cs.drop 3).take (Tryd.prog.cellsOf 33)) = xs[3]? := hel 3 _ rfl
  rw [List.getElem?_eq_getElem (by omega), cz33] at h3
  obtain ⟨x3, c3, g3⟩ := (opn_slice Tryd.underlying33 cz3 (by decide) (fun _ => rfl) (opn_i64 Tryd.underlying3)) encH W bb spare held _ _ _ h3
  have d3 := CL.last c3 (by rw [hl])
  have d2 := CL.join c2 d3 rfl rfl
  have d1 := CL.join c1 d2 rfl rfl
  have d0 := CL.join c0 d1 rfl rfl
  rw [List.drop_zero] at d0
  exact ⟨⟨x0, x1, x2, x3⟩, d0, g0, g1, g2, g3⟩
end Go.Proofs.YtimkioaaljdnoaaDoor
