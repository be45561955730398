/- How the arguments read. -/
import Derived.Test.YtfjmmebjfllciaaDoorOpn
import Derived.Test.YtfjmmebjfllciaaDoorDiskLaw2
namespace Go.Proofs.YtfjmmebjfllciaaDoor
set_option linter.unusedVariables false
set_option linter.unusedSimpArgs false
open Go.ChangeShapes Go.WideShapes Go.ChangeAt Go.RowKit
set_option maxRecDepth 100000
theorem cz3 : Tryd.prog.cellsOf 3 = 1 := by kernel_rfl
theorem cz4 : Tryd.prog.cellsOf 4 = 1 := by kernel_rfl
theorem cz9 : Tryd.prog.cellsOf 9 = 1 := by kernel_rfl
theorem cz23 : Tryd.prog.cellsOf 23 = 3 := by kernel_rfl
theorem cz50 : Tryd.prog.cellsOf 50 = 9 := by kernel_rfl

def good_aCh (x : Ch) : Prop := (fit1) x.keep ∧ (fun s => s.size ≤ maxLen) x.trash ∧ (fun _ => True) x.reset
theorem opn_aCh : Opn Tryd.prog 23 aCh good_aCh := by
  intro H encH W bb spare held m cs y h
  obtain ⟨xs, m2, _, _, hl, hxl, hel⟩ := DataW.trod_struct Tryd.underlying23 h
  have hn : xs.length = 3 := hxl
  rw [cz23] at hl
  have h0 : DataW.trod encH Tryd.prog W bb spare held m2 3 ((cs.drop 0).take (Tryd.prog.cellsOf 3)) = xs[0]? := hel 0 _ rfl
  rw [List.getElem?_eq_getElem (by omega), cz3] at h0
  obtain ⟨x0, c0, g0⟩ := (opn_i64 Tryd.underlying3) encH W bb spare held _ _ _ h0
  have h1 : DataW.trod encH Tryd.prog W bb spare held m2 9 ((cs.drop 1).take (Tryd.prog.cellsOf 9)) = xs[1]? := hel 1 _ rfl
  rw [List.getElem?_eq_getElem (by omega), cz9] at h1
  obtain ⟨x1, c1, g1⟩ := (opn_str Tryd.underlying9) encH W bb spare held _ _ _ h1
  have h2 : DataW.trod encH Tryd.prog W bb spare held m2 4 ((cs.drop 2).take (Tryd.prog.cellsOf 4)) = xs[2]? := hel 2 _ rfl
  rw [List.getElem?_eq_getElem (by omega), cz4] at h2
  obtain ⟨x2, c2, g2⟩ := (opn_bool Tryd.underlying4) encH W bb spare held _ _ _ h2
  have d2 := CL.last c2 (by rw [hl])
  have d1 := CL.join c1 d2 rfl rfl
  have d0 := CL.join c0 d1 rfl rfl
  rw [List.drop_zero] at d0
  exact ⟨⟨x0, x1, x2⟩, d0, g0, g1, g2⟩

def good_aAct (x : ActP) : Prop := (fit1) x.kind ∧ (fit1) x.n ∧ (fun s => s.size ≤ maxLen) x.text ∧ (good_aCh) x.a ∧ (good_aCh) x.b
theorem opn_aAct : Opn Tryd.prog 50 aAct good_aAct := by
  intro H encH W bb spare held m cs y h
  obtain ⟨xs, m2, _, _, hl, hxl, hel⟩ := DataW.trod_struct Tryd.underlying50 h
  have hn : xs.length = 5 := hxl
  rw [cz50] at hl
  have h0 : DataW.trod encH Tryd.prog W bb spare held m2 3 ((cs.drop 0).take (Tryd.prog.cellsOf 3)) = xs[0]? := hel 0 _ rfl
  rw [List.getElem?_eq_getElem (by omega), cz3] at h0
  obtain ⟨x0, c0, g0⟩ := (opn_i64 Tryd.underlying3) encH W bb spare held _ _ _ h0
  have h1 : DataW.trod encH Tryd.prog W bb spare held m2 3 ((cs.drop 1).take (Tryd.prog.cellsOf 3)) = xs[1]? := hel 1 _ rfl
  rw [List.getElem?_eq_getElem (by omega), cz3] at h1
  obtain ⟨x1, c1, g1⟩ := (opn_i64 Tryd.underlying3) encH W bb spare held _ _ _ h1
  have h2 : DataW.trod encH Tryd.prog W bb spare held m2 9 ((cs.drop 2).take (Tryd.prog.cellsOf 9)) = xs[2]? := hel 2 _ rfl
  rw [List.getElem?_eq_getElem (by omega), cz9] at h2
  obtain ⟨x2, c2, g2⟩ := (opn_str Tryd.underlying9) encH W bb spare held _ _ _ h2
  have h3 : DataW.trod encH Tryd.prog W bb spare held m2 23 ((cs.drop 3).take (Tryd.prog.cellsOf 23)) = xs[3]? := hel 3 _ rfl
  rw [List.getElem?_eq_getElem (by omega), cz23] at h3
  obtain ⟨x3, c3, g3⟩ := opn_aCh encH W bb spare held _ _ _ h3
  have h4 : DataW.trod encH Tryd.prog W bb spare held m2 23 ((cs.drop 6).take (Tryd.prog.cellsOf 23)) = xs[4]? := hel 4 _ rfl
  rw [List.getElem?_eq_getElem (by omega), cz23] at h4
  obtain ⟨x4, c4, g4⟩ := opn_aCh encH W bb spare held _ _ _ h4
  have d4 := CL.last c4 (by rw [hl])
  have d3 := CL.join c3 d4 rfl rfl
  have d2 := CL.join c2 d3 rfl rfl
  have d1 := CL.join c1 d2 rfl rfl
  have d0 := CL.join c0 d1 rfl rfl
  rw [List.drop_zero] at d0
  exact ⟨⟨x0, x1, x2, x3, x4⟩, d0, g0, g1, g2, g3, g4⟩
end Go.Proofs.YtfjmmebjfllciaaDoor
