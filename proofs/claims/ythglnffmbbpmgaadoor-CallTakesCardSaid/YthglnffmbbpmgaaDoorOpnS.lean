/- How the arguments read. -/
import Derived.Test.YthglnffmbbpmgaaDoorOpn
import Derived.Test.YthglnffmbbpmgaaDoorAmT10
namespace Go.Proofs.YthglnffmbbpmgaaDoor
set_option linter.unusedVariables false
set_option linter.unusedSimpArgs false
open Go.ChangeShapes Go.WideShapes Go.ChangeAt Go.RowKit
set_option maxRecDepth 100000
theorem cz3 : Tryd.prog.cellsOf 3 = 1 := by kernel_rfl
theorem cz22 : Tryd.prog.cellsOf 22 = 1 := by kernel_rfl
theorem cz23 : Tryd.prog.cellsOf 23 = 1 := by kernel_rfl
theorem cz25 : Tryd.prog.cellsOf 25 = 2 := by kernel_rfl
theorem cz38 : Tryd.prog.cellsOf 38 = 1 := by kernel_rfl
theorem cz40 : Tryd.prog.cellsOf 40 = 7 := by kernel_rfl
theorem cz79 : Tryd.prog.cellsOf 79 = 2 := by kernel_rfl

def good_aRp (x : Rp) : Prop := (fit1) x.code ∧ (fun l => l.length ≤ maxLen ∧ ∀ x, x ∈ l → (fit1) x) x.nums
theorem opn_aRp : Opn Tryd.prog 25 aRp good_aRp := by
  intro H encH W bb spare held m cs y h
  obtain ⟨xs, m2, _, _, hl, hxl, hel⟩ := DataW.trod_struct Tryd.underlying25 h
  have hn : xs.length = 2 := hxl
  rw [cz25] at hl
  have h0 : DataW.trod encH Tryd.prog W bb spare held m2 22 ((cs.drop 0).take (Tryd.prog.cellsOf 22)) = xs[0]? := hel 0 _ rfl
  rw [List.getElem?_eq_getElem (by omega), cz22] at h0
  obtain ⟨x0, c0, g0⟩ := (opn_i64 Tryd.underlying22) encH W bb spare held _ _ _ h0
  have h1 : DataW.trod encH Tryd.prog W bb spare held m2 23 ((cs.drop 1).take (Tryd.prog.cellsOf 23)) = xs[1]? := hel 1 _ rfl
  rw [List.getElem?_eq_getElem (by omega), cz23] at h1
  obtain ⟨x1, c1, g1⟩ := (opn_slice Tryd.underlying23 cz3 (by decide) (fun _ => rfl) (opn_i64 Tryd.underlying3)) encH W bb spare held _ _ _ h1
  have d1 := CL.last c1 (by rw [hl])
  have d0 := CL.join c0 d1 rfl rfl
  rw [List.drop_zero] at d0
  exact ⟨⟨x0, x1⟩, d0, g0, g1⟩

def good_aLn (x : Ln) : Prop := (fit1) x.item ∧ (fit1) x.qty
theorem opn_aLn : Opn Tryd.prog 79 aLn good_aLn := by
  intro H encH W bb spare held m cs y h
  obtain ⟨xs, m2, _, _, hl, hxl, hel⟩ := DataW.trod_struct Tryd.underlying79 h
  have hn : xs.length = 2 := hxl
  rw [cz79] at hl
  have h0 : DataW.trod encH Tryd.prog W bb spare held m2 3 ((cs.drop 0).take (Tryd.prog.cellsOf 3)) = xs[0]? := hel 0 _ rfl
  rw [List.getElem?_eq_getElem (by omega), cz3] at h0
  obtain ⟨x0, c0, g0⟩ := (opn_i64 Tryd.underlying3) encH W bb spare held _ _ _ h0
  have h1 : DataW.trod encH Tryd.prog W bb spare held m2 3 ((cs.drop 1).take (Tryd.prog.cellsOf 3)) = xs[1]? := hel 1 _ rfl
  rw [List.getElem?_eq_getElem (by omega), cz3] at h1
  obtain ⟨x1, c1, g1⟩ := (opn_i64 Tryd.underlying3) encH W bb spare held _ _ _ h1
  have d1 := CL.last c1 (by rw [hl])
  have d0 := CL.join c0 d1 rfl rfl
  rw [List.drop_zero] at d0
  exact ⟨⟨x0, x1⟩, d0, g0, g1⟩

def good_aCl (x : Cl) : Prop := (fit1) x.client ∧ (fit1) x.seq ∧ (fit1) x.kind ∧ (fit1) x.item ∧ (fit1) x.to_ ∧ (fit1) x.qty ∧ (fun l => l.length ≤ maxLen ∧ ∀ x, x ∈ l → (good_aLn) x) x.lines
theorem opn_aCl : Opn Tryd.prog 40 aCl good_aCl := by
  intro H encH W bb spare held m cs y h
  obtain ⟨xs, m2, _, _, hl, hxl, hel⟩ := DataW.trod_struct Tryd.underlying40 h
  have hn : xs.length = 7 := hxl
  rw [cz40] at hl
  have h0 : DataW.trod encH Tryd.prog W bb spare held m2 3 ((cs.drop 0).take (Tryd.prog.cellsOf 3)) = xs[0]? := hel 0 _ rfl
  rw [List.getElem?_eq_getElem (by omega), cz3] at h0
  obtain ⟨x0, c0, g0⟩ := (opn_i64 Tryd.underlying3) encH W bb spare held _ _ _ h0
  have h1 : DataW.trod encH Tryd.prog W bb spare held m2 3 ((cs.drop 1).take (Tryd.prog.cellsOf 3)) = xs[1]? := hel 1 _ rfl
  rw [List.getElem?_eq_getElem (by omega), cz3] at h1
  obtain ⟨x1, c1, g1⟩ := (opn_i64 Tryd.underlying3) encH W bb spare held _ _ _ h1
  have h2 : DataW.trod encH Tryd.prog W bb spare held m2 3 ((cs.drop 2).take (Tryd.prog.cellsOf 3)) = xs[2]? := hel 2 _ rfl
  rw [List.getElem?_eq_getElem (by omega), cz3] at h2
  obtain ⟨x2, c2, g2⟩ := (opn_i64 Tryd.underlying3) encH W bb spare held _ _ _ h2
  have h3 : DataW.trod encH Tryd.prog W bb spare held m2 3 ((cs.drop 3).take (Tryd.prog.cellsOf 3)) = xs[3]? := hel 3 _ rfl
  rw [List.getElem?_eq_getElem (by omega), cz3] at h3
  obtain ⟨x3, c3, g3⟩ := (opn_i64 Tryd.underlying3) encH W bb spare held _ _ _ h3
  have h4 : DataW.trod encH Tryd.prog W bb spare held m2 3 ((cs.drop 4).take (Tryd.prog.cellsOf 3)) = xs[4]? := hel 4 _ rfl
  rw [List.getElem?_eq_getElem (by omega), cz3] at h4
  obtain ⟨x4, c4, g4⟩ := (opn_i64 Tryd.underlying3) encH W bb spare held _ _ _ h4
  have h5 : DataW.trod encH Tryd.prog W bb spare held m2 3 ((cs.drop 5).take (Tryd.prog.cellsOf 3)) = xs[5]? := hel 5 _ rfl
  rw [List.getElem?_eq_getElem (by omega), cz3] at h5
  obtain ⟨x5, c5, g5⟩ := (opn_i64 Tryd.underlying3) encH W bb spare held _ _ _ h5
  have h6 : DataW.trod encH Tryd.prog W bb spare held m2 38 ((cs.drop 6).take (Tryd.prog.cellsOf 38)) = xs[6]? := hel 6 _ rfl
  rw [List.getElem?_eq_getElem (by omega), cz38] at h6
  obtain ⟨x6, c6, g6⟩ := (opn_slice Tryd.underlying38 cz79 (by decide) (fun _ => rfl) opn_aLn) encH W bb spare held _ _ _ h6
  have d6 := CL.last c6 (by rw [hl])
  have d5 := CL.join c5 d6 rfl rfl
  have d4 := CL.join c4 d5 rfl rfl
  have d3 := CL.join c3 d4 rfl rfl
  have d2 := CL.join c2 d3 rfl rfl
  have d1 := CL.join c1 d2 rfl rfl
  have d0 := CL.join c0 d1 rfl rfl
  rw [List.drop_zero] at d0
  exact ⟨⟨x0, x1, x2, x3, x4, x5, x6⟩, d0, g0, g1, g2, g3, g4, g5, g6⟩
end Go.Proofs.YthglnffmbbpmgaaDoor
