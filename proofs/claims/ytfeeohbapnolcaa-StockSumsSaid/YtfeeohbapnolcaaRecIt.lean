/- api.Item: its cells, how a slice of it reads, its box. -/
import Derived.Test.YtfeeohbapnolcaaFlat
import Derived.Test.YtfeeohbapnolcaaStockPlain
namespace Go.Proofs.Ytfeeohbapnolcaa
set_option linter.unusedVariables false
set_option linter.unusedSimpArgs false
open Go.ChangeShapes Go.WideShapes Go.ChangeAt Go.RowKit
open StockP
set_option maxRecDepth 100000
def encIt (x : It) : List Value := [.int .i64 x.id, .int .i64 x.free, .int .i64 x.held, .int .i64 x.gone]
theorem encIt_len (x : It) : (encIt x).length = 4 := rfl
abbrev valIt (a0 : Int) (a1 : Int) (a2 : Int) (a3 : Int) : Value := .agg #[.int .i64 a0, .int .i64 a1, .int .i64 a2, .int .i64 a3]
def fitIt (x : It) : Prop := (-9223372036854775808 ≤ x.id ∧ x.id ≤ 9223372036854775807) ∧ (-9223372036854775808 ≤ x.free ∧ x.free ≤ 9223372036854775807) ∧ (-9223372036854775808 ≤ x.held ∧ x.held ≤ 9223372036854775807) ∧ (-9223372036854775808 ≤ x.gone ∧ x.gone ≤ 9223372036854775807)
theorem Reads.atIt {w : World} {a : Option Addr} {xs : List It} (h : Reads encIt 4 w a xs) (i : Nat) (hi : i < xs.length) : ∃ b off, a = some ⟨b, off, none⟩ ∧ b < w.heap.size ∧
    w.cell? ⟨b, off + i * 4, none⟩ = some (.int .i64 xs[i].id) ∧ w.cell? ⟨b, off + i * 4 + 1, none⟩ = some (.int .i64 xs[i].free) ∧ w.cell? ⟨b, off + i * 4 + 2, none⟩ = some (.int .i64 xs[i].held) ∧ w.cell? ⟨b, off + i * 4 + 3, none⟩ = some (.int .i64 xs[i].gone) := by
  obtain ⟨b, off, ha, hb, hc⟩ := h i hi
  exact ⟨b, off, ha, hb, by simpa [encIt] using hc 0 (by omega), by simpa [encIt] using hc 1 (by omega), by simpa [encIt] using hc 2 (by omega), by simpa [encIt] using hc 3 (by omega)⟩
/-- a box -/
structure BoxIt (W : World) (B : Nat) (a0 a1 a2 a3 : Value) : Prop where
  size : B < W.heap.size
  x0 : W.cell? ⟨B, 0, none⟩ = some a0
  x1 : W.cell? ⟨B, 1, none⟩ = some a1
  x2 : W.cell? ⟨B, 2, none⟩ = some a2
  x3 : W.cell? ⟨B, 3, none⟩ = some a3
  fz : ∀ j, W.frozen? ⟨B, j, none⟩ = false
theorem BoxIt.below {W w2 : World} {B : Nat} {a0 a1 a2 a3 : Value} (h : BoxIt W B a0 a1 a2 a3) (k : Below W.heap.size W w2) : BoxIt w2 B a0 a1 a2 a3 :=
  ⟨Nat.lt_of_lt_of_le h.size k.size, (k.cell (p := ⟨B, 0, none⟩) h.size).trans h.x0, (k.cell (p := ⟨B, 1, none⟩) h.size).trans h.x1, (k.cell (p := ⟨B, 2, none⟩) h.size).trans h.x2, (k.cell (p := ⟨B, 3, none⟩) h.size).trans h.x3, fun j => (k.frozen (p := ⟨B, j, none⟩) h.size).trans (h.fz j)⟩
theorem BoxIt.new (w : World) (a0 a1 a2 a3 : Value) (T : TypeId) : BoxIt (w.alloc (.cells #[a0, a1, a2, a3] T)) w.heap.size a0 a1 a2 a3 := by
  have o : ∀ j, (w.alloc (.cells #[a0, a1, a2, a3] T)).cell? ⟨w.heap.size, j, none⟩ = (#[a0, a1, a2, a3] : Array Value)[j]? := fun j => World.cell?_alloc_new _ _ _ _
  exact ⟨by simp, (o 0).trans rfl, (o 1).trans rfl, (o 2).trans rfl, (o 3).trans rfl, fun j => by simp⟩
theorem BoxIt.set {w : World} {B : Nat} {v0 v1 v2 v3 : Value} (h : BoxIt w B v0 v1 v2 v3) (a0 a1 a2 a3 : Value) : BoxIt ((((w.setCell ⟨B, 0, none⟩ a0).setCell ⟨B, 1, none⟩ a1).setCell ⟨B, 2, none⟩ a2).setCell ⟨B, 3, none⟩ a3) B a0 a1 a2 a3 := by
  obtain ⟨hs, y0, y1, y2, y3, fz⟩ := h
  have nn : ∀ i j : Nat, i ≠ j → (⟨B, i, none⟩ : Addr) ≠ ⟨B, j, none⟩ := fun i j h e => h (by injection e)
  refine ⟨by simpa using hs, ?_, ?_, ?_, ?_, fun j => by simpa using fz j⟩
  · rw [World.cell?_setCell_other _ _ _ _ (nn 3 0 (by omega)), World.cell?_setCell_other _ _ _ _ (nn 2 0 (by omega)), World.cell?_setCell_other _ _ _ _ (nn 1 0 (by omega))]
    exact World.cell?_setCell_same _ _ _ (u := v0) (by exact y0)
  · rw [World.cell?_setCell_other _ _ _ _ (nn 3 1 (by omega)), World.cell?_setCell_other _ _ _ _ (nn 2 1 (by omega))]
    exact World.cell?_setCell_same _ _ _ (u := v1) (by rw [World.cell?_setCell_other _ _ _ _ (nn 0 1 (by omega))]; exact y1)
  · rw [World.cell?_setCell_other _ _ _ _ (nn 3 2 (by omega))]
    exact World.cell?_setCell_same _ _ _ (u := v2) (by rw [World.cell?_setCell_other _ _ _ _ (nn 1 2 (by omega)), World.cell?_setCell_other _ _ _ _ (nn 0 2 (by omega))]; exact y2)
  · exact World.cell?_setCell_same _ _ _ (u := v3) (by rw [World.cell?_setCell_other _ _ _ _ (nn 2 3 (by omega)), World.cell?_setCell_other _ _ _ _ (nn 1 3 (by omega)), World.cell?_setCell_other _ _ _ _ (nn 0 3 (by omega))]; exact y3)
theorem setIt_below {B0 : Nat} {w0 w : World} {B : Nat} (h : Below B0 w0 w) (hB : B0 ≤ B) (a0 a1 a2 a3 : Value) : Below B0 w0 ((((w.setCell ⟨B, 0, none⟩ a0).setCell ⟨B, 1, none⟩ a1).setCell ⟨B, 2, none⟩ a2).setCell ⟨B, 3, none⟩ a3) := by
  exact (((h.setCell (p := ⟨B, 0, none⟩) hB _).setCell (p := ⟨B, 1, none⟩) hB _).setCell (p := ⟨B, 2, none⟩) hB _).setCell (p := ⟨B, 3, none⟩) hB _
theorem flat_setIt (xs : List It) (k : Nat) (hk : k < xs.length) (x : It) : ((((xs.flatMap encIt).set (k * 4) (.int .i64 x.id)).set (k * 4 + 1) (.int .i64 x.free)).set (k * 4 + 2) (.int .i64 x.held)).set (k * 4 + 3) (.int .i64 x.gone) = (xs.set k x).flatMap encIt := by
  induction xs generalizing k with
  | nil => simp at hk
  | cons y xs ih =>
    cases k with
    | zero => simp [List.flatMap_cons, encIt]
    | succ k =>
      have e0 : (k + 1) * 4 = 4 + k * 4 := by omega
      have ih' := ih k (by simpa using hk)
      rw [e0, List.set_cons_succ, List.flatMap_cons, List.flatMap_cons, ← ih']
      rw [List.set_append_right _ _ (by simp [encIt]), List.set_append_right _ _ (by simp [encIt]; omega), List.set_append_right _ _ (by simp [encIt]; omega), List.set_append_right _ _ (by simp [encIt]; omega)]
      simp only [encIt, List.length_cons, List.length_nil]
      congr 5 <;> omega
theorem infoIt : (Try.prog.info? 34).map (fun i => (i.zero, i.size, i.bytes)) = some (some (.agg #[.int .i64 0, .int .i64 0, .int .i64 0, .int .i64 0]), 4, 32) := by kernel_rfl
theorem encIt_sl {w : World} {base : Nat} {v : Value} {xs : List It} (h : w.ownsRow base 34 4 v xs.length (xs.flatMap encIt)) : IsSl encIt 4 w v xs :=
  Reads.of_owns encIt_len rfl h
end Go.Proofs.Ytfeeohbapnolcaa
