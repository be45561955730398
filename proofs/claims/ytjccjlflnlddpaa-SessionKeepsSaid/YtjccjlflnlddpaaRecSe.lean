/- api.Session: its cells, how a slice of it reads, its box. -/
import Derived.Test.YtjccjlflnlddpaaFlat
import Derived.Test.YtjccjlflnlddpaaSessPlain
namespace Go.Proofs.Ytjccjlflnlddpaa
set_option linter.unusedVariables false
set_option linter.unusedSimpArgs false
open Go.ChangeShapes Go.WideShapes Go.ChangeAt Go.RowKit
open SessP
set_option maxRecDepth 100000
def encSe (x : Se) : List Value := [.int .i64 x.client, .int .i64 x.seq, .string x.reply]
theorem encSe_len (x : Se) : (encSe x).length = 3 := rfl
abbrev valSe (a0 : Int) (a1 : Int) (a2 : ByteArray) : Value := .agg #[.int .i64 a0, .int .i64 a1, .string a2]
def fitSe (x : Se) : Prop := (-9223372036854775808 ≤ x.client ∧ x.client ≤ 9223372036854775807) ∧ (-9223372036854775808 ≤ x.seq ∧ x.seq ≤ 9223372036854775807) ∧ x.reply.size ≤ maxLen
theorem Reads.atSe {w : World} {a : Option Addr} {xs : List Se} (h : Reads encSe 3 w a xs) (i : Nat) (hi : i < xs.length) : ∃ b off, a = some ⟨b, off, none⟩ ∧ b < w.heap.size ∧
    w.cell? ⟨b, off + i * 3, none⟩ = some (.int .i64 xs[i].client) ∧ w.cell? ⟨b, off + i * 3 + 1, none⟩ = some (.int .i64 xs[i].seq) ∧ w.cell? ⟨b, off + i * 3 + 2, none⟩ = some (.string xs[i].reply) := by
  obtain ⟨b, off, ha, hb, hc⟩ := h i hi
  exact ⟨b, off, ha, hb, by simpa [encSe] using hc 0 (by omega), by simpa [encSe] using hc 1 (by omega), by simpa [encSe] using hc 2 (by omega)⟩
/-- a box -/
structure BoxSe (W : World) (B : Nat) (a0 a1 a2 : Value) : Prop where
  size : B < W.heap.size
  x0 : W.cell? ⟨B, 0, none⟩ = some a0
  x1 : W.cell? ⟨B, 1, none⟩ = some a1
  x2 : W.cell? ⟨B, 2, none⟩ = some a2
  fz : ∀ j, W.frozen? ⟨B, j, none⟩ = false
theorem BoxSe.below {W w2 : World} {B : Nat} {a0 a1 a2 : Value} (h : BoxSe W B a0 a1 a2) (k : Below W.heap.size W w2) : BoxSe w2 B a0 a1 a2 :=
  ⟨Nat.lt_of_lt_of_le h.size k.size, (k.cell (p := ⟨B, 0, none⟩) h.size).trans h.x0, (k.cell (p := ⟨B, 1, none⟩) h.size).trans h.x1, (k.cell (p := ⟨B, 2, none⟩) h.size).trans h.x2, fun j => (k.frozen (p := ⟨B, j, none⟩) h.size).trans (h.fz j)⟩
theorem BoxSe.new (w : World) (a0 a1 a2 : Value) (T : TypeId) : BoxSe (w.alloc (.cells #[a0, a1, a2] T)) w.heap.size a0 a1 a2 := by
  have o : ∀ j, (w.alloc (.cells #[a0, a1, a2] T)).cell? ⟨w.heap.size, j, none⟩ = (#[a0, a1, a2] : Array Value)[j]? := fun j => World.cell?_alloc_new _ _ _ _
  exact ⟨by simp, (o 0).trans rfl, (o 1).trans rfl, (o 2).trans rfl, fun j => by simp⟩
theorem BoxSe.set {w : World} {B : Nat} {v0 v1 v2 : Value} (h : BoxSe w B v0 v1 v2) (a0 a1 a2 : Value) : BoxSe (((w.setCell ⟨B, 0, none⟩ a0).setCell ⟨B, 1, none⟩ a1).setCell ⟨B, 2, none⟩ a2) B a0 a1 a2 := by
  obtain ⟨hs, y0, y1, y2, fz⟩ := h
  have nn : ∀ i j : Nat, i ≠ j → (⟨B, i, none⟩ : Addr) ≠ ⟨B, j, none⟩ := fun i j h e => h (by injection e)
  refine ⟨by simpa using hs, ?_, ?_, ?_, fun j => by simpa using fz j⟩
  · rw [World.cell?_setCell_other _ _ _ _ (nn 2 0 (by omega)), World.cell?_setCell_other _ _ _ _ (nn 1 0 (by omega))]
    exact World.cell?_setCell_same _ _ _ (u := v0) (by exact y0)
  · rw [World.cell?_setCell_other _ _ _ _ (nn 2 1 (by omega))]
    exact World.cell?_setCell_same _ _ _ (u := v1) (by rw [World.cell?_setCell_other _ _ _ _ (nn 0 1 (by omega))]; exact y1)
  · exact World.cell?_setCell_same _ _ _ (u := v2) (by rw [World.cell?_setCell_other _ _ _ _ (nn 1 2 (by omega)), World.cell?_setCell_other _ _ _ _ (nn 0 2 (by omega))]; exact y2)
theorem setSe_below {B0 : Nat} {w0 w : World} {B : Nat} (h : Below B0 w0 w) (hB : B0 ≤ B) (a0 a1 a2 : Value) : Below B0 w0 (((w.setCell ⟨B, 0, none⟩ a0).setCell ⟨B, 1, none⟩ a1).setCell ⟨B, 2, none⟩ a2) := by
  exact ((h.setCell (p := ⟨B, 0, none⟩) hB _).setCell (p := ⟨B, 1, none⟩) hB _).setCell (p := ⟨B, 2, none⟩) hB _
theorem flat_setSe (xs : List Se) (k : Nat) (hk : k < xs.length) (x : Se) : (((xs.flatMap encSe).set (k * 3) (.int .i64 x.client)).set (k * 3 + 1) (.int .i64 x.seq)).set (k * 3 + 2) (.string x.reply) = (xs.set k x).flatMap encSe := by
  induction xs generalizing k with
  | nil => simp at hk
  | cons y xs ih =>
    cases k with
    | zero => simp [List.flatMap_cons, encSe]
    | succ k =>
      have e0 : (k + 1) * 3 = 3 + k * 3 := by omega
      have ih' := ih k (by simpa using hk)
      rw [e0, List.set_cons_succ, List.flatMap_cons, List.flatMap_cons, ← ih']
      rw [List.set_append_right _ _ (by simp [encSe]), List.set_append_right _ _ (by simp [encSe]; omega), List.set_append_right _ _ (by simp [encSe]; omega)]
      simp only [encSe, List.length_cons, List.length_nil]
      congr 4 <;> omega
theorem infoSe : (Try.prog.info? 24).map (fun i => (i.zero, i.size, i.bytes)) = some (some (.agg #[.int .i64 0, .int .i64 0, .string ⟨#[]⟩]), 3, 32) := by kernel_rfl
theorem encSe_sl {w : World} {base : Nat} {v : Value} {xs : List Se} (h : w.ownsRow base 24 3 v xs.length (xs.flatMap encSe)) : IsSl encSe 3 w v xs :=
  Reads.of_owns encSe_len rfl h
end Go.Proofs.Ytjccjlflnlddpaa
