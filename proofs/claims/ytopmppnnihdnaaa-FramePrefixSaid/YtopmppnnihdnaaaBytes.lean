/- Texts made out of bytes. -/
import Derived.Test.YtopmppnnihdnaaaBase
namespace Go.Proofs.Ytopmppnnihdnaaa
set_option linter.unusedVariables false
set_option linter.unusedSimpArgs false
open Go.ChangeShapes Go.WideShapes Go.ChangeAt Go.RowKit
/-! a text out of bytes -/
theorem conv1 (w : World) (a : Int) : (convert 47 9 (.slice (some ⟨w.heap.size, 0, none⟩) 1 1)).run Try.prog
    (w.alloc (.cells #[.int .u8 a] 5)) = .ok (.string (bs [UInt8.ofNat a.toNat])) (w.alloc (.cells #[.int .u8 a] 5)) := by
  refine run_convert_bytes_arg _ 47 5 Try.underlying47 Try.underlying5 _ 0 1 1 [a] rfl ?_ _ Try.underlying9
  intro i hi
  match i, hi with
  | 0, _ => simp
/-- a row of bytes, read as a text -/
theorem row_text (wr : World) (B n c : Nat) (l : List UInt8) (hl : l.length = n) (h : ∀ j, j < n → wr.cell? ⟨B, j, none⟩ = some (.int .u8 ((l.getD j 0).toNat : Int))) :
    (convert 47 9 (.slice (some ⟨B, 0, none⟩) n c)).run Try.prog wr = .ok (.string (bs l)) wr := by
  rw [run_convert_bytes_arg wr 47 5 Try.underlying47 Try.underlying5 B 0 n c (l.map fun b => (b.toNat : Int)) (by rw [List.length_map]; exact hl) ?_ _ Try.underlying9]
  · congr 2
    unfold strOfNums bs
    rw [List.map_map]
    congr 2
    conv => rhs; rw [← List.map_id l]
    apply List.map_congr_left
    intro b _
    simp
  · intro i hi
    rw [Nat.zero_add, h i hi]
    simp [List.getD, hl, hi]
end Go.Proofs.Ytopmppnnihdnaaa
