/- The stock: the contracts of at, Find. -/
import Derived.Test.YtfnmaemeofkagaaStockWalk
namespace Go.Proofs.Ytfnmaemeofkagaa
open Go.ChangeShapes Go.WideShapes Go.ChangeAt Go.RowKit
open StockP
set_option maxRecDepth 100000
theorem at_any (a : Option Addr) (cap : Nat) (xs : List It) (id : Int) (w : World) (hr : Reads encT 4 w a xs) (hl : xs.length ≤ maxLen) :
    Calls Try.prog 41 #[.slice a xs.length cap, .int .i64 id] w fun e w' => e = .returned (.int .i64 (idx (fun x => x.id == id) xs)) ∧ Below w.heap.size w w' := by
  have HR := Lib.hid hr
  clear hr
  have hb : Below w.heap.size w (w.alloc (.cells #[.int .i64 id] 3)) := (Below.refl _ _).alloc (Nat.le_refl _) _
  have HR2 := Lib.hid (HR.out.below hb)
  go_enter Try.func41, Try.ntmps41
  go_wp2_with fail
  refine (indexAt_any _ _ xs id ⟨w.heap.size, 0, none⟩ _ HR2.out hl (by simp)).mono ?_
  rintro e w1 ⟨rfl, hb2⟩
  replace hb := bt hb hb2
  clear hb2
  go_wp2_with fail
  go_ret
  exact ⟨rfl, hb⟩
/-- four cells, stored one behind the other -/
theorem four_cells {w : World} {B : Nat} {v0 v1 v2 v3 : Value} (y0 : w.cell? ⟨B, 0, none⟩ = some v0) (y1 : w.cell? ⟨B, 1, none⟩ = some v1) (y2 : w.cell? ⟨B, 2, none⟩ = some v2) (y3 : w.cell? ⟨B, 3, none⟩ = some v3) (a b c d : Value) :
    ((((w.setCell ⟨B, 0, none⟩ a).setCell ⟨B, 1, none⟩ b).setCell ⟨B, 2, none⟩ c).setCell ⟨B, 3, none⟩ d).cell? ⟨B, 0, none⟩ = some a ∧
    ((((w.setCell ⟨B, 0, none⟩ a).setCell ⟨B, 1, none⟩ b).setCell ⟨B, 2, none⟩ c).setCell ⟨B, 3, none⟩ d).cell? ⟨B, 1, none⟩ = some b ∧
    ((((w.setCell ⟨B, 0, none⟩ a).setCell ⟨B, 1, none⟩ b).setCell ⟨B, 2, none⟩ c).setCell ⟨B, 3, none⟩ d).cell? ⟨B, 2, none⟩ = some c ∧
    ((((w.setCell ⟨B, 0, none⟩ a).setCell ⟨B, 1, none⟩ b).setCell ⟨B, 2, none⟩ c).setCell ⟨B, 3, none⟩ d).cell? ⟨B, 3, none⟩ = some d := by
  have n : ∀ i j : Nat, i ≠ j → (⟨B, i, none⟩ : Addr) ≠ ⟨B, j, none⟩ := fun i j h e => h (by injection e)
  refine ⟨?_, ?_, ?_, ?_⟩
  · rw [World.cell?_setCell_other _ _ _ _ (n 3 0 (by omega)), World.cell?_setCell_other _ _ _ _ (n 2 0 (by omega)), World.cell?_setCell_other _ _ _ _ (n 1 0 (by omega)), World.cell?_setCell_same _ _ _ y0]
  · rw [World.cell?_setCell_other _ _ _ _ (n 3 1 (by omega)), World.cell?_setCell_other _ _ _ _ (n 2 1 (by omega))]
    exact World.cell?_setCell_same _ _ _ (u := v1) (by rw [World.cell?_setCell_other _ _ _ _ (n 0 1 (by omega))]; exact y1)
  · rw [World.cell?_setCell_other _ _ _ _ (n 3 2 (by omega))]
    exact World.cell?_setCell_same _ _ _ (u := v2) (by rw [World.cell?_setCell_other _ _ _ _ (n 1 2 (by omega)), World.cell?_setCell_other _ _ _ _ (n 0 2 (by omega))]; exact y2)
  · exact World.cell?_setCell_same _ _ _ (u := v3) (by rw [World.cell?_setCell_other _ _ _ _ (n 2 3 (by omega)), World.cell?_setCell_other _ _ _ _ (n 1 3 (by omega)), World.cell?_setCell_other _ _ _ _ (n 0 3 (by omega))]; exact y3)
set_option maxHeartbeats 1000000 in
theorem find_any (a : Option Addr) (cap : Nat) (xs : List It) (id : Int) (w : World) (hr : Reads encT 4 w a xs) (hl : xs.length ≤ maxLen) :
    Calls Try.prog 29 #[.slice a xs.length cap, .int .i64 id] w fun e w' => e = .returned (.tuple #[itv (findT xs id).1.id (findT xs id).1.free (findT xs id).1.held (findT xs id).1.gone, .bool (findT xs id).2]) ∧ Below w.heap.size w w' := by
  have HR := Lib.hid hr
  clear hr
  by_cases hp : place (fun x => x.id == id) xs < xs.length
  · have hi : idx (fun x => x.id == id) xs = (place (fun x => x.id == id) xs : Int) := by unfold idx; rw [if_pos hp]
    have hf : findT xs id = (xs[place (fun x => x.id == id) xs], true) := by unfold findT; rw [find_place, dif_pos hp]
    rw [hf]
    have A := Lib.hid (fun (w : World) h => at_any a cap xs id w h hl)
    rw [hi] at A
    generalize place (fun x => x.id == id) xs = k at *
    unfold maxLen at hl
    have hk : (k : Int) ≤ 9223372036854775807 := by omega
    clear hi hf hl
    obtain ⟨b, off, rfl, hbl, c0, c1, c2, c3⟩ := HR.out.item k hp
    have HX : Hid (xs[k]'hp = xs[k]'hp) := rfl
    generalize xs[k] = x at c0 c1 c2 c3 HX ⊢
    obtain ⟨i1, i2, i3, i4⟩ := x
    simp only at c0 c1 c2 c3 ⊢
    go_enter Try.func29, Try.ntmps29
    go_wp2_with fail
    have hb : Below w.heap.size w (w.alloc (.cells #[.int .i64 0, .int .i64 0, .int .i64 0, .int .i64 0] 42)) := (Below.refl _ _).alloc (Nat.le_refl _) _
    have z0 : (w.alloc (.cells #[.int .i64 0, .int .i64 0, .int .i64 0, .int .i64 0] 42)).cell? ⟨w.heap.size, 0, none⟩ = some (.int .i64 0) := by simp
    have z1 : (w.alloc (.cells #[.int .i64 0, .int .i64 0, .int .i64 0, .int .i64 0] 42)).cell? ⟨w.heap.size, 1, none⟩ = some (.int .i64 0) := by simp
    have z2 : (w.alloc (.cells #[.int .i64 0, .int .i64 0, .int .i64 0, .int .i64 0] 42)).cell? ⟨w.heap.size, 2, none⟩ = some (.int .i64 0) := by simp
    have z3 : (w.alloc (.cells #[.int .i64 0, .int .i64 0, .int .i64 0, .int .i64 0] 42)).cell? ⟨w.heap.size, 3, none⟩ = some (.int .i64 0) := by simp
    have fz : ∀ j, (w.alloc (.cells #[.int .i64 0, .int .i64 0, .int .i64 0, .int .i64 0] 42)).frozen? ⟨w.heap.size, j, none⟩ = false := fun j => by simp
    have hlt : w.heap.size < (w.alloc (.cells #[.int .i64 0, .int .i64 0, .int .i64 0, .int .i64 0] 42)).heap.size := by simp
    have HR2 := Lib.hid (HR.out.below hb)
    generalize w.alloc (.cells #[.int .i64 0, .int .i64 0, .int .i64 0, .int .i64 0] 42) = w0 at *
    refine (A.out _ HR2.out).mono ?_
    rintro e w1 ⟨rfl, hb2⟩
    have hbw := bt hb hb2
    have e0 := (hbw.cell (p := ⟨b, off + k * 4, none⟩) hbl).trans c0
    have e1 := (hbw.cell (p := ⟨b, off + k * 4 + 1, none⟩) hbl).trans c1
    have e2 := (hbw.cell (p := ⟨b, off + k * 4 + 2, none⟩) hbl).trans c2
    have e3 := (hbw.cell (p := ⟨b, off + k * 4 + 3, none⟩) hbl).trans c3
    have y0 := (hb2.cell (p := ⟨w.heap.size, 0, none⟩) hlt).trans z0
    have y1 := (hb2.cell (p := ⟨w.heap.size, 1, none⟩) hlt).trans z1
    have y2 := (hb2.cell (p := ⟨w.heap.size, 2, none⟩) hlt).trans z2
    have y3 := (hb2.cell (p := ⟨w.heap.size, 3, none⟩) hlt).trans z3
    have g0 := (hb2.frozen (p := ⟨w.heap.size, 0, none⟩) hlt).trans (fz 0)
    have g1 := (hb2.frozen (p := ⟨w.heap.size, 1, none⟩) hlt).trans (fz 1)
    have g2 := (hb2.frozen (p := ⟨w.heap.size, 2, none⟩) hlt).trans (fz 2)
    have g3 := (hb2.frozen (p := ⟨w.heap.size, 3, none⟩) hlt).trans (fz 3)
    clear hb hb2 z0 z1 z2 z3 fz hlt c0 c1 c2 c3 HR2 A
    go_wp2_with fail
    obtain ⟨r0, r1, r2, r3⟩ := four_cells y0 y1 y2 y3 (.int .i64 i1) (.int .i64 i2) (.int .i64 i3) (.int .i64 i4)
    refine bodyPost_ret (v := .tuple #[itv i1 i2 i3 i4, .bool true]) (by simp [results, Try.results29, go_sem, r0, r1, r2, r3]) rfl ⟨rfl, ?_⟩
    exact (((hbw.setCell (p := ⟨w.heap.size, 0, none⟩) (Nat.le_refl _) _).setCell (p := ⟨w.heap.size, 1, none⟩) (Nat.le_refl _) _).setCell (p := ⟨w.heap.size, 2, none⟩) (Nat.le_refl _) _).setCell (p := ⟨w.heap.size, 3, none⟩) (Nat.le_refl _) _
  · have hi : idx (fun x => x.id == id) xs = -1 := by unfold idx; rw [if_neg hp]
    have hf : findT xs id = (⟨0, 0, 0, 0⟩, false) := by unfold findT; rw [find_place, dif_neg hp]
    rw [hf]
    have A := Lib.hid (fun (w : World) h => at_any a cap xs id w h hl)
    rw [hi] at A
    clear hi hf hp hl
    go_enter Try.func29, Try.ntmps29
    go_wp2_with fail
    have hb : Below w.heap.size w (w.alloc (.cells #[.int .i64 0, .int .i64 0, .int .i64 0, .int .i64 0] 42)) := (Below.refl _ _).alloc (Nat.le_refl _) _
    have z0 : (w.alloc (.cells #[.int .i64 0, .int .i64 0, .int .i64 0, .int .i64 0] 42)).cell? ⟨w.heap.size, 0, none⟩ = some (.int .i64 0) := by simp
    have z1 : (w.alloc (.cells #[.int .i64 0, .int .i64 0, .int .i64 0, .int .i64 0] 42)).cell? ⟨w.heap.size, 1, none⟩ = some (.int .i64 0) := by simp
    have z2 : (w.alloc (.cells #[.int .i64 0, .int .i64 0, .int .i64 0, .int .i64 0] 42)).cell? ⟨w.heap.size, 2, none⟩ = some (.int .i64 0) := by simp
    have z3 : (w.alloc (.cells #[.int .i64 0, .int .i64 0, .int .i64 0, .int .i64 0] 42)).cell? ⟨w.heap.size, 3, none⟩ = some (.int .i64 0) := by simp
    have fz : ∀ j, (w.alloc (.cells #[.int .i64 0, .int .i64 0, .int .i64 0, .int .i64 0] 42)).frozen? ⟨w.heap.size, j, none⟩ = false := fun j => by simp
    have hlt : w.heap.size < (w.alloc (.cells #[.int .i64 0, .int .i64 0, .int .i64 0, .int .i64 0] 42)).heap.size := by simp
    have HR2 := Lib.hid (HR.out.below hb)
    generalize w.alloc (.cells #[.int .i64 0, .int .i64 0, .int .i64 0, .int .i64 0] 42) = w0 at *
    refine (A.out _ HR2.out).mono ?_
    rintro e w1 ⟨rfl, hb2⟩
    have hbw := bt hb hb2
    have y0 := (hb2.cell (p := ⟨w.heap.size, 0, none⟩) hlt).trans z0
    have y1 := (hb2.cell (p := ⟨w.heap.size, 1, none⟩) hlt).trans z1
    have y2 := (hb2.cell (p := ⟨w.heap.size, 2, none⟩) hlt).trans z2
    have y3 := (hb2.cell (p := ⟨w.heap.size, 3, none⟩) hlt).trans z3
    have g0 := (hb2.frozen (p := ⟨w.heap.size, 0, none⟩) hlt).trans (fz 0)
    have g1 := (hb2.frozen (p := ⟨w.heap.size, 1, none⟩) hlt).trans (fz 1)
    have g2 := (hb2.frozen (p := ⟨w.heap.size, 2, none⟩) hlt).trans (fz 2)
    have g3 := (hb2.frozen (p := ⟨w.heap.size, 3, none⟩) hlt).trans (fz 3)
    clear hb hb2 z0 z1 z2 z3 fz hlt HR2 A
    go_wp2_with fail
    obtain ⟨r0, r1, r2, r3⟩ := four_cells y0 y1 y2 y3 (.int .i64 0) (.int .i64 0) (.int .i64 0) (.int .i64 0)
    refine bodyPost_ret (v := .tuple #[itv 0 0 0 0, .bool false]) (by simp [results, Try.results29, go_sem, r0, r1, r2, r3]) rfl ⟨rfl, ?_⟩
    exact (((hbw.setCell (p := ⟨w.heap.size, 0, none⟩) (Nat.le_refl _) _).setCell (p := ⟨w.heap.size, 1, none⟩) (Nat.le_refl _) _).setCell (p := ⟨w.heap.size, 2, none⟩) (Nat.le_refl _) _).setCell (p := ⟨w.heap.size, 3, none⟩) (Nat.le_refl _) _
end Go.Proofs.Ytfnmaemeofkagaa
