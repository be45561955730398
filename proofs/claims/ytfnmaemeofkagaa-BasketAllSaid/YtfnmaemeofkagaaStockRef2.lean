/- The stock: the reference's Find, item, Same. -/
import Derived.Test.YtfnmaemeofkagaaStockRef
import Derived.Test.YtfnmaemeofkagaaStockRefP
namespace Go.Proofs.Ytfnmaemeofkagaa
open Go.ChangeShapes Go.WideShapes Go.ChangeAt Go.RowKit
open StockP
set_option maxRecDepth 100000
/-- a result's cells -/
structure FourCells (W : World) (B : Nat) : Prop where
  size : B < W.heap.size
  y0 : W.cell? ⟨B, 0, none⟩ = some (.int .i64 0)
  y1 : W.cell? ⟨B, 1, none⟩ = some (.int .i64 0)
  y2 : W.cell? ⟨B, 2, none⟩ = some (.int .i64 0)
  y3 : W.cell? ⟨B, 3, none⟩ = some (.int .i64 0)
  fz : ∀ j, W.frozen? ⟨B, j, none⟩ = false
theorem FourCells.below {W w2 : World} {B : Nat} (h : FourCells W B) (k : Below W.heap.size W w2) : FourCells w2 B :=
  ⟨Nat.lt_of_lt_of_le h.size k.size, (k.cell (p := ⟨B, 0, none⟩) h.size).trans h.y0, (k.cell (p := ⟨B, 1, none⟩) h.size).trans h.y1, (k.cell (p := ⟨B, 2, none⟩) h.size).trans h.y2, (k.cell (p := ⟨B, 3, none⟩) h.size).trans h.y3, fun j => (k.frozen (p := ⟨B, j, none⟩) h.size).trans (h.fz j)⟩
theorem four_new (w : World) (T : TypeId) : FourCells (w.alloc (.cells #[.int .i64 0, .int .i64 0, .int .i64 0, .int .i64 0] T)) w.heap.size := by
  have o : ∀ j, (w.alloc (.cells #[.int .i64 0, .int .i64 0, .int .i64 0, .int .i64 0] T)).cell? ⟨w.heap.size, j, none⟩ = (#[.int .i64 0, .int .i64 0, .int .i64 0, .int .i64 0] : Array Value)[j]? := fun j => World.cell?_alloc_new _ _ _ _
  exact ⟨by simp, (o 0).trans rfl, (o 1).trans rfl, (o 2).trans rfl, (o 3).trans rfl, fun j => by simp⟩
theorem four_below {B0 : Nat} {w W : World} {B : Nat} (h : Below B0 w W) (hB : B0 ≤ B) (a b c d : Value) : Below B0 w ((((W.setCell ⟨B, 0, none⟩ a).setCell ⟨B, 1, none⟩ b).setCell ⟨B, 2, none⟩ c).setCell ⟨B, 3, none⟩ d) :=
  (((h.setCell (p := ⟨B, 0, none⟩) hB _).setCell (p := ⟨B, 1, none⟩) hB _).setCell (p := ⟨B, 2, none⟩) hB _).setCell (p := ⟨B, 3, none⟩) hB _
theorem four_cells_past {w : World} {B : Nat} {v0 v1 v2 v3 : Value} (hs : B < w.heap.size) (y0 : w.cell? ⟨B, 0, none⟩ = some v0) (y1 : w.cell? ⟨B, 1, none⟩ = some v1) (y2 : w.cell? ⟨B, 2, none⟩ = some v2) (y3 : w.cell? ⟨B, 3, none⟩ = some v3) (a b c d : Value) (o : Obj) :
    (((((w.setCell ⟨B, 0, none⟩ a).setCell ⟨B, 1, none⟩ b).setCell ⟨B, 2, none⟩ c).setCell ⟨B, 3, none⟩ d).alloc o).cell? ⟨B, 0, none⟩ = some a ∧
    (((((w.setCell ⟨B, 0, none⟩ a).setCell ⟨B, 1, none⟩ b).setCell ⟨B, 2, none⟩ c).setCell ⟨B, 3, none⟩ d).alloc o).cell? ⟨B, 1, none⟩ = some b ∧
    (((((w.setCell ⟨B, 0, none⟩ a).setCell ⟨B, 1, none⟩ b).setCell ⟨B, 2, none⟩ c).setCell ⟨B, 3, none⟩ d).alloc o).cell? ⟨B, 2, none⟩ = some c ∧
    (((((w.setCell ⟨B, 0, none⟩ a).setCell ⟨B, 1, none⟩ b).setCell ⟨B, 2, none⟩ c).setCell ⟨B, 3, none⟩ d).alloc o).cell? ⟨B, 3, none⟩ = some d := by
  obtain ⟨k0, k1, k2, k3⟩ := four_cells y0 y1 y2 y3 a b c d
  have h : ∀ j, _ := fun j => World.cell?_alloc_lt ((((w.setCell ⟨B, 0, none⟩ a).setCell ⟨B, 1, none⟩ b).setCell ⟨B, 2, none⟩ c).setCell ⟨B, 3, none⟩ d) o ⟨B, j, none⟩ (by simpa using hs)
  exact ⟨(h 0).trans k0, (h 1).trans k1, (h 2).trans k2, (h 3).trans k3⟩
theorem four_below_past {B0 : Nat} {w W : World} {B : Nat} (h : Below B0 w W) (hB : B0 ≤ B) (hW : B0 ≤ W.heap.size) (a b c d : Value) (o : Obj) : Below B0 w (((((W.setCell ⟨B, 0, none⟩ a).setCell ⟨B, 1, none⟩ b).setCell ⟨B, 2, none⟩ c).setCell ⟨B, 3, none⟩ d).alloc o) :=
  (four_below h hB a b c d).alloc (by simpa using hW) _
set_option maxHeartbeats 2000000 in
theorem findR_any (a : Option Addr) (cap : Nat) (xs : List It) (id : Int) (w : World) (hr : Reads encT 4 w a xs) (hl : xs.length ≤ maxLen) :
    Calls Try.prog 32 #[.slice a xs.length cap, .int .i64 id] w fun e w' => e = .returned (.tuple #[itv (findT xs id).1.id (findT xs id).1.free (findT xs id).1.held (findT xs id).1.gone, .bool (findT xs id).2]) ∧ Below w.heap.size w w' := by
  have HR := Lib.hid hr
  clear hr
  unfold maxLen at hl
  have hfind := findT_place xs id
  have HFT := Lib.hid hfind
  clear hfind
  go_enter Try.func32, Try.ntmps32
  go_wp2_with fail
  have FC := four_new w 42
  have hbx : Below w.heap.size w (w.alloc (.cells #[.int .i64 0, .int .i64 0, .int .i64 0, .int .i64 0] 42)) := (Below.refl _ _).alloc (Nat.le_refl _) _
  generalize w.alloc (.cells #[.int .i64 0, .int .i64 0, .int .i64 0, .int .i64 0] 42) = w0 at *
  have HFC := Lib.hid FC
  have HBX := Lib.hid hbx
  clear FC hbx
  go_loopw [6] (fun v6 wr => ∃ (k : Nat), k ≤ xs.length ∧ v6 = .int .i64 k ∧ (∀ j, (hj : j < xs.length) → j < k → (xs[j].id == id) = false) ∧ w0 = wr) (fun v6 _ => xs.length - (intOf v6).toNat)
  case atStart => exact ⟨0, by omega, rfl, by intro j _ h; omega, rfl⟩
  case round =>
    obtain ⟨k, hk, rfl, hb, rfl⟩ := hrel
    have HB := Lib.hid hb
    clear hb
    by_cases hlt : k < xs.length
    · obtain ⟨b, off, rfl, hbl, c0, c1, c2, c3⟩ := (HR.out.below HBX.out).item k hlt
      have HP := Lib.hid (place_is (fun x => x.id == id) xs k hlt HB.out)
      generalize hx : xs[k] = x at c0 c1 c2 c3 HP
      have HXK := Lib.hid hx
      clear hx
      obtain ⟨i1, i2, i3, i4⟩ := x
      simp only at c0 c1 c2 c3
      by_cases hxi : i1 = id
      · subst hxi
        have hpk : place (fun x => x.id == i1) xs = k := HP.out (by simp)
        have hft : findT xs i1 = (⟨i1, i2, i3, i4⟩, true) := by
          rw [HFT.out, dif_pos (by rw [hpk]; exact hlt)]
          simp only [hpk, HXK.out]
        have HFT2 := Lib.hid hft
        obtain ⟨hs, y0, y1, y2, y3, fz⟩ := HFC.out
        clear hft hpk
        go_wp2_with fail
        obtain ⟨r0, r1, r2, r3⟩ := four_cells y0 y1 y2 y3 (.int .i64 i1) (.int .i64 i2) (.int .i64 i3) (.int .i64 i4)
        refine bodyPost_ret (v := .tuple #[itv i1 i2 i3 i4, .bool true]) (by simp [results, Try.results32, go_sem, r0, r1, r2, r3]) rfl ⟨?_, four_below HBX.out (Nat.le_refl _) _ _ _ _⟩
        rw [HFT2.out]
      · have hxb : (i1 == id) = false := by simpa using hxi
        clear hxi
        go_wp2_with fail
        refine ⟨⟨k + 1, by omega, by go_num, ?_, by trivial⟩, by simp [intOf]; omega⟩
        intro j hj hjk
        by_cases e : j = k
        · subst e; rw [HXK.out]; exact hxb
        · exact HB.out j hj (by omega)
    · obtain rfl : k = xs.length := by omega
      have hft : findT xs id = (⟨0, 0, 0, 0⟩, false) := by
        rw [HFT.out, dif_neg]; rw [place_none _ xs (fun j hj => HB.out j hj hj)]; omega
      have HFT2 := Lib.hid hft
      obtain ⟨hs, y0, y1, y2, y3, fz⟩ := HFC.out
      clear hft
      go_wp2_with fail
      obtain ⟨r0, r1, r2, r3⟩ := four_cells y0 y1 y2 y3 (.int .i64 0) (.int .i64 0) (.int .i64 0) (.int .i64 0)
      refine bodyPost_ret (v := .tuple #[itv 0 0 0 0, .bool false]) (by simp [results, Try.results32, go_sem, r0, r1, r2, r3]) rfl ⟨?_, four_below HBX.out (Nat.le_refl _) _ _ _ _⟩
      rw [HFT2.out]
end Go.Proofs.Ytfnmaemeofkagaa
