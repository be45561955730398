/- The stock: lent, and what goes from one pile to another. -/
import Derived.Test.YtfnmaemeofkagaaStockFind
import Derived.Test.YtfnmaemeofkagaaStockRefP
namespace Go.Proofs.Ytfnmaemeofkagaa
open Go.ChangeShapes Go.WideShapes Go.ChangeAt Go.RowKit
open StockP
set_option maxRecDepth 100000
theorem lent_any (a b c d : Int) (w : World) :
    Calls Try.prog 43 #[itv a b c d] w fun e w' => e = .returned (.int .i64 (lentE b c)) ∧ Below w.heap.size w w' := by
  by_cases h : b < 0 ∨ c < 0
  · have hl : lentE b c = 42 := by unfold lentE; rw [if_pos h]
    rw [hl]
    clear hl
    go_enter Try.func43, Try.ntmps43
    go_wp2_with fail
    all_goals first
      | (exfalso; omega)
      | (go_ret; exact ⟨rfl, (Below.refl _ _).alloc (Nat.le_refl _) _⟩)
  · have hl : lentE b c = 0 := by unfold lentE; rw [if_neg h]
    rw [hl]
    have h1 : 0 ≤ b := by omega
    have h2 : 0 ≤ c := by omega
    clear hl h
    go_enter Try.func43, Try.ntmps43
    go_wp2_with fail
    all_goals first
      | (exfalso; omega)
      | (go_ret; exact ⟨rfl, (Below.refl _ _).alloc (Nat.le_refl _) _⟩)
/-- an item's box, and a result's cells behind it -/
structure TwoItems (W : World) (B : Nat) (a b c d : Value) : Prop where
  size : B + 1 < W.heap.size
  x0 : W.cell? ⟨B, 0, none⟩ = some a
  x1 : W.cell? ⟨B, 1, none⟩ = some b
  x2 : W.cell? ⟨B, 2, none⟩ = some c
  x3 : W.cell? ⟨B, 3, none⟩ = some d
  y0 : W.cell? ⟨B + 1, 0, none⟩ = some (.int .i64 0)
  y1 : W.cell? ⟨B + 1, 1, none⟩ = some (.int .i64 0)
  y2 : W.cell? ⟨B + 1, 2, none⟩ = some (.int .i64 0)
  y3 : W.cell? ⟨B + 1, 3, none⟩ = some (.int .i64 0)
  f0 : W.frozen? ⟨B + 1, 0, none⟩ = false
  f1 : W.frozen? ⟨B + 1, 1, none⟩ = false
  f2 : W.frozen? ⟨B + 1, 2, none⟩ = false
  f3 : W.frozen? ⟨B + 1, 3, none⟩ = false
theorem TwoItems.below {W w2 : World} {B : Nat} {a b c d : Value} (h : TwoItems W B a b c d) (k2 : Below W.heap.size W w2) : TwoItems w2 B a b c d := by
  have h1 := h.size
  have h0 : B < W.heap.size := by omega
  exact ⟨Nat.lt_of_lt_of_le h1 k2.size, (k2.cell (p := ⟨B, 0, none⟩) h0).trans h.x0, (k2.cell (p := ⟨B, 1, none⟩) h0).trans h.x1, (k2.cell (p := ⟨B, 2, none⟩) h0).trans h.x2, (k2.cell (p := ⟨B, 3, none⟩) h0).trans h.x3,
    (k2.cell (p := ⟨B + 1, 0, none⟩) h1).trans h.y0, (k2.cell (p := ⟨B + 1, 1, none⟩) h1).trans h.y1, (k2.cell (p := ⟨B + 1, 2, none⟩) h1).trans h.y2, (k2.cell (p := ⟨B + 1, 3, none⟩) h1).trans h.y3,
    (k2.frozen (p := ⟨B + 1, 0, none⟩) h1).trans h.f0, (k2.frozen (p := ⟨B + 1, 1, none⟩) h1).trans h.f1, (k2.frozen (p := ⟨B + 1, 2, none⟩) h1).trans h.f2, (k2.frozen (p := ⟨B + 1, 3, none⟩) h1).trans h.f3⟩
theorem two_items (w : World) (a b c d : Value) (T : TypeId) : TwoItems ((w.alloc (.cells #[a, b, c, d] T)).alloc (.cells #[.int .i64 0, .int .i64 0, .int .i64 0, .int .i64 0] T)) w.heap.size a b c d := by
  have e : (w.alloc (.cells #[a, b, c, d] T)).heap.size = w.heap.size + 1 := by simp
  have n : ∀ j, ((w.alloc (.cells #[a, b, c, d] T)).alloc (.cells #[.int .i64 0, .int .i64 0, .int .i64 0, .int .i64 0] T)).cell? ⟨w.heap.size + 1, j, none⟩ = (#[.int .i64 0, .int .i64 0, .int .i64 0, .int .i64 0] : Array Value)[j]? := fun j => by
    rw [← e]; exact World.cell?_alloc_new _ _ _ _
  have f : ∀ j, ((w.alloc (.cells #[a, b, c, d] T)).alloc (.cells #[.int .i64 0, .int .i64 0, .int .i64 0, .int .i64 0] T)).frozen? ⟨w.heap.size + 1, j, none⟩ = false := fun j => by
    rw [← e]; exact World.frozen?_alloc_new _ _ _ _
  have o : ∀ j, ((w.alloc (.cells #[a, b, c, d] T)).alloc (.cells #[.int .i64 0, .int .i64 0, .int .i64 0, .int .i64 0] T)).cell? ⟨w.heap.size, j, none⟩ = (#[a, b, c, d] : Array Value)[j]? := fun j => by
    rw [World.cell?_alloc_lt _ _ _ (by rw [e]; exact Nat.lt_succ_self _)]; exact World.cell?_alloc_new _ _ _ _
  exact ⟨by simp, (o 0).trans rfl, (o 1).trans rfl, (o 2).trans rfl, (o 3).trans rfl, (n 0).trans rfl, (n 1).trans rfl, (n 2).trans rfl, (n 3).trans rfl, f 0, f 1, f 2, f 3⟩
set_option maxHeartbeats 1000000 in
theorem hold_any (n a b c d : Int) (w : World) (hn : 0 ≤ n ∧ n ≤ 1000000) (hb : -1000000000 ≤ b ∧ b ≤ 1000000000) (hc : -1000000000 ≤ c ∧ c ≤ 1000000000) :
    Calls Try.prog 34 #[.int .i64 n, itv a b c d] w fun e w' => e = .returned (.tuple #[itv a (b - n) (c + n) d, .int .i64 (lentE (b - n) (c + n))]) ∧ Below w.heap.size w w' := by
  go_enter Try.func34, Try.ntmps34
  go_wp2_with fail
  have hbel : Below w.heap.size w ((w.alloc (.cells #[.int .i64 a, .int .i64 (b - n), .int .i64 (c + n), .int .i64 d] 42)).alloc (.cells #[.int .i64 0, .int .i64 0, .int .i64 0, .int .i64 0] 42)) := ((Below.refl _ _).alloc (Nat.le_refl _) _).alloc (by simp) _
  have F := two_items w (.int .i64 a) (.int .i64 (b - n)) (.int .i64 (c + n)) (.int .i64 d) 42
  generalize (w.alloc (.cells #[.int .i64 a, .int .i64 (b - n), .int .i64 (c + n), .int .i64 d] 42)).alloc (.cells #[.int .i64 0, .int .i64 0, .int .i64 0, .int .i64 0] 42) = W0 at *
  obtain ⟨hs, x0, x1, x2, x3, y0, y1, y2, y3, f0, f1, f2, f3⟩ := F
  have G := Lib.hid (fun (w2 : World) (h : Below W0.drew.heap.size W0.drew w2) => (TwoItems.below ⟨hs, x0, x1, x2, x3, y0, y1, y2, y3, f0, f1, f2, f3⟩ (undrew h)))
  go_region_with (go_at_call 43; refine (lent_any _ _ _ _ _).mono ?_; rintro e w2 ⟨rfl, hb2⟩; obtain ⟨ks, k0, k1, k2, k3, l0, l1, l2, l3, m0, m1, m2, m3⟩ := G.out _ hb2)
  all_goals
    go_wp2_with fail
    obtain ⟨r0, r1, r2, r3⟩ := four_cells l0 l1 l2 l3 (.int .i64 a) (.int .i64 (b - n)) (.int .i64 (c + n)) (.int .i64 d)
    refine bodyPost_ret (v := .tuple #[itv a (b - n) (c + n) d, .int .i64 (lentE (b - n) (c + n))]) (by simp [results, Try.results34, go_sem, r0, r1, r2, r3]) rfl ⟨rfl, ?_⟩
    have hw2 := bt hbel (undrew hb2)
    exact (((hw2.setCell (p := ⟨w.heap.size + 1, 0, none⟩) (Nat.le_succ _) _).setCell (p := ⟨w.heap.size + 1, 1, none⟩) (Nat.le_succ _) _).setCell (p := ⟨w.heap.size + 1, 2, none⟩) (Nat.le_succ _) _).setCell (p := ⟨w.heap.size + 1, 3, none⟩) (Nat.le_succ _) _
set_option maxHeartbeats 1000000 in
theorem free_any (n a b c d : Int) (w : World) (hn : 0 ≤ n ∧ n ≤ 1000000) (hb : -1000000000 ≤ b ∧ b ≤ 1000000000) (hc : -1000000000 ≤ c ∧ c ≤ 1000000000) :
    Calls Try.prog 40 #[.int .i64 n, itv a b c d] w fun e w' => e = .returned (.tuple #[itv a (b + n) (c - n) d, .int .i64 (lentE (b + n) (c - n))]) ∧ Below w.heap.size w w' := by
  go_enter Try.func40, Try.ntmps40
  go_wp2_with fail
  have hbel : Below w.heap.size w ((w.alloc (.cells #[.int .i64 a, .int .i64 (b + n), .int .i64 (c - n), .int .i64 d] 42)).alloc (.cells #[.int .i64 0, .int .i64 0, .int .i64 0, .int .i64 0] 42)) := ((Below.refl _ _).alloc (Nat.le_refl _) _).alloc (by simp) _
  have F := two_items w (.int .i64 a) (.int .i64 (b + n)) (.int .i64 (c - n)) (.int .i64 d) 42
  generalize (w.alloc (.cells #[.int .i64 a, .int .i64 (b + n), .int .i64 (c - n), .int .i64 d] 42)).alloc (.cells #[.int .i64 0, .int .i64 0, .int .i64 0, .int .i64 0] 42) = W0 at *
  obtain ⟨hs, x0, x1, x2, x3, y0, y1, y2, y3, f0, f1, f2, f3⟩ := F
  have G := Lib.hid (fun (w2 : World) (h : Below W0.drew.heap.size W0.drew w2) => (TwoItems.below ⟨hs, x0, x1, x2, x3, y0, y1, y2, y3, f0, f1, f2, f3⟩ (undrew h)))
  go_region_with (go_at_call 43; refine (lent_any _ _ _ _ _).mono ?_; rintro e w2 ⟨rfl, hb2⟩; obtain ⟨ks, k0, k1, k2, k3, l0, l1, l2, l3, m0, m1, m2, m3⟩ := G.out _ hb2)
  all_goals
    go_wp2_with fail
    obtain ⟨r0, r1, r2, r3⟩ := four_cells l0 l1 l2 l3 (.int .i64 a) (.int .i64 (b + n)) (.int .i64 (c - n)) (.int .i64 d)
    refine bodyPost_ret (v := .tuple #[itv a (b + n) (c - n) d, .int .i64 (lentE (b + n) (c - n))]) (by simp [results, Try.results40, go_sem, r0, r1, r2, r3]) rfl ⟨rfl, ?_⟩
    have hw2 := bt hbel (undrew hb2)
    exact (((hw2.setCell (p := ⟨w.heap.size + 1, 0, none⟩) (Nat.le_succ _) _).setCell (p := ⟨w.heap.size + 1, 1, none⟩) (Nat.le_succ _) _).setCell (p := ⟨w.heap.size + 1, 2, none⟩) (Nat.le_succ _) _).setCell (p := ⟨w.heap.size + 1, 3, none⟩) (Nat.le_succ _) _
end Go.Proofs.Ytfnmaemeofkagaa
