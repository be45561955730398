/- The stock: Check. -/
import Derived.Test.YtfnmaemeofkagaaStockAct
namespace Go.Proofs.Ytfnmaemeofkagaa
open Go.ChangeShapes Go.WideShapes Go.ChangeAt Go.RowKit
open StockP
set_option maxRecDepth 100000
def okE (l : List It) : Int := if ok l = true then 0 else 2
/-- an item's box -/
structure OneItem (W : World) (B : Nat) (a b c d : Value) : Prop where
  size : B < W.heap.size
  x0 : W.cell? ⟨B, 0, none⟩ = some a
  x1 : W.cell? ⟨B, 1, none⟩ = some b
  x2 : W.cell? ⟨B, 2, none⟩ = some c
  x3 : W.cell? ⟨B, 3, none⟩ = some d
theorem OneItem.below {W w2 : World} {B : Nat} {a b c d : Value} (h : OneItem W B a b c d) (k2 : Below W.heap.size W w2) : OneItem w2 B a b c d := by
  have h0 := h.size
  exact ⟨Nat.lt_of_lt_of_le h0 k2.size, (k2.cell (p := ⟨B, 0, none⟩) h0).trans h.x0, (k2.cell (p := ⟨B, 1, none⟩) h0).trans h.x1, (k2.cell (p := ⟨B, 2, none⟩) h0).trans h.x2, (k2.cell (p := ⟨B, 3, none⟩) h0).trans h.x3⟩
theorem one_item (w : World) (a b c d : Value) (T : TypeId) : OneItem (w.alloc (.cells #[a, b, c, d] T)) w.heap.size a b c d := by
  have o : ∀ j, (w.alloc (.cells #[a, b, c, d] T)).cell? ⟨w.heap.size, j, none⟩ = (#[a, b, c, d] : Array Value)[j]? := fun j => World.cell?_alloc_new _ _ _ _
  exact ⟨by simp, (o 0).trans rfl, (o 1).trans rfl, (o 2).trans rfl, (o 3).trans rfl⟩
set_option maxHeartbeats 2000000 in
theorem check_any (a : Option Addr) (cap : Nat) (xs : List It) (w : World) (hr : Reads encT 4 w a xs) (hl : xs.length ≤ maxLen) (hf : ∀ x, x ∈ xs → fitT x) :
    Calls Try.prog 20 #[.slice a xs.length cap] w fun e w' => e = .returned (.int .i64 (okE xs)) ∧ Below w.heap.size w w' := by
  unfold maxLen at hl
  by_cases h20 : 20 < xs.length
  · have ho : okE xs = 2 := by unfold okE ok; rw [if_neg]; simp; intro h; omega
    rw [ho]
    clear ho hr hf
    go_enter Try.func20, Try.ntmps20
    go_wp2_with fail
    go_ret
    exact ⟨rfl, Below.refl _ _⟩
  · have HR := Lib.hid hr
    have HF := Lib.hid hf
    clear hr hf
    have hd : decide ((20 : Int) < (xs.length : Int)) = false := by simp; omega
    have HD := Lib.hid h20
    go_enter Try.func20, Try.ntmps20
    go_wp2_with fail
    go_loopw [10] (fun v10 wr => ∃ (k : Nat), k ≤ xs.length ∧ v10 = .int .i64 k ∧ okFrom 0 (xs.take k) = true ∧ Below w.heap.size w wr) (fun v10 _ => xs.length - (intOf v10).toNat)
    case atStart => exact ⟨0, by omega, rfl, rfl, Below.refl _ _⟩
    case round =>
      obtain ⟨k, hk, rfl, hb, hbel⟩ := hrel
      have HB := Lib.hid hb
      clear hb
      by_cases hlt : k < xs.length
      · obtain ⟨b, off, rfl, hbl, c0, c1, c2, c3⟩ := (HR.out.below hbel).item k hlt
        have htk : xs.take (k + 1) = xs.take k ++ [xs[k]] := by simp
        have HS := Lib.hid ((congrArg (okFrom 0) htk).trans (okFrom_snoc (xs.take k) xs[k] 0))
        have hfx : fitT xs[k] := HF.out _ (List.getElem_mem hlt)
        clear htk
        have HN : Hid (okFrom 0 (xs.take (k + 1)) = false → okE xs = 2) := by
          intro h; unfold okE ok; rw [okFrom_cut h]; simp
        generalize hx : xs[k] = x at c0 c1 c2 c3 HS hfx
        clear hx
        obtain ⟨i, b', c', d'⟩ := x
        simp only at c0 c1 c2 c3
        have hbox : Below w.heap.size w (wr.alloc (.cells #[.int .i64 i, .int .i64 b', .int .i64 c', .int .i64 d'] 42)) := hbel.alloc hbel.size _
        have F := one_item wr (.int .i64 i) (.int .i64 b') (.int .i64 c') (.int .i64 d') 42
        have R0 : Reads encT 4 (wr.alloc (.cells #[.int .i64 i, .int .i64 b', .int .i64 c', .int .i64 d'] 42)) (some ⟨b, off, none⟩) xs := HR.out.below hbox
        by_cases hm : may ⟨i, b', c', d'⟩ = true
        · by_cases hk0 : k = 0
          · have hok1 : okFrom 0 (xs.take (k + 1)) = true := by
              rw [HS.out, HB.out, hm]
              have : 1 ≤ i := by unfold may at hm; simp at hm; omega
              rw [hk0]; simp [lastId]; omega
            have hkd : decide (0 < k) = false := by simp; omega
            have HK1 := Lib.hid hok1
            have M := Lib.hid (fun W => may_any i b' c' d' W hfx)
            rw [hm] at M
            clear hok1 hm HN HS hk0 R0
            go_wp2_with fail
            generalize wr.alloc (.cells #[.int .i64 i, .int .i64 b', .int .i64 c', .int .i64 d'] 42) = W0 at *
            obtain ⟨hs, x0, x1, x2, x3⟩ := F
            apply rg_region (by kernel_rfl) (by kernel_rfl)
            intro env
            repeat (first | (apply rg_det rfl; (intro W K hW _ hK; obtain ⟨hc, hf⟩ := bcell hW; go_simp; exact hK _ (Below.refl _ _)); rfl) | (apply rg_det rfl; (intro W K hW _ hK; go_simp; refine (M.out _).mono ?_; rintro e w2 ⟨rfl, hb2⟩; exact hK _ hb2); rfl))
            apply rg_done rfl
            intro W hW _
            replace hW := bt hbox hW
            go_wp2_with fail
            exact ⟨⟨k + 1, by omega, by go_num, HK1.out, hW⟩, by simp [intOf]; omega⟩
          · have hkk : k - 1 < xs.length := by omega
            obtain ⟨b2, off2, he2, _, p0, _, _, _⟩ := R0.item (k - 1) hkk
            obtain ⟨rfl, rfl⟩ : b2 = b ∧ off2 = off := by injection he2 with he2; injection he2 with h1 h2; exact ⟨h1.symm, h2.symm⟩
            clear he2
            have hla : lastId 0 (xs.take k) = xs[k - 1].id := lastId_take xs k (by omega) hk
            rw [hla] at HS
            generalize xs[k - 1].id = y at p0 HS
            have HY := Lib.hid hla
            clear hla
            have hkd : decide (0 < k) = true := by simp; omega
            have hk1 : 1 ≤ k := by omega
            clear hk0
            have M := Lib.hid (fun W => may_any i b' c' d' W hfx)
            rw [hm] at M
            by_cases hyi : y < i
            · have hok1 : okFrom 0 (xs.take (k + 1)) = true := by
                rw [HS.out, HB.out, hm]; simp [hyi]
              have HK1 := Lib.hid hok1
              clear hok1 hm HN HS R0
              have hyd : decide (i ≤ y) = false := by simp; omega
              go_wp2_with fail
              generalize wr.alloc (.cells #[.int .i64 i, .int .i64 b', .int .i64 c', .int .i64 d'] 42) = W0 at *
              obtain ⟨hs, x0, x1, x2, x3⟩ := F
              have hb0 : b2 < W0.heap.size := by have := hbox.size; omega
              have q1 : IntKind.i64.wrap ((k : Int) - 1) = (k : Int) - 1 := IntWalk.i64_in _ (by omega)
              have q2 : (0 : Int) ≤ (k : Int) - 1 := by omega
              have q3 : ((k : Int) - 1).toNat = k - 1 := by omega
              have q4 : (k : Int) - 1 < (xs.length : Int) := by omega
              have q5 : (1 : Int) ≤ (k : Int) := by omega
              apply rg_region (by kernel_rfl) (by kernel_rfl)
              intro env
              repeat (first | (apply rg_det rfl; (intro W K hW _ hK; obtain ⟨hc, hf⟩ := bcell hW; go_simp; exact hK _ (Below.refl _ _)); rfl) | (apply rg_det rfl; (intro W K hW _ hK; go_simp; refine (M.out _).mono ?_; rintro e w2 ⟨rfl, hb2⟩; exact hK _ hb2); rfl))
              apply rg_done rfl
              intro W hW _
              clear q1 q2 q3 q4 q5
              replace hW := bt hbox hW
              go_wp2_with fail
              exact ⟨⟨k + 1, by omega, by go_num, HK1.out, hW⟩, by simp [intOf]; omega⟩
            · have HO : Hid (okE xs = 2) := HN.out (by rw [HS.out]; simp [hyi])
              clear hm HN HS R0
              have hyd : decide (i ≤ y) = true := by simp; omega
              go_wp2_with fail
              generalize wr.alloc (.cells #[.int .i64 i, .int .i64 b', .int .i64 c', .int .i64 d'] 42) = W0 at *
              obtain ⟨hs, x0, x1, x2, x3⟩ := F
              have hb0 : b2 < W0.heap.size := by have := hbox.size; omega
              have q1 : IntKind.i64.wrap ((k : Int) - 1) = (k : Int) - 1 := IntWalk.i64_in _ (by omega)
              have q2 : (0 : Int) ≤ (k : Int) - 1 := by omega
              have q3 : ((k : Int) - 1).toNat = k - 1 := by omega
              have q4 : (k : Int) - 1 < (xs.length : Int) := by omega
              have q5 : (1 : Int) ≤ (k : Int) := by omega
              apply rg_region (by kernel_rfl) (by kernel_rfl)
              intro env
              repeat (first | (apply rg_det rfl; (intro W K hW _ hK; obtain ⟨hc, hf⟩ := bcell hW; go_simp; exact hK _ (Below.refl _ _)); rfl) | (apply rg_det rfl; (intro W K hW _ hK; go_simp; refine (M.out _).mono ?_; rintro e w2 ⟨rfl, hb2⟩; exact hK _ hb2); rfl))
              apply rg_done rfl
              intro W hW _
              clear q1 q2 q3 q4 q5
              replace hW := bt hbox hW
              go_wp2_with fail
              go_ret
              exact ⟨ret_int HO.out.symm, hW⟩
        · have hm' : may ⟨i, b', c', d'⟩ = false := by simpa using hm
          have HO : Hid (okE xs = 2) := HN.out (by rw [HS.out, hm']; simp)
          have M := Lib.hid (fun W => may_any i b' c' d' W hfx)
          rw [hm'] at M
          clear hm hm' HN HS R0
          go_wp2_with fail
          generalize wr.alloc (.cells #[.int .i64 i, .int .i64 b', .int .i64 c', .int .i64 d'] 42) = W0 at *
          obtain ⟨hs, x0, x1, x2, x3⟩ := F
          apply rg_region (by kernel_rfl) (by kernel_rfl)
          intro env
          repeat (first | (apply rg_det rfl; (intro W K hW _ hK; obtain ⟨hc, hf⟩ := bcell hW; go_simp; exact hK _ (Below.refl _ _)); rfl) | (apply rg_det rfl; (intro W K hW _ hK; go_simp; refine (M.out _).mono ?_; rintro e w2 ⟨rfl, hb2⟩; exact hK _ hb2); rfl))
          apply rg_done rfl
          intro W hW _
          replace hW := bt hbox hW
          go_wp2_with fail
          go_ret
          exact ⟨ret_int HO.out.symm, hW⟩
      · obtain rfl : k = xs.length := by omega
        have ho : okE xs = 0 := by
          have := HB.out
          rw [List.take_length] at this
          unfold okE ok; rw [this, if_pos]; simp; have := HD.out; omega
        have HO := Lib.hid ho
        clear ho
        go_wp2_with fail
        go_ret
        exact ⟨ret_int HO.out.symm, hbel⟩
end Go.Proofs.Ytfnmaemeofkagaa
