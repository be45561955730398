/- The stock: the reference's Check, Find, Same. -/
import Derived.Test.YtfnmaemeofkagaaStockCheck
namespace Go.Proofs.Ytfnmaemeofkagaa
open Go.ChangeShapes Go.WideShapes Go.ChangeAt Go.RowKit
open StockP
set_option maxRecDepth 100000
set_option maxHeartbeats 8000000 in
theorem checkR_any (a : Option Addr) (cap : Nat) (xs : List It) (w : World) (hr : Reads encT 4 w a xs) (hl : xs.length ≤ maxLen) (hf : ∀ x, x ∈ xs → fitT x) :
    Calls Try.prog 25 #[.slice a xs.length cap] w fun e w' => e = .returned (.int .i64 (okE xs)) ∧ Below w.heap.size w w' := by
  unfold maxLen at hl
  by_cases h20 : 20 < xs.length
  · have ho : okE xs = 2 := by unfold okE ok; rw [if_neg]; simp; intro h; omega
    rw [ho]
    clear ho hr hf
    go_enter Try.func25, Try.ntmps25
    go_wp2_with fail
    go_ret
    exact ⟨rfl, Below.refl _ _⟩
  · have HR := Lib.hid hr
    have HF := Lib.hid hf
    clear hr hf
    have hd : decide ((20 : Int) < (xs.length : Int)) = false := by simp; omega
    have HD := Lib.hid h20
    go_enter Try.func25, Try.ntmps25
    go_wp2_with fail
    go_loopw [3] (fun v3 wr => ∃ (k : Nat), k ≤ xs.length ∧ v3 = .int .i64 k ∧ okFrom 0 (xs.take k) = true ∧ Below w.heap.size w wr) (fun v3 _ => xs.length - (intOf v3).toNat)
    case atStart => exact ⟨0, by omega, rfl, rfl, Below.refl _ _⟩
    case round =>
      obtain ⟨k, hk, rfl, hb, hbel⟩ := hrel
      have HB := Lib.hid hb
      clear hb
      by_cases hlt : k < xs.length
      · obtain ⟨b, off, rfl, hbl, c0, c1, c2, c3⟩ := (HR.out.below hbel).item k hlt
        have htk : xs.take (k + 1) = xs.take k ++ [xs[k]] := by simp
        have HS := Lib.hid ((congrArg (okFrom 0) htk).trans (okFrom_snoc (xs.take k) xs[k] 0))
        clear htk
        have HN : Hid (okFrom 0 (xs.take (k + 1)) = false → okE xs = 2) := by
          intro h; unfold okE ok; rw [okFrom_cut h]; simp
        generalize hx : xs[k] = x at c0 c1 c2 c3 HS
        clear hx
        obtain ⟨i, f, h, g⟩ := x
        simp only at c0 c1 c2 c3
        have hbox : Below w.heap.size w (wr.alloc (.cells #[.int .i64 i, .int .i64 f, .int .i64 h, .int .i64 g] 42)) := hbel.alloc hbel.size _
        have R0 : Reads encT 4 (wr.alloc (.cells #[.int .i64 i, .int .i64 f, .int .i64 h, .int .i64 g] 42)) (some ⟨b, off, none⟩) xs := HR.out.below hbox
        by_cases hm : may ⟨i, f, h, g⟩ = true
        · have hmb : 1 ≤ i ∧ i ≤ 99999 ∧ 0 ≤ f ∧ 0 ≤ h ∧ 0 ≤ g ∧ f ≤ 1000000 ∧ h ≤ 1000000 - f ∧ g ≤ 1000000 - f - h := by unfold may at hm; simp at hm; omega
          obtain ⟨o0, o1, o2, o3, o4, o5, o6, o7⟩ := hmb
          have d0 : decide (i < 1) = false := by simp; omega
          have d1 : decide (99999 < i) = false := by simp; omega
          have d2 : decide (f < 0) = false := by simp; omega
          have d3 : decide (h < 0) = false := by simp; omega
          have d4 : decide (g < 0) = false := by simp; omega
          have d5 : decide (1000000 < f) = false := by simp; omega
          have d6 : decide (1000000 - f < h) = false := by simp; omega
          have d7 : decide (1000000 - f - h < g) = false := by simp; omega
          by_cases hk0 : k = 0
          · have hok1 : okFrom 0 (xs.take (k + 1)) = true := by
              rw [HS.out, HB.out, hm]
              rw [hk0]; simp [lastId]; omega
            have hkd : decide (0 < k) = false := by simp; omega
            have HK1 := Lib.hid hok1
            clear hok1 hm HN HS hk0 R0
            go_wp2_with fail
            have BX := one_item wr (.int .i64 i) (.int .i64 f) (.int .i64 h) (.int .i64 g) 42
            generalize wr.alloc (.cells #[.int .i64 i, .int .i64 f, .int .i64 h, .int .i64 g] 42) = W0 at *
            obtain ⟨hs, x0, x1, x2, x3⟩ := BX
            (apply rg_region (by kernel_rfl) (by kernel_rfl); intro env)
            repeat (apply rg_det rfl; (intro W K hW _ hK; obtain ⟨hc, hf⟩ := bcell hW; go_simp; first | (rw [IntWalk.i64_in]; (exact hK _ (Below.refl _ _)); omega) | exact hK _ (Below.refl _ _)); rfl)
            (apply rg_done rfl; intro W hW hF)
            replace hW := bt hbox hW
            go_wp2_with fail
            exact ⟨⟨k + 1, by omega, by go_num, HK1.out, hW⟩, by simp [intOf]; omega⟩
          · have hkk : k - 1 < xs.length := by omega
            obtain ⟨b2, off2, he2, _, p0, _, _, _⟩ := R0.item (k - 1) hkk
            obtain ⟨rfl, rfl⟩ : b2 = b ∧ off2 = off := by injection he2 with he2; injection he2 with h1 h2; exact ⟨h1.symm, h2.symm⟩
            clear he2
            have hla : lastId 0 (xs.take k) = xs[k - 1].id := lastId_take xs k (by omega) hk
            rw [hla] at HS
            generalize xs[k - 1].id = y at p0 HS
            clear hla
            have hkd : decide (0 < k) = true := by simp; omega
            have hk1 : 1 ≤ k := by omega
            clear hk0
            have hb0 : b2 < (wr.alloc (.cells #[.int .i64 i, .int .i64 f, .int .i64 h, .int .i64 g] 42)).heap.size := by have := hbox.size; simp; omega
            have q1 : IntKind.i64.wrap ((k : Int) - 1) = (k : Int) - 1 := IntWalk.i64_in _ (by omega)
            have q2 : (0 : Int) ≤ (k : Int) - 1 := by omega
            have q3 : ((k : Int) - 1).toNat = k - 1 := by omega
            have q4 : (k : Int) - 1 < (xs.length : Int) := by omega
            have q5 : (1 : Int) ≤ (k : Int) := by omega
            by_cases hyi : y < i
            · have hok1 : okFrom 0 (xs.take (k + 1)) = true := by
                rw [HS.out, HB.out, hm]; simp [hyi]
              have HK1 := Lib.hid hok1
              clear hok1 hm HN HS R0
              have hyd : decide (i ≤ y) = false := by simp; omega
              go_wp2_with fail
              have BX := one_item wr (.int .i64 i) (.int .i64 f) (.int .i64 h) (.int .i64 g) 42
              generalize wr.alloc (.cells #[.int .i64 i, .int .i64 f, .int .i64 h, .int .i64 g] 42) = W0 at *
              obtain ⟨hs, x0, x1, x2, x3⟩ := BX
              (apply rg_region (by kernel_rfl) (by kernel_rfl); intro env)
              repeat (apply rg_det rfl; (intro W K hW _ hK; obtain ⟨hc, hf⟩ := bcell hW; go_simp; first | (rw [IntWalk.i64_in]; (exact hK _ (Below.refl _ _)); omega) | exact hK _ (Below.refl _ _)); rfl)
              (apply rg_done rfl; intro W hW hF)
              clear q1 q2 q3 q4 q5
              replace hW := bt hbox hW
              go_wp2_with fail
              exact ⟨⟨k + 1, by omega, by go_num, HK1.out, hW⟩, by simp [intOf]; omega⟩
            · have HO : Hid (okE xs = 2) := HN.out (by rw [HS.out]; simp [hyi])
              clear hm HN HS R0
              have hyd : decide (i ≤ y) = true := by simp; omega
              go_wp2_with fail
              have BX := one_item wr (.int .i64 i) (.int .i64 f) (.int .i64 h) (.int .i64 g) 42
              generalize wr.alloc (.cells #[.int .i64 i, .int .i64 f, .int .i64 h, .int .i64 g] 42) = W0 at *
              obtain ⟨hs, x0, x1, x2, x3⟩ := BX
              (apply rg_region (by kernel_rfl) (by kernel_rfl); intro env)
              repeat (apply rg_det rfl; (intro W K hW _ hK; obtain ⟨hc, hf⟩ := bcell hW; go_simp; first | (rw [IntWalk.i64_in]; (exact hK _ (Below.refl _ _)); omega) | exact hK _ (Below.refl _ _)); rfl)
              (apply rg_done rfl; intro W hW hF)
              clear q1 q2 q3 q4 q5
              replace hW := bt hbox hW
              go_wp2_with fail
              go_ret
              exact ⟨ret_int HO.out.symm, hW⟩
        · have hm' : may ⟨i, f, h, g⟩ = false := by simpa using hm
          have HO : Hid (okE xs = 2) := HN.out (by rw [HS.out, hm']; simp)
          have hpaths : (i < 1) ∨ (1 ≤ i ∧ 99999 < i) ∨ (1 ≤ i ∧ i ≤ 99999 ∧ f < 0) ∨ (1 ≤ i ∧ i ≤ 99999 ∧ 0 ≤ f ∧ h < 0) ∨ (1 ≤ i ∧ i ≤ 99999 ∧ 0 ≤ f ∧ 0 ≤ h ∧ g < 0) ∨ (1 ≤ i ∧ i ≤ 99999 ∧ 0 ≤ f ∧ 0 ≤ h ∧ 0 ≤ g ∧ 1000000 < f) ∨ (1 ≤ i ∧ i ≤ 99999 ∧ 0 ≤ f ∧ 0 ≤ h ∧ 0 ≤ g ∧ f ≤ 1000000 ∧ 1000000 - f < h) ∨ (1 ≤ i ∧ i ≤ 99999 ∧ 0 ≤ f ∧ 0 ≤ h ∧ 0 ≤ g ∧ f ≤ 1000000 ∧ h ≤ 1000000 - f ∧ 1000000 - f - h < g) := by
            unfold may at hm'; simp at hm'; omega
          clear hm hm' HN HS R0
          rcases hpaths with o0 | ⟨o0, o1⟩ | ⟨o0, o1, o2⟩ | ⟨o0, o1, o2, o3⟩ | ⟨o0, o1, o2, o3, o4⟩ | ⟨o0, o1, o2, o3, o4, o5⟩ | ⟨o0, o1, o2, o3, o4, o5, o6⟩ | ⟨o0, o1, o2, o3, o4, o5, o6, o7⟩
          · have d0 : decide (i < 1) = true := by simp; omega
            go_wp2_with fail
            have BX := one_item wr (.int .i64 i) (.int .i64 f) (.int .i64 h) (.int .i64 g) 42
            generalize wr.alloc (.cells #[.int .i64 i, .int .i64 f, .int .i64 h, .int .i64 g] 42) = W0 at *
            obtain ⟨hs, x0, x1, x2, x3⟩ := BX
            (apply rg_region (by kernel_rfl) (by kernel_rfl); intro env)
            repeat (apply rg_det rfl; (intro W K hW _ hK; obtain ⟨hc, hf⟩ := bcell hW; go_simp; first | (rw [IntWalk.i64_in]; (exact hK _ (Below.refl _ _)); omega) | exact hK _ (Below.refl _ _)); rfl)
            (apply rg_done rfl; intro W hW hF)
            replace hW := bt hbox hW
            go_wp2_with fail
            go_ret
            exact ⟨ret_int HO.out.symm, hW⟩
          · have d0 : decide (i < 1) = false := by simp; omega
            have d1 : decide (99999 < i) = true := by simp; omega
            go_wp2_with fail
            have BX := one_item wr (.int .i64 i) (.int .i64 f) (.int .i64 h) (.int .i64 g) 42
            generalize wr.alloc (.cells #[.int .i64 i, .int .i64 f, .int .i64 h, .int .i64 g] 42) = W0 at *
            obtain ⟨hs, x0, x1, x2, x3⟩ := BX
            (apply rg_region (by kernel_rfl) (by kernel_rfl); intro env)
            repeat (apply rg_det rfl; (intro W K hW _ hK; obtain ⟨hc, hf⟩ := bcell hW; go_simp; first | (rw [IntWalk.i64_in]; (exact hK _ (Below.refl _ _)); omega) | exact hK _ (Below.refl _ _)); rfl)
            (apply rg_done rfl; intro W hW hF)
            replace hW := bt hbox hW
            go_wp2_with fail
            go_ret
            exact ⟨ret_int HO.out.symm, hW⟩
          · have d0 : decide (i < 1) = false := by simp; omega
            have d1 : decide (99999 < i) = false := by simp; omega
            have d2 : decide (f < 0) = true := by simp; omega
            go_wp2_with fail
            have BX := one_item wr (.int .i64 i) (.int .i64 f) (.int .i64 h) (.int .i64 g) 42
            generalize wr.alloc (.cells #[.int .i64 i, .int .i64 f, .int .i64 h, .int .i64 g] 42) = W0 at *
            obtain ⟨hs, x0, x1, x2, x3⟩ := BX
            (apply rg_region (by kernel_rfl) (by kernel_rfl); intro env)
            repeat (apply rg_det rfl; (intro W K hW _ hK; obtain ⟨hc, hf⟩ := bcell hW; go_simp; first | (rw [IntWalk.i64_in]; (exact hK _ (Below.refl _ _)); omega) | exact hK _ (Below.refl _ _)); rfl)
            (apply rg_done rfl; intro W hW hF)
            replace hW := bt hbox hW
            go_wp2_with fail
            go_ret
            exact ⟨ret_int HO.out.symm, hW⟩
          · have d0 : decide (i < 1) = false := by simp; omega
            have d1 : decide (99999 < i) = false := by simp; omega
            have d2 : decide (f < 0) = false := by simp; omega
            have d3 : decide (h < 0) = true := by simp; omega
            go_wp2_with fail
            have BX := one_item wr (.int .i64 i) (.int .i64 f) (.int .i64 h) (.int .i64 g) 42
            generalize wr.alloc (.cells #[.int .i64 i, .int .i64 f, .int .i64 h, .int .i64 g] 42) = W0 at *
            obtain ⟨hs, x0, x1, x2, x3⟩ := BX
            (apply rg_region (by kernel_rfl) (by kernel_rfl); intro env)
            repeat (apply rg_det rfl; (intro W K hW _ hK; obtain ⟨hc, hf⟩ := bcell hW; go_simp; first | (rw [IntWalk.i64_in]; (exact hK _ (Below.refl _ _)); omega) | exact hK _ (Below.refl _ _)); rfl)
            (apply rg_done rfl; intro W hW hF)
            replace hW := bt hbox hW
            go_wp2_with fail
            go_ret
            exact ⟨ret_int HO.out.symm, hW⟩
          · have d0 : decide (i < 1) = false := by simp; omega
            have d1 : decide (99999 < i) = false := by simp; omega
            have d2 : decide (f < 0) = false := by simp; omega
            have d3 : decide (h < 0) = false := by simp; omega
            have d4 : decide (g < 0) = true := by simp; omega
            go_wp2_with fail
            have BX := one_item wr (.int .i64 i) (.int .i64 f) (.int .i64 h) (.int .i64 g) 42
            generalize wr.alloc (.cells #[.int .i64 i, .int .i64 f, .int .i64 h, .int .i64 g] 42) = W0 at *
            obtain ⟨hs, x0, x1, x2, x3⟩ := BX
            (apply rg_region (by kernel_rfl) (by kernel_rfl); intro env)
            repeat (apply rg_det rfl; (intro W K hW _ hK; obtain ⟨hc, hf⟩ := bcell hW; go_simp; first | (rw [IntWalk.i64_in]; (exact hK _ (Below.refl _ _)); omega) | exact hK _ (Below.refl _ _)); rfl)
            (apply rg_done rfl; intro W hW hF)
            replace hW := bt hbox hW
            go_wp2_with fail
            go_ret
            exact ⟨ret_int HO.out.symm, hW⟩
          · have d0 : decide (i < 1) = false := by simp; omega
            have d1 : decide (99999 < i) = false := by simp; omega
            have d2 : decide (f < 0) = false := by simp; omega
            have d3 : decide (h < 0) = false := by simp; omega
            have d4 : decide (g < 0) = false := by simp; omega
            have d5 : decide (1000000 < f) = true := by simp; omega
            go_wp2_with fail
            have BX := one_item wr (.int .i64 i) (.int .i64 f) (.int .i64 h) (.int .i64 g) 42
            generalize wr.alloc (.cells #[.int .i64 i, .int .i64 f, .int .i64 h, .int .i64 g] 42) = W0 at *
            obtain ⟨hs, x0, x1, x2, x3⟩ := BX
            (apply rg_region (by kernel_rfl) (by kernel_rfl); intro env)
            repeat (apply rg_det rfl; (intro W K hW _ hK; obtain ⟨hc, hf⟩ := bcell hW; go_simp; first | (rw [IntWalk.i64_in]; (exact hK _ (Below.refl _ _)); omega) | exact hK _ (Below.refl _ _)); rfl)
            (apply rg_done rfl; intro W hW hF)
            replace hW := bt hbox hW
            go_wp2_with fail
            go_ret
            exact ⟨ret_int HO.out.symm, hW⟩
          · have d0 : decide (i < 1) = false := by simp; omega
            have d1 : decide (99999 < i) = false := by simp; omega
            have d2 : decide (f < 0) = false := by simp; omega
            have d3 : decide (h < 0) = false := by simp; omega
            have d4 : decide (g < 0) = false := by simp; omega
            have d5 : decide (1000000 < f) = false := by simp; omega
            have d6 : decide (1000000 - f < h) = true := by simp; omega
            go_wp2_with fail
            have BX := one_item wr (.int .i64 i) (.int .i64 f) (.int .i64 h) (.int .i64 g) 42
            generalize wr.alloc (.cells #[.int .i64 i, .int .i64 f, .int .i64 h, .int .i64 g] 42) = W0 at *
            obtain ⟨hs, x0, x1, x2, x3⟩ := BX
            (apply rg_region (by kernel_rfl) (by kernel_rfl); intro env)
            repeat (apply rg_det rfl; (intro W K hW _ hK; obtain ⟨hc, hf⟩ := bcell hW; go_simp; first | (rw [IntWalk.i64_in]; (exact hK _ (Below.refl _ _)); omega) | exact hK _ (Below.refl _ _)); rfl)
            (apply rg_done rfl; intro W hW hF)
            replace hW := bt hbox hW
            go_wp2_with fail
            go_ret
            exact ⟨ret_int HO.out.symm, hW⟩
          · have d0 : decide (i < 1) = false := by simp; omega
            have d1 : decide (99999 < i) = false := by simp; omega
            have d2 : decide (f < 0) = false := by simp; omega
            have d3 : decide (h < 0) = false := by simp; omega
            have d4 : decide (g < 0) = false := by simp; omega
            have d5 : decide (1000000 < f) = false := by simp; omega
            have d6 : decide (1000000 - f < h) = false := by simp; omega
            have d7 : decide (1000000 - f - h < g) = true := by simp; omega
            go_wp2_with fail
            have BX := one_item wr (.int .i64 i) (.int .i64 f) (.int .i64 h) (.int .i64 g) 42
            generalize wr.alloc (.cells #[.int .i64 i, .int .i64 f, .int .i64 h, .int .i64 g] 42) = W0 at *
            obtain ⟨hs, x0, x1, x2, x3⟩ := BX
            (apply rg_region (by kernel_rfl) (by kernel_rfl); intro env)
            repeat (apply rg_det rfl; (intro W K hW _ hK; obtain ⟨hc, hf⟩ := bcell hW; go_simp; first | (rw [IntWalk.i64_in]; (exact hK _ (Below.refl _ _)); omega) | exact hK _ (Below.refl _ _)); rfl)
            (apply rg_done rfl; intro W hW hF)
            replace hW := bt hbox hW
            go_wp2_with fail
            go_ret
            exact ⟨ret_int HO.out.symm, hW⟩
      · obtain rfl : k = xs.length := by omega
        have ho : okE xs = 0 := by
          have := HB.out
          rw [List.take_length] at this
          unfold okE ok; rw [this, if_pos]; simp; have := HD.out; omega
        have HO := Lib.hid ho
        clear ho
        go_wp2_with fail
        go_ret
        exact ⟨ret_int HO.out.symm, hbel⟩
end Go.Proofs.Ytfnmaemeofkagaa
