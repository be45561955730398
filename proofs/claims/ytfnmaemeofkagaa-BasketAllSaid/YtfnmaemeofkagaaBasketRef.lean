/- The basket: the reference's Check, Total. -/
import Derived.Test.YtfnmaemeofkagaaBasketAll
import Derived.Test.YtfnmaemeofkagaaStockRef4
import Derived.Test.YtfnmaemeofkagaaBasketSame
namespace Go.Proofs.Ytfnmaemeofkagaa
open Go.ChangeShapes Go.WideShapes Go.ChangeAt Go.RowKit
open StockP
set_option maxRecDepth 100000
theorem lastL_take (xs : List Ln) (k : Nat) (h1 : 1 ≤ k) (h2 : k ≤ xs.length) : lastL 0 (xs.take k) = (xs[k - 1]'(by omega)).item := by
  obtain ⟨j, rfl⟩ : ∃ j, k = j + 1 := ⟨k - 1, by omega⟩
  rw [List.take_succ_eq_append_getElem (by omega), lastL_snoc]
  rfl
theorem prevL_pos (xs : List Ln) (k : Nat) (h1 : 1 ≤ k) (h2 : k ≤ xs.length) (h : okLFrom 0 (xs.take k) = true) : 1 ≤ (xs[k - 1]'(by omega)).item := by
  have hk : k - 1 < xs.length := by omega
  have hk2 : k - 1 < (xs.take k).length := by rw [List.length_take]; omega
  have e : (xs.take k)[k - 1]'hk2 = xs[k - 1]'hk := by simp
  have hm : xs[k - 1]'hk ∈ xs.take k := by rw [← e]; exact List.getElem_mem _
  have := okLFrom_mem h _ hm
  omega
set_option maxHeartbeats 8000000 in
theorem checkLR_any (a : Option Addr) (cap : Nat) (xs : List Ln) (w : World) (hr : Reads encL 2 w a xs) (hl : xs.length ≤ maxLen) :
    Calls Try.prog 12 #[.slice a xs.length cap] w fun e w' => e = .returned (.int .i64 (okLE xs)) ∧ Below w.heap.size w w' := by
  unfold maxLen at hl
  by_cases h0 : xs.length = 0
  · have ho : okLE xs = 2 := by unfold okLE okL; rw [if_neg]; simp; intro h; omega
    rw [ho]
    have hd : ((xs.length : Int) == 0) = true := by rw [beq_iff_eq]; omega
    clear ho hr
    go_enter Try.func12, Try.ntmps12
    go_wp2_with fail
    all_goals first | (exfalso; omega) | (go_ret; exact ⟨rfl, Below.refl _ _⟩)
  · by_cases h5 : 5 < xs.length
    · have ho : okLE xs = 2 := by unfold okLE okL; rw [if_neg]; simp; intro h; omega
      rw [ho]
      have hd : ((xs.length : Int) == 0) = false := by rw [beq_eq_false_iff_ne]; omega
      clear ho hr
      go_enter Try.func12, Try.ntmps12
      go_wp2_with fail
      all_goals first | (exfalso; omega) | (go_ret; exact ⟨rfl, Below.refl _ _⟩)
    · have HR := Lib.hid hr
      have HD := Lib.hid (And.intro h0 h5)
      have hd : ((xs.length : Int) == 0) = false := by rw [beq_eq_false_iff_ne]; omega
      have hd2 : decide ((5 : Int) < (xs.length : Int)) = false := by simp; omega
      clear hr h0
      go_enter Try.func12, Try.ntmps12
      go_wp2_with fail
      go_loopw [3] (fun v3 wr => ∃ (k : Nat), k ≤ xs.length ∧ v3 = .int .i64 k ∧ okLFrom 0 (xs.take k) = true ∧ Below w.heap.size w wr) (fun v3 _ => xs.length - (intOf v3).toNat)
      case atStart => exact ⟨0, by omega, rfl, rfl, Below.refl _ _⟩
      case round =>
        obtain ⟨k, hk, rfl, hb, hbel⟩ := hrel
        have HB := Lib.hid hb
        clear hb
        by_cases hlt : k < xs.length
        · obtain ⟨b, off, rfl, hbl, c0, c1⟩ := (HR.out.below hbel).line k hlt
          have htk : xs.take (k + 1) = xs.take k ++ [xs[k]] := by simp
          have HS := Lib.hid ((congrArg (okLFrom 0) htk).trans (okLFrom_snoc (xs.take k) xs[k] 0))
          clear htk
          have HN : Hid (okLFrom 0 (xs.take (k + 1)) = false → okLE xs = 2) := by
            intro h; unfold okLE okL; rw [okLFrom_cut h]; simp
          generalize hx : xs[k] = x at c0 c1 HS
          clear hx
          obtain ⟨i, q⟩ := x
          simp only at c0 c1 HS
          by_cases hm : 1 ≤ i ∧ i ≤ 99999 ∧ 1 ≤ q ∧ q ≤ 1000000
          · obtain ⟨o0, o1, o2, o3⟩ := hm
            have d0 : decide (i < 1) = false := by simp; omega
            have d1 : decide (99999 < i) = false := by simp; omega
            have d2 : decide (q < 1) = false := by simp; omega
            have d3 : decide (1000000 < q) = false := by simp; omega
            by_cases hk0 : k = 0
            · have hok1 : okLFrom 0 (xs.take (k + 1)) = true := by
                rw [HS.out, HB.out]
                rw [hk0]; simp [lastL]; omega
              have hkd : decide (0 < k) = false := by simp; omega
              have HK1 := Lib.hid hok1
              clear hok1 HN HS hk0
              go_wp2_with fail
              (apply rg_region (by kernel_rfl) (by kernel_rfl); intro env)
              repeat (apply rg_det rfl; (intro W K hW _ hK; obtain ⟨hc, hf⟩ := bcell hW; go_simp; first | (rw [IntWalk.i64_in]; (exact hK _ (Below.refl _ _)); omega) | exact hK _ (Below.refl _ _)); rfl)
              (apply rg_done rfl; intro W hW hF)
              replace hW := bt hbel hW
              go_wp2_with fail
              exact ⟨⟨k + 1, by omega, by go_num, HK1.out, hW⟩, by simp [intOf]; omega⟩
            · have hkk : k - 1 < xs.length := by omega
              obtain ⟨b2, off2, he2, _, p0, _⟩ := (HR.out.below hbel).line (k - 1) hkk
              obtain ⟨rfl, rfl⟩ : b2 = b ∧ off2 = off := by injection he2 with he2; injection he2 with h1 h2; exact ⟨h1.symm, h2.symm⟩
              clear he2
              have hla : lastL 0 (xs.take k) = xs[k - 1].item := lastL_take xs k (by omega) hk
              rw [hla] at HS
              generalize xs[k - 1].item = y at p0 HS
              clear hla
              have hkd : decide (0 < k) = true := by simp; omega
              have hk1 : 1 ≤ k := by omega
              clear hk0
              have q1 : IntKind.i64.wrap ((k : Int) - 1) = (k : Int) - 1 := IntWalk.i64_in _ (by omega)
              have q2 : (0 : Int) ≤ (k : Int) - 1 := by omega
              have q3 : ((k : Int) - 1).toNat = k - 1 := by omega
              have q4 : (k : Int) - 1 < (xs.length : Int) := by omega
              have q5 : (1 : Int) ≤ (k : Int) := by omega
              by_cases hyi : y < i
              · have hok1 : okLFrom 0 (xs.take (k + 1)) = true := by
                  rw [HS.out, HB.out]; simp; omega
                have HK1 := Lib.hid hok1
                clear hok1 HN HS
                have hyd : decide (i ≤ y) = false := by simp; omega
                go_wp2_with fail
                (apply rg_region (by kernel_rfl) (by kernel_rfl); intro env)
                repeat (apply rg_det rfl; (intro W K hW _ hK; obtain ⟨hc, hf⟩ := bcell hW; go_simp; first | (rw [IntWalk.i64_in]; (exact hK _ (Below.refl _ _)); omega) | exact hK _ (Below.refl _ _)); rfl)
                (apply rg_done rfl; intro W hW hF)
                clear q1 q2 q3 q4 q5
                replace hW := bt hbel hW
                go_wp2_with fail
                exact ⟨⟨k + 1, by omega, by go_num, HK1.out, hW⟩, by simp [intOf]; omega⟩
              · have HO : Hid (okLE xs = 2) := HN.out (by rw [HS.out]; simp; intro _ h; omega)
                clear HN HS
                have hyd : decide (i ≤ y) = true := by simp; omega
                go_wp2_with fail
                (apply rg_region (by kernel_rfl) (by kernel_rfl); intro env)
                repeat (apply rg_det rfl; (intro W K hW _ hK; obtain ⟨hc, hf⟩ := bcell hW; go_simp; first | (rw [IntWalk.i64_in]; (exact hK _ (Below.refl _ _)); omega) | exact hK _ (Below.refl _ _)); rfl)
                (apply rg_done rfl; intro W hW hF)
                clear q1 q2 q3 q4 q5
                replace hW := bt hbel hW
                go_wp2_with fail
                go_ret
                exact ⟨ret_int HO.out.symm, hW⟩
          · have HO : Hid (okLE xs = 2) := HN.out (by
              rw [HS.out, HB.out]
              by_cases hk0 : k = 0
              · rw [hk0]; simp [lastL]; omega
              · have hp := prevL_pos xs k (by omega) hk HB.out
                rw [lastL_take xs k (by omega) hk]
                simp; omega)
            have hpaths : (i < 1) ∨ (1 ≤ i ∧ 99999 < i) ∨ (1 ≤ i ∧ i ≤ 99999 ∧ q < 1) ∨ (1 ≤ i ∧ i ≤ 99999 ∧ 1 ≤ q ∧ 1000000 < q) := by omega
            clear hm HN HS
            rcases hpaths with o0 | ⟨o0, o1⟩ | ⟨o0, o1, o2⟩ | ⟨o0, o1, o2, o3⟩
            · have d0 : decide (i < 1) = true := by simp; omega
              go_wp2_with fail
              (apply rg_region (by kernel_rfl) (by kernel_rfl); intro env)
              repeat (apply rg_det rfl; (intro W K hW _ hK; obtain ⟨hc, hf⟩ := bcell hW; go_simp; first | (rw [IntWalk.i64_in]; (exact hK _ (Below.refl _ _)); omega) | exact hK _ (Below.refl _ _)); rfl)
              (apply rg_done rfl; intro W hW hF)
              replace hW := bt hbel hW
              go_wp2_with fail
              go_ret
              exact ⟨ret_int HO.out.symm, hW⟩
            · have d0 : decide (i < 1) = false := by simp; omega
              have d1 : decide (99999 < i) = true := by simp; omega
              go_wp2_with fail
              (apply rg_region (by kernel_rfl) (by kernel_rfl); intro env)
              repeat (apply rg_det rfl; (intro W K hW _ hK; obtain ⟨hc, hf⟩ := bcell hW; go_simp; first | (rw [IntWalk.i64_in]; (exact hK _ (Below.refl _ _)); omega) | exact hK _ (Below.refl _ _)); rfl)
              (apply rg_done rfl; intro W hW hF)
              replace hW := bt hbel hW
              go_wp2_with fail
              go_ret
              exact ⟨ret_int HO.out.symm, hW⟩
            · have d0 : decide (i < 1) = false := by simp; omega
              have d1 : decide (99999 < i) = false := by simp; omega
              have d2 : decide (q < 1) = true := by simp; omega
              go_wp2_with fail
              (apply rg_region (by kernel_rfl) (by kernel_rfl); intro env)
              repeat (apply rg_det rfl; (intro W K hW _ hK; obtain ⟨hc, hf⟩ := bcell hW; go_simp; first | (rw [IntWalk.i64_in]; (exact hK _ (Below.refl _ _)); omega) | exact hK _ (Below.refl _ _)); rfl)
              (apply rg_done rfl; intro W hW hF)
              replace hW := bt hbel hW
              go_wp2_with fail
              go_ret
              exact ⟨ret_int HO.out.symm, hW⟩
            · have d0 : decide (i < 1) = false := by simp; omega
              have d1 : decide (99999 < i) = false := by simp; omega
              have d2 : decide (q < 1) = false := by simp; omega
              have d3 : decide (1000000 < q) = true := by simp; omega
              go_wp2_with fail
              (apply rg_region (by kernel_rfl) (by kernel_rfl); intro env)
              repeat (apply rg_det rfl; (intro W K hW _ hK; obtain ⟨hc, hf⟩ := bcell hW; go_simp; first | (rw [IntWalk.i64_in]; (exact hK _ (Below.refl _ _)); omega) | exact hK _ (Below.refl _ _)); rfl)
              (apply rg_done rfl; intro W hW hF)
              replace hW := bt hbel hW
              go_wp2_with fail
              go_ret
              exact ⟨ret_int HO.out.symm, hW⟩
        · obtain rfl : k = xs.length := by omega
          have ho : okLE xs = 0 := by
            have := HB.out
            rw [List.take_length] at this
            unfold okLE okL; rw [this, if_pos]; simp; have := HD.out; omega
          have HO := Lib.hid ho
          clear ho
          go_wp2_with fail
          go_ret
          exact ⟨ret_int HO.out.symm, hbel⟩
end Go.Proofs.Ytfnmaemeofkagaa
