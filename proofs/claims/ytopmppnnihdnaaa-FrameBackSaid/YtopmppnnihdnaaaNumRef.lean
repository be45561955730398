/- Numbers as bytes: the contract of rubatoref05.Get. -/
import Derived.Test.YtopmppnnihdnaaaNumWalk
namespace Go.Proofs.Ytopmppnnihdnaaa
set_option linter.unusedVariables false
set_option linter.unusedSimpArgs false
open Go.ChangeShapes Go.WideShapes Go.ChangeAt Go.RowKit
open NumP
set_option maxRecDepth 100000
set_option maxHeartbeats 2000000 in
theorem get_ref (s : ByteArray) (p : Int) (w : World) (hs : s.size ≤ 1000000) :
    Calls Try.prog 27 #[.string s, .int .i64 p] w fun e w' => e = .returned (.tuple #[.int .i64 (getN (bl s) p).1, .int .i64 (getN (bl s) p).2.1, .int .i64 (getN (bl s) p).2.2]) ∧ w = w' := by
  have hl := bl_len s
  by_cases h1 : p < 0 ∨ (s.size : Int) < p
  · have hg : getN (bl s) p = (0, 0, 2) := by unfold getN; rw [if_pos (by rw [hl]; exact h1)]
    rw [hg]
    rcases h1 with h1 | h1
    · go_enter Try.func27, Try.ntmps27
      go_wp2_with fail
      go_ret3
      exact ⟨rfl, rfl⟩
    · go_enter Try.func27, Try.ntmps27
      go_wp2_with fail
      all_goals
        go_ret3
        exact ⟨rfl, rfl⟩
  · obtain ⟨q, rfl⟩ := Int.eq_ofNat_of_zero_le (show 0 ≤ p by omega)
    by_cases h2 : q = s.size
    · subst h2
      have hg : getN (bl s) s.size = (0, 0, 4) := by unfold getN; rw [if_neg (by rw [hl]; omega), if_pos (by rw [hl])]
      rw [hg]
      clear h1
      go_enter Try.func27, Try.ntmps27
      go_wp2_with fail
      go_ret3
      exact ⟨rfl, rfl⟩
    · have hq : q < s.size := by omega
      have hne : ((q : Int) == (s.size : Int)) = false := by rw [beq_eq_false_iff_ne]; omega
      have hgd := bl_getD s q hq
      obtain ⟨c, hc⟩ : ∃ c, s[q].toNat = c := ⟨_, rfl⟩
      have hb : (c : Int) ≤ 255 := by have := byte_bd s[q]; omega
      by_cases h3 : c < 128
      · have hg : getN (bl s) q = ((c : Int), (q : Int) + 1, 0) := by
          unfold getN; rw [if_neg (by rw [hl]; omega), if_neg (by rw [hl]; omega)]
          simp only [Int.toNat_natCast, hgd, hc]; rw [if_pos h3]
        rw [hg]
        have h3i : (c : Int) < 128 := by omega
        clear hg hgd hl h3
        go_enter Try.func27, Try.ntmps27
        go_wp2_with fail
        go_ret3
        exact ⟨rfl, rfl⟩
      · by_cases h4 : c < 129 ∨ 136 < c
        · have hg : getN (bl s) q = (0, 0, 5) := by
            unfold getN; rw [if_neg (by rw [hl]; omega), if_neg (by rw [hl]; omega)]
            simp only [Int.toNat_natCast, hgd, hc]; rw [if_neg h3, if_pos (by omega)]
          rw [hg]
          clear hg hgd hl
          rcases h4 with h4 | h4
          · have h4b : ((c : Int) == 128) = true := by rw [beq_iff_eq]; omega
            go_enter Try.func27, Try.ntmps27
            go_wp2_with fail
            go_ret3
            exact ⟨rfl, rfl⟩
          · have h4b : ((c : Int) == 128) = false := by rw [beq_eq_false_iff_ne]; omega
            go_enter Try.func27, Try.ntmps27
            go_wp2_with fail
            go_ret3
            exact ⟨rfl, rfl⟩
        · obtain ⟨m, rfl⟩ : ∃ m, c = 128 + m := ⟨c - 128, by omega⟩
          have h4b : ((128 : Int) + (m : Int) == 128) = false := by rw [beq_eq_false_iff_ne]; omega
          by_cases h5 : s.size < q + 1 + m
          · have hg : getN (bl s) q = (0, 0, 4) := by
              unfold getN; rw [if_neg (by rw [hl]; omega), if_neg (by rw [hl]; omega)]
              simp only [Int.toNat_natCast, hgd, hc]; rw [if_neg h3, if_neg (by omega), if_pos (by rw [hl]; omega)]
            rw [hg]
            clear hg hgd hl
            go_enter Try.func27, Try.ntmps27
            go_wp2_with fail
            go_ret3
            exact ⟨rfl, rfl⟩
          · have hsz : q + 1 + m ≤ s.size := by omega
            have hq1 : q + 1 < s.size := by omega
            clear h5
            have hmk : ∀ k, (hk : k < m) → ((bl s).drop (q + 1)).take (k + 1) = ((bl s).drop (q + 1)).take k ++ [s[q + 1 + k]'(Nat.lt_of_lt_of_le (Nat.add_lt_add_left hk (q + 1)) hsz)] := by
              intro k hk
              have hgk := bl_get s (q + 1 + k) (by omega)
              rw [List.take_add_one, List.getElem?_drop, hgk]; rfl
            have hg0 : getN (bl s) q = if (greatN (((bl s).drop (q + 1)).take m)).2 ≠ 0 then (0, 0, (greatN (((bl s).drop (q + 1)).take m)).2) else ((greatN (((bl s).drop (q + 1)).take m)).1, (q : Int) + 1 + m, 0) := by
              unfold getN; rw [if_neg (by rw [hl]; omega), if_neg (by rw [hl]; omega)]
              simp only [Int.toNat_natCast, hgd, hc]; rw [if_neg h3, if_neg (by omega), if_neg (by rw [hl]; omega)]
              simp only [show 128 + m - 128 = m by omega]
            have hhead : ∃ l, ((bl s).drop (q + 1)).take m = s[q + 1] :: l ∧ l.length + 1 = m := by
              obtain ⟨k, rfl⟩ : ∃ k, m = k + 1 := ⟨m - 1, by omega⟩
              have hlen : (((bl s).drop (q + 1)).take (k + 1)).length = k + 1 := by rw [List.length_take, List.length_drop, hl]; omega
              cases hc2 : ((bl s).drop (q + 1)).take (k + 1) with
              | nil => rw [hc2] at hlen; simp at hlen
              | cons x l =>
                have h0 : (((bl s).drop (q + 1)).take (k + 1))[0]? = some s[q + 1] := by
                  rw [List.getElem?_take, if_pos (by omega), List.getElem?_drop]; exact bl_get s (q + 1) hq1
                rw [hc2] at h0 hlen
                simp at h0 hlen
                exact ⟨l, by rw [h0], by omega⟩
            obtain ⟨l, hM, hlm⟩ := hhead
            have hgr := great_ref s[q + 1] l (by omega)
            rw [hM] at hg0
            rw [hgr] at hg0
            obtain ⟨d, hd⟩ : ∃ d, s[q + 1].toNat = d := ⟨_, rfl⟩
            have hdb : (d : Int) ≤ 255 := by have := byte_bd s[q + 1]; omega
            have hd0 : s[q + 1] = 0 ↔ d = 0 := by
              rw [← hd]; constructor
              · intro h; rw [h]; rfl
              · intro h; exact UInt8.toNat_inj.1 (by simpa using h)
            simp only [hd, hd0] at hg0
            have HMK := Lib.hid hmk
            clear hmk hgr hd0 hgd
            by_cases h6 : d = 0 ∨ (l.length = 0 ∧ d < 128)
            · have hg : getN (bl s) q = (0, 0, 5) := by rw [hg0, if_pos h6]; rfl
              rw [hg]
              clear hg hg0 hM
              rcases h6 with h6 | ⟨h6, h7⟩
              · subst h6
                go_enter Try.func27, Try.ntmps27
                go_wp2_with fail
                go_ret3
                exact ⟨rfl, rfl⟩
              · obtain rfl : m = 1 := by omega
                by_cases hd00 : d = 0
                · subst hd00
                  go_enter Try.func27, Try.ntmps27
                  go_wp2_with fail
                  go_ret3
                  exact ⟨rfl, rfl⟩
                · have hdd : ((d : Int) == 0) = false := by rw [beq_eq_false_iff_ne]; omega
                  go_enter Try.func27, Try.ntmps27
                  go_wp2_with fail
                  go_ret3
                  exact ⟨rfl, rfl⟩
            · have hdd : ((d : Int) == 0) = false := by rw [beq_eq_false_iff_ne]; omega
              by_cases h8 : l.length = 7 ∧ 127 < d
              · have hg : getN (bl s) q = (0, 0, 3) := by rw [hg0, if_neg h6, if_pos h8]; rfl
                rw [hg]
                clear hg hg0 hM
                obtain ⟨h8, h9⟩ := h8
                obtain rfl : m = 8 := by omega
                go_enter Try.func27, Try.ntmps27
                go_wp2_with fail
                go_ret3
                exact ⟨rfl, rfl⟩
              · have hg : getN (bl s) q = (((val (s[q + 1] :: l) : Nat) : Int), (q : Int) + 1 + m, 0) := by rw [hg0, if_neg h6, if_neg h8]; rfl
                have HG := Lib.hid hg
                have hm8 : m = 8 → (d : Int) ≤ 127 := by intro h; omega
                have hm1 : m = 1 → (128 : Int) ≤ (d : Int) := by
                  intro h
                  have : ¬ d < 128 := fun h9 => h6 (.inr ⟨by omega, h9⟩)
                  omega
                have hvb : val (s[q + 1] :: l) ≤ 9223372036854775807 := by
                  have hvc := val_cons s[q + 1] l
                  have h9 := val_lt l
                  rw [hd] at hvc
                  by_cases h10 : l.length = 7
                  · have hd7 : d ≤ 127 := by omega
                    rw [h10] at h9 hvc; simp at h9 hvc; omega
                  · have h7 : 256 ^ l.length ≤ 256 ^ 6 := Nat.pow_le_pow_right (by omega) (by omega)
                    have h2 := Nat.mul_le_mul_right (256 ^ l.length) (show d ≤ 255 by omega)
                    omega
                have hvk : ∀ k, val (((bl s).drop (q + 1)).take k) ≤ val (s[q + 1] :: l) ∨ ¬ k ≤ m := by
                  intro k
                  by_cases hk : k ≤ m
                  · left
                    have := val_take_le (((bl s).drop (q + 1)).take m) k
                    rw [List.take_take, Nat.min_eq_left hk, hM] at this
                    exact this
                  · right; exact hk
                have HVK := Lib.hid hvk
                have HVB := Lib.hid hvb
                have HM := Lib.hid hM
                have h1m : 1 ≤ m := by omega
                have hm8' : m ≤ 8 := by omega
                clear hg hg0 hM hvk hvb h8 h6 h4 hl h1 hlm
                have hA : ((128 : Int) + (m : Int) == 129) = true ∧ (128 : Int) ≤ (d : Int) ∨ ((128 : Int) + (m : Int) == 129) = false := by
                  by_cases h : m = 1
                  · left; exact ⟨by rw [beq_iff_eq]; omega, hm1 h⟩
                  · right; rw [beq_eq_false_iff_ne]; omega
                have hB : ((128 : Int) + (m : Int) == 136) = true ∧ (d : Int) ≤ 127 ∨ ((128 : Int) + (m : Int) == 136) = false := by
                  by_cases h : m = 8
                  · left; exact ⟨by rw [beq_iff_eq]; omega, hm8 h⟩
                  · right; rw [beq_eq_false_iff_ne]; omega
                clear hm8 hm1
                have hqs : decide (s.size < q) = false := by simp; omega
                rcases hA with ⟨hA, hA2⟩ | hA <;> rcases hB with ⟨hB, hB2⟩ | hB
                all_goals first
                  | (exfalso; simp only [beq_iff_eq] at hA hB; omega)
                  | skip
                all_goals
                  go_enter Try.func27, Try.ntmps27
                  go_wp2_with fail
                  clear hA hB h4b
                  go_loop [9, 10] (fun v9 v10 => ∃ k : Nat, k ≤ m ∧ v10 = .int .i64 ((q + 1 + k : Nat) : Int) ∧ v9 = .int .i64 ((val (((bl s).drop (q + 1)).take k) : Nat) : Int)) (fun _ v10 => q + 1 + m - (intOf v10).toNat)
                  case atStart => exact ⟨0, by omega, by go_num, rfl⟩
                  case round =>
                    obtain ⟨k, hk, rfl, rfl⟩ := hrel
                    by_cases hlt : k < m
                    · have hst := HMK.out k hlt
                      have hvs : 256 * (val (((bl s).drop (q + 1)).take k) : Int) + ((s[q + 1 + k]'(Nat.lt_of_lt_of_le (Nat.add_lt_add_left hlt (q + 1)) hsz)).toNat : Int) = ((val (((bl s).drop (q + 1)).take (k + 1)) : Nat) : Int) := by
                        rw [hst, val_snoc]; omega
                      have hv1 : ((val (((bl s).drop (q + 1)).take (k + 1)) : Nat) : Int) ≤ 9223372036854775807 := by
                        have h1 := HVK.out (k + 1)
                        have h2 := HVB.out
                        omega
                      have hv0 : 256 * ((val (((bl s).drop (q + 1)).take k) : Nat) : Int) ≤ 9223372036854775807 := by omega
                      generalize hv' : val (((bl s).drop (q + 1)).take (k + 1)) = v' at hvs hv1
                      have HV := Lib.hid hv'
                      generalize val (((bl s).drop (q + 1)).take k) = v at hvs hv0 ⊢
                      clear hv' hst
                      go_wp2_with fail
                      go_round
                      case rel => exact ⟨k + 1, by omega, by go_num, by rw [HV.out]⟩
                      case measure => simp [intOf]; omega
                    · obtain rfl : k = m := by omega
                      go_wp2_with fail
                      go_ret3
                      exact ⟨ret_giii (HG.out.trans (by rw [← HM.out]; simp only [Prod.mk.injEq, true_and, and_true]; omega)), rfl⟩
end Go.Proofs.Ytopmppnnihdnaaa
