/- Two slices, the same or not: the reference's way. -/
import Derived.Test.YtfnmaemeofkagaaBasketWalk
import Derived.Test.YtfnmaemeofkagaaStockSame
namespace Go.Proofs.Ytfnmaemeofkagaa
open Go.ChangeShapes Go.WideShapes Go.ChangeAt Go.RowKit
open StockP
set_option maxRecDepth 100000
def sameLn (xs ys : List Ln) : Bool := decide (xs = ys)
theorem sameLn_len {xs ys : List Ln} (h : xs.length ≠ ys.length) : sameLn xs ys = false := by
  unfold sameLn; rw [decide_eq_false]; intro e; exact h (by rw [e])
set_option maxHeartbeats 1000000 in
theorem sameLn_any (a b : Option Addr) (c d : Nat) (xs ys : List Ln) (w : World) (hx : Reads encL 2 w a xs) (hy : Reads encL 2 w b ys) (hx0 : xs.length ≤ maxLen) :
    Calls Try.prog 15 #[.slice a xs.length c, .slice b ys.length d] w fun e w' => e = .returned (.bool (sameLn xs ys)) ∧ Below w.heap.size w w' := by
  unfold maxLen at hx0
  by_cases hl : xs.length = ys.length
  · have hlb : ((xs.length : Int) == (ys.length : Int)) = true := by rw [beq_iff_eq]; omega
    have HX := Lib.hid hx
    have HY := Lib.hid hy
    have HL := Lib.hid hl
    clear hx hy
    go_enter Try.func15, Try.ntmps15
    go_wp2_with fail
    clear hl
    go_loopw [5] (fun v5 wr => ∃ (k : Nat), k ≤ xs.length ∧ v5 = .int .i64 k ∧ xs.take k = ys.take k ∧ Below w.heap.size w wr) (fun v5 _ => xs.length - (intOf v5).toNat)
    case atStart => exact ⟨0, by omega, rfl, rfl, Below.refl _ _⟩
    case round =>
      obtain ⟨k, hk, rfl, hs, hbel⟩ := hrel
      have HS := Lib.hid hs
      clear hs
      by_cases hlt : k < xs.length
      · have hky : k < ys.length := by have := HL.out; omega
        obtain ⟨b1, o1, rfl, _, p0, p1⟩ := (HX.out.below hbel).line k hlt
        obtain ⟨b2, o2, rfl, _, q0, q1⟩ := (HY.out.below hbel).line k hky
        have HTX := Lib.hid (List.take_succ_eq_append_getElem hlt)
        have HTY := Lib.hid (List.take_succ_eq_append_getElem hky)
        generalize hxk : xs[k] = x at p0 p1 HTX
        generalize hyk : ys[k] = y at q0 q1 HTY
        have HXK := Lib.hid hxk
        have HYK := Lib.hid hyk
        clear hxk hyk
        by_cases hxy : x = y
        · subst hxy
          obtain ⟨x0, x1⟩ := x
          simp only at p0 p1 q0 q1
          go_wp2_with fail
          go_quiet (fail)
          go_wp2_with fail
          exact ⟨⟨k + 1, by omega, by go_num, by rw [HTX.out, HTY.out, HS.out], bdrewN hbel⟩, by simp [intOf]; omega⟩
        · have hno : sameLn xs ys = false := by
            unfold sameLn; rw [decide_eq_false]; intro e; apply hxy
            rw [← HXK.out, ← HYK.out]; simp only [e]
          have HNO := Lib.hid hno
          obtain ⟨x0, x1⟩ := x
          obtain ⟨y0, y1⟩ := y
          simp only at p0 p1 q0 q1
          have hne : (x0 ≠ y0) ∨ (x0 = y0 ∧ x1 ≠ y1) := by
            have hne2 : ¬ (x0 = y0 ∧ x1 = y1) := by
              intro h; apply hxy; simp only [h]
            omega
          clear hno hxy
          rcases hne with hn | ⟨rfl, hn⟩
          · have hb0 : (x0 == y0) = false := by simpa using hn
            have hc0 : ¬ x0 = y0 := hn
            clear hn
            go_wp2_with fail
            go_quiet (fail)
            go_wp2_with fail
            go_ret
            exact ⟨ret_bool HNO.out.symm, bdrewN hbel⟩
          · have hb1 : (x1 == y1) = false := by simpa using hn
            have hc1 : ¬ x1 = y1 := hn
            clear hn
            go_wp2_with fail
            go_quiet (fail)
            go_wp2_with fail
            go_ret
            exact ⟨ret_bool HNO.out.symm, bdrewN hbel⟩
      · obtain rfl : k = xs.length := by omega
        have hyes : sameLn xs ys = true := by
          unfold sameLn; rw [decide_eq_true_iff]
          have := HS.out
          rw [List.take_length, HL.out, List.take_length] at this; exact this
        have HY := Lib.hid hyes
        clear hyes
        go_wp2_with fail
        go_ret
        exact ⟨ret_bool HY.out.symm, hbel⟩
  · rw [sameLn_len hl]
    have hlb : ((xs.length : Int) == (ys.length : Int)) = false := by rw [beq_eq_false_iff_ne]; omega
    clear hl
    go_enter Try.func15, Try.ntmps15
    go_wp2_with fail
    go_ret
    exact ⟨rfl, Below.refl _ _⟩
end Go.Proofs.Ytfnmaemeofkagaa
