/- rubatoref01.SameInts. -/
import Derived.Test.YtlehejnhnfdgoaaBase
namespace Go.Proofs.Ytlehejnhnfdgoaa
open Go.ChangeShapes Go.WideShapes Go.ChangeAt Go.RowKit
set_option maxRecDepth 100000
theorem bdrewN {B : Nat} {w w2 : World} {n : Nat} (h : Below B w w2) : Below B w (w2.drewN n) := ⟨h.os, h.tape, h.output, h.size, h.block⟩
def sameInts (xs ys : List Int) : Bool := decide (xs = ys)
theorem sameInts_len {xs ys : List Int} (h : xs.length ≠ ys.length) : sameInts xs ys = false := by
  unfold sameInts; rw [decide_eq_false]; intro e; exact h (by rw [e])
set_option maxHeartbeats 1000000 in
theorem sameInts_any (a b : Option Addr) (c d : Nat) (xs ys : List Int) (w : World) (hx : Reads encI 1 w a xs) (hy : Reads encI 1 w b ys) (hx0 : xs.length ≤ maxLen) :
    Calls Try.prog 17 #[.slice a xs.length c, .slice b ys.length d] w fun e w' => e = .returned (.bool (sameInts xs ys)) ∧ Below w.heap.size w w' := by
  unfold maxLen at hx0
  by_cases hl : xs.length = ys.length
  · have hlb : ((xs.length : Int) == (ys.length : Int)) = true := by rw [beq_iff_eq]; omega
    have HX := Lib.hid hx
    have HY := Lib.hid hy
    have HL := Lib.hid hl
    clear hx hy
    go_enter Try.func17, Try.ntmps17
    go_wp2_with fail
    clear hl
    go_loopw [5] (fun v5 wr => ∃ (k : Nat), k ≤ xs.length ∧ v5 = .int .i64 k ∧ xs.take k = ys.take k ∧ Below w.heap.size w wr) (fun v5 _ => xs.length - (intOf v5).toNat)
    case atStart => exact ⟨0, by omega, rfl, rfl, Below.refl _ _⟩
    case round =>
      obtain ⟨k, hk, rfl, hs, hbel⟩ := hrel
      have HS := Lib.hid hs
      clear hs
      by_cases hlt : k < xs.length
      · have hky : k < ys.length := by have := HL.out; omega
        obtain ⟨b1, o1, rfl, _, hc1⟩ := (HX.out.below hbel).int k hlt
        obtain ⟨b2, o2, rfl, _, hc2⟩ := (HY.out.below hbel).int k hky
        have HTX := Lib.hid (List.take_succ_eq_append_getElem hlt)
        have HTY := Lib.hid (List.take_succ_eq_append_getElem hky)
        generalize hxk : xs[k] = x at hc1 HTX
        generalize hyk : ys[k] = y at hc2 HTY
        have HXK := Lib.hid hxk
        have HYK := Lib.hid hyk
        clear hxk hyk
        by_cases hxy : x = y
        · subst hxy
          go_wp2_with fail
          go_quiet (fail)
          go_wp2_with fail
          exact ⟨⟨k + 1, by omega, by go_num, by rw [HTX.out, HTY.out, HS.out], bdrewN hbel⟩, by simp [intOf]; omega⟩
        · have hne : (x != y) = true := by simpa using hxy
          have hno : sameInts xs ys = false := by
            unfold sameInts; rw [decide_eq_false]; intro e; apply hxy
            rw [← HXK.out, ← HYK.out]; simp only [e]
          have HNO := Lib.hid hno
          clear hno
          go_wp2_with fail
          go_quiet (fail)
          go_wp2_with fail
          go_ret
          exact ⟨ret_bool HNO.out.symm, bdrewN hbel⟩
      · obtain rfl : k = xs.length := by omega
        have hyes : sameInts xs ys = true := by
          unfold sameInts; rw [decide_eq_true_iff]
          have := HS.out
          rw [List.take_length, HL.out, List.take_length] at this; exact this
        have HY := Lib.hid hyes
        clear hyes
        go_wp2_with fail
        go_ret
        exact ⟨ret_bool HY.out.symm, hbel⟩
  · rw [sameInts_len hl]
    have hlb : ((xs.length : Int) == (ys.length : Int)) = false := by rw [beq_eq_false_iff_ne]; omega
    clear hl
    go_enter Try.func17, Try.ntmps17
    go_wp2_with fail
    go_ret
    exact ⟨rfl, Below.refl _ _⟩
end Go.Proofs.Ytlehejnhnfdgoaa
