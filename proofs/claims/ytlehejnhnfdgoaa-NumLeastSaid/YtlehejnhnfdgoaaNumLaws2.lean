/- Numbers as bytes: the laws NumRows, NumBack, NumLeast. -/
import Derived.Test.YtlehejnhnfdgoaaNumLaws
import Derived.Test.YtlehejnhnfdgoaaOpenI
namespace Go.Proofs.Ytlehejnhnfdgoaa
open Go.ChangeShapes Go.WideShapes Go.ChangeAt Go.RowKit
open NumP
set_option maxRecDepth 100000
set_option maxHeartbeats 2000000 in
theorem numRows_core (a : Option Addr) (cap : Nat) (xs : List Int) (s : ByteArray) (x0 x1 : Int) (w : World) (hr : Reads encI 1 w a xs) (hf : Fit xs) (hlen : xs.length ≤ maxLen) (hm : s.size ≤ maxLen)
    (h1 : -9223372036854775808 ≤ x1 ∧ x1 ≤ 9223372036854775807) :
    Calls Try.prog 4 #[.slice a xs.length cap, .string s, .agg #[.int .i64 x0, .int .i64 x1]] w fun e w' => e = .returned (.bool true) ∧ Below w.heap.size w w' := by
  unfold maxLen at hm hlen
  by_cases h3 : 1200 < xs.length
  · go_enter Try.func4, Try.ntmps4
    go_wp2_with fail
    refine (awake_any _).mono ?_
    rintro e w1 ⟨rfl, hb⟩
    go_wp2_with fail
    go_ret
    exact ⟨rfl, bt ((Below.refl _ _).alloc (Nat.le_refl _) _) hb⟩
  · by_cases h4 : 6000 < s.size
    · go_enter Try.func4, Try.ntmps4
      go_wp2_with fail
      refine (awake_any _).mono ?_
      rintro e w1 ⟨rfl, hb⟩
      go_wp2_with fail
      go_ret
      exact ⟨rfl, bt ((Below.refl _ _).alloc (Nat.le_refl _) _) hb⟩
    · have HR := Lib.hid hr
      have HF := Lib.hid hf
      clear hr hf
      go_enter Try.func4, Try.ntmps4
      go_wp2_with fail
      have hb : Below w.heap.size w (w.alloc (.cells #[.int .i64 x0, .int .i64 x1] 35)) := (Below.refl _ _).alloc (Nat.le_refl _) _
      have c0 : (w.alloc (.cells #[.int .i64 x0, .int .i64 x1] 35)).cell? ⟨w.heap.size, 0, none⟩ = some (.int .i64 x0) := by simp
      have c1 : (w.alloc (.cells #[.int .i64 x0, .int .i64 x1] 35)).cell? ⟨w.heap.size, 1, none⟩ = some (.int .i64 x1) := by simp
      have hlt : w.heap.size < (w.alloc (.cells #[.int .i64 x0, .int .i64 x1] 35)).heap.size := by simp
      have HR1 := Lib.hid (HR.out.below hb)
      generalize w.alloc (.cells #[.int .i64 x0, .int .i64 x1] 35) = w0 at *
      refine (row_any _ _ xs _ HR1.out (by omega) HF.out).mono ?_
      rintro e w1 ⟨rfl, hb2⟩
      have HR2 := Lib.hid (HR1.out.below hb2)
      have c0b := (hb2.cell (p := ⟨w.heap.size, 0, none⟩) hlt).trans c0
      have c1b := (hb2.cell (p := ⟨w.heap.size, 1, none⟩) hlt).trans c1
      have hlt2 : w.heap.size < w1.heap.size := Nat.lt_of_lt_of_le hlt hb2.size
      replace hb := bt hb hb2; clear hb2 HR1 c0 c1 hlt
      go_wp2_with fail
      refine (row_ref _ _ xs _ HR2.out (by omega) HF.out).mono ?_
      rintro e w2 ⟨rfl, hb2⟩
      have c0 := (hb2.cell (p := ⟨w.heap.size, 0, none⟩) hlt2).trans c0b
      have c1 := (hb2.cell (p := ⟨w.heap.size, 1, none⟩) hlt2).trans c1b
      have hlt : w.heap.size < w2.heap.size := Nat.lt_of_lt_of_le hlt2 hb2.size
      replace hb := bt hb hb2; clear hb2 HR2 c0b c1b hlt2
      go_wp2_with fail
      refine (unrow_any _ _ _ _ (by omega) h1).mono ?_
      rintro e w3 ⟨a3, cap3, rfl, hd1, hd2, hr3, hb2⟩
      have c0b := (hb2.cell (p := ⟨w.heap.size, 0, none⟩) hlt).trans c0
      have c1b := (hb2.cell (p := ⟨w.heap.size, 1, none⟩) hlt).trans c1
      have HR3 := Lib.hid hr3
      have HD := Lib.hid (Nat.le_trans hd1 hd2)
      replace hb := bt hb hb2; clear hb2 c0 c1 hlt hr3 hd1 hd2
      generalize hG : unrowN (bl s) x0 x1 = G at *
      go_wp2_with fail
      refine (unrow_ref _ _ _ _ (by omega) h1).mono ?_
      rw [hG]
      rintro e w4 ⟨a4, cap4, rfl, hd1, hd2, hr4, hb2⟩
      have HR3b := Lib.hid (HR3.out.below hb2)
      have HR4 := Lib.hid hr4
      replace hb := bt hb hb2; clear hb2 c0b c1b hr4 hd1 hd2 HR3 hG
      go_wp2_with fail
      refine (sameInts_any _ _ _ _ G.1 G.1 _ HR3b.out HR4.out HD.out).mono ?_
      rw [show sameInts G.1 G.1 = true from decide_eq_true rfl]
      rintro e w5 ⟨rfl, hb2⟩
      replace hb := bt hb hb2; clear hb2 HR3b HR4
      go_wp2_with fail
      refine (awake_any _).mono ?_
      rintro e w6 ⟨rfl, hb2⟩
      replace hb := bt hb hb2; clear hb2
      go_wp2_with fail
      go_ret
      exact ⟨rfl, hb⟩
theorem numRows_law (w : World) (a : Option Addr) (cap : Nat) (xs : List Int) (hr : Reads encI 1 w a xs) (hf : ∀ x, x ∈ xs → fit1 x) (hlen : xs.length ≤ maxLen) (s : ByteArray) (hm : s.size ≤ maxLen) (x0 x1 : Int) (_ : fit1 x0) (f1 : fit1 x1) :
    Calls Try.prog 4 #[.slice a xs.length cap, .string s, .agg #[.int .i64 x0, .int .i64 x1]] w fun e w' => e = .returned (.bool true) ∧ Below w.heap.size w w' :=
  numRows_core a cap xs s x0 x1 w hr hf hlen hm f1
end Go.Proofs.Ytlehejnhnfdgoaa
