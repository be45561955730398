/- CRC: what the laws CrcOn and CrcBurst compute. -/
import Derived.Test.YtfkaoeefngmomaaCrcLaws
import Derived.Lib.Hide
namespace Go.Proofs.Ytfkaoeefngmomaa
open Go.ChangeShapes Go.WideShapes Go.ChangeAt Go.RowKit
open CrcP
theorem crc_closed (l : List UInt8) : crc (closed l) = 0#32 := by
  unfold crc closed
  rw [on_append]
  exact (on_four_iff _ _ rfl).2 rfl
set_option maxHeartbeats 1000000 in
theorem crcOn_law (a : ByteArray) (ha : a.size ≤ maxLen) (b : ByteArray) (hb0 : b.size ≤ maxLen) (w : World) :
    Calls Try.prog 4 #[.string a, .string b] w fun e w' => e = .returned (.bool true) ∧ Below w.heap.size w w' := by
  by_cases h3 : 3000 < a.size
  · go_enter Try.func4, Try.ntmps4
    go_wp2_with fail
    refine (awake_any _).mono ?_
    rintro e w1 ⟨rfl, hb⟩
    go_wp2_with fail
    go_ret
    exact ⟨rfl, hb⟩
  · by_cases h4 : 3000 < b.size
    · go_enter Try.func4, Try.ntmps4
      go_wp2_with fail
      refine (awake_any _).mono ?_
      rintro e w1 ⟨rfl, hb⟩
      go_wp2_with fail
      go_ret
      exact ⟨rfl, hb⟩
    · have e1 : on (crc (bl a)) (bl b) = crc (bl (a ++ b)) := by rw [bl_append]; exact (on_append _ _ _).symm
      have e2 : tn (crc (bl (bs (closed (bl a))))) = 0 := by rw [bl_bs, crc_closed]; rfl
      have e3 : on (crc (bl a)) (bl { data := #[] }) = crc (bl a) := rfl
      have H1 := Lib.hid e1
      have H2 := Lib.hid e2
      have H3 := Lib.hid e3
      clear e1 e2 e3
      go_enter Try.func4, Try.ntmps4
      go_wp2_with fail
      refine (of_any _ _ ha).mono ?_
      rintro e w1 ⟨rfl, hb⟩
      go_wp2_with fail
      refine (on_any _ _ rfl _ _ hb0).mono ?_
      rw [H1.out]
      rintro e w2 ⟨rfl, hb2⟩
      replace hb := bt hb hb2; clear hb2
      go_wp2_with fail
      refine (of_any _ _ (by simp [maxLen]; omega)).mono ?_
      rintro e w3 ⟨rfl, hb2⟩
      replace hb := bt hb hb2; clear hb2
      go_wp2_with fail
      refine (closed_any _ _ (by omega)).mono ?_
      rintro e w4 ⟨rfl, hb2⟩
      replace hb := bt hb hb2; clear hb2
      go_wp2_with fail
      refine (of_any _ _ ?_).mono ?_
      · have := bl_len a; simp [closed, be4, maxLen, bs_size]; omega
      rw [H2.out]
      rintro e w5 ⟨rfl, hb2⟩
      replace hb := bt hb hb2; clear hb2
      go_wp2_with fail
      refine (of_any _ _ ha).mono ?_
      rintro e w6 ⟨rfl, hb2⟩
      replace hb := bt hb hb2; clear hb2
      go_wp2_with fail
      refine (on_any _ _ rfl _ _ (by decide)).mono ?_
      rw [H3.out]
      rintro e w7 ⟨rfl, hb2⟩
      replace hb := bt hb hb2; clear hb2
      go_wp2_with fail
      refine (of_any _ _ ha).mono ?_
      rintro e w8 ⟨rfl, hb2⟩
      replace hb := bt hb hb2; clear hb2
      go_wp2_with fail
      refine (awake_any _).mono ?_
      rintro e w9 ⟨rfl, hb2⟩
      replace hb := bt hb hb2; clear hb2
      go_wp2_with fail
      go_ret
      exact ⟨rfl, hb⟩
end Go.Proofs.Ytfkaoeefngmomaa
