/- CRC: what the laws' own functions compute. -/
import Derived.Test.YtfkaoeefngmomaaCrcSeal
namespace Go.Proofs.Ytfkaoeefngmomaa
open Go.ChangeShapes Go.WideShapes Go.ChangeAt Go.RowKit
open CrcP
theorem aw1 : opened (bl (bs (closed (bl { data := #[104, 105] })))) = ([104, 105], 0) := by decide +kernel
theorem aw2 : opened (bl { data := #[97, 98, 99] }) = ([], 4) := by decide +kernel
theorem aw3 : opened (bl { data := #[97, 98, 99, 100] }) = ([], 7) := by decide +kernel
theorem aw4 : tn (crc (bl { data := #[49, 50, 51, 52, 53, 54, 55, 56, 57] })) = 58124007 := by decide +kernel
theorem aw5 : tn (on (crc (bl { data := #[49, 50, 51, 52] })) (bl { data := #[53, 54, 55, 56, 57] })) = 58124007 := by decide +kernel
theorem aw6 : (16909060 : Int) = tn 0x01020304#32 := by decide
theorem aw7 : be4 0x01020304#32 = [1, 2, 3, 4] := by decide +kernel
set_option maxHeartbeats 400000 in
theorem awake_any (w : World) : Calls Try.prog 6 #[] w fun e w' => e = .returned (.bool true) ∧ Below w.heap.size w w' := by
  go_enter Try.func6, Try.ntmps6
  go_wp2_with fail
  refine (closed_any _ _ (by decide)).mono ?_
  rintro e w1 ⟨rfl, hb⟩
  go_wp2_with fail
  refine (opened_any _ _ (by decide +kernel)).mono ?_
  rw [aw1]
  rintro e w2 ⟨rfl, hb2⟩
  replace hb := bt hb hb2; clear hb2
  go_wp2_with fail
  refine (opened_any _ _ (by decide)).mono ?_
  rw [aw2]
  rintro e w3 ⟨rfl, hb3⟩
  replace hb := bt hb hb3; clear hb3
  go_wp2_with fail
  refine (opened_any _ _ (by decide)).mono ?_
  rw [aw3]
  rintro e w4 ⟨rfl, hb4⟩
  replace hb := bt hb hb4; clear hb4
  go_wp2_with fail
  refine (of_any _ _ (by decide)).mono ?_
  rw [aw4]
  rintro e w5 ⟨rfl, hb5⟩
  replace hb := bt hb hb5; clear hb5
  go_wp2_with fail
  refine (of_any _ _ (by decide)).mono ?_
  rintro e w6 ⟨rfl, hb6⟩
  replace hb := bt hb hb6; clear hb6
  go_wp2_with fail
  refine (on_any _ _ rfl _ _ (by decide)).mono ?_
  rw [aw5]
  rintro e w7 ⟨rfl, hb7⟩
  replace hb := bt hb hb7; clear hb7
  go_wp2_with fail
  rw [aw6]
  refine (four_any _ _).mono ?_
  rw [aw7]
  rintro e w8 ⟨rfl, hb8⟩
  replace hb := bt hb hb8; clear hb8
  go_wp2_with fail
  go_ret
  exact ⟨rfl, hb⟩
set_option maxHeartbeats 1000000 in
theorem sums_any (s : ByteArray) (n : W) (w : World) (hm : s.size ≤ maxLen) :
    Calls Try.prog 3 #[.string s, .int .u32 (tn n)] w fun e w' => e = .returned (.bool true) ∧ Below w.heap.size w w' := by
  by_cases h3 : 3000 < s.size
  · go_enter Try.func3, Try.ntmps3
    go_wp2_with fail
    refine (awake_any _).mono ?_
    rintro e w1 ⟨rfl, hb⟩
    go_wp2_with fail
    go_ret
    exact ⟨rfl, hb⟩
  · have hs : s.size ≤ 1000000 := by omega
    have hn := tn_bd n
    have hc4 := be4_size (crc (bl s))
    go_enter Try.func3, Try.ntmps3
    go_wp2_with fail
    refine (opened_any _ _ hs).mono ?_
    rintro e w1 ⟨rfl, hb⟩
    go_wp2_with fail
    refine (opened_ref _ _ hs).mono ?_
    rintro e w2 ⟨rfl, hb2⟩
    replace hb := bt hb hb2; clear hb2
    go_wp2_with fail
    refine (of_any _ _ hm).mono ?_
    rintro e w3 ⟨rfl, hb2⟩
    replace hb := bt hb hb2; clear hb2
    go_wp2_with fail
    refine (of_ref _ _ hm).mono ?_
    rintro e w4 ⟨rfl, rfl⟩
    go_wp2_with fail
    refine (on_any _ _ rfl _ _ hm).mono ?_
    rintro e w4 ⟨rfl, hb2⟩
    replace hb := bt hb hb2; clear hb2
    go_wp2_with fail
    refine (on_ref _ _ rfl _ _ hm).mono ?_
    rintro e w5 ⟨rfl, rfl⟩
    go_wp2_with fail
    refine (four_any _ _).mono ?_
    rintro e w6 ⟨rfl, hb2⟩
    replace hb := bt hb hb2; clear hb2
    go_wp2_with fail
    refine (four_ref _ _).mono ?_
    rintro e w7 ⟨rfl, hb2⟩
    replace hb := bt hb hb2; clear hb2
    go_wp2_with fail
    refine (closed_any _ _ hs).mono ?_
    rintro e w8 ⟨rfl, hb2⟩
    replace hb := bt hb hb2; clear hb2
    go_wp2_with fail
    refine (closed_ref _ _ hs).mono ?_
    rintro e w9 ⟨rfl, hb2⟩
    replace hb := bt hb hb2; clear hb2
    go_wp2_with fail
    refine (awake_any _).mono ?_
    rintro e w10 ⟨rfl, hb2⟩
    replace hb := bt hb hb2; clear hb2
    go_wp2_with fail
    go_ret
    exact ⟨rfl, hb⟩
theorem of_wf32 {a : Int} (h : (Lit.int .u32 a).wf = true) : a = tn (BitVec.ofNat 32 a.toNat) := by
  have h2 : 0 ≤ a ∧ a ≤ 4294967295 := by simpa [Lit.wf, IntKind.min, IntKind.max, IntKind.signed, IntKind.bits] using h
  unfold tn; rw [BitVec.toNat_ofNat, Nat.mod_eq_of_lt (by omega)]; omega
theorem crcSums_law (s : ByteArray) (hm : s.size ≤ maxLen) (n : Int) (hn : (Lit.int .u32 n).wf = true) (w : World) :
    Calls Try.prog 3 #[.string s, .int .u32 n] w fun e w' => e = .returned (.bool true) ∧ Below w.heap.size w w' := by
  rw [of_wf32 hn]; exact sums_any s _ w hm
end Go.Proofs.Ytfkaoeefngmomaa
