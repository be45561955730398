/- Numbers as bytes: the law NumBack. -/
import Derived.Test.YtlehejnhnfdgoaaNumLaws2
import Derived.Test.YtlehejnhnfdgoaaNumPlain2
namespace Go.Proofs.Ytlehejnhnfdgoaa
open Go.ChangeShapes Go.WideShapes Go.ChangeAt Go.RowKit
open NumP
set_option maxRecDepth 100000
theorem bl_three (h b : ByteArray) (P : List UInt8) : bl (h ++ bs P ++ b) = bl h ++ (P ++ bl b) := by rw [bl_append, bl_append, bl_bs, List.append_assoc]
theorem size_three (h b : ByteArray) (P : List UInt8) : (h ++ bs P ++ b).size = h.size + P.length + b.size := by
  rw [← bl_len, bl_three, List.length_append, List.length_append, bl_len, bl_len]; omega
set_option maxHeartbeats 4000000 in
theorem numBack_core (a : Option Addr) (cap : Nat) (xs : List Int) (h b : ByteArray) (w : World) (hr : Reads encI 1 w a xs) (hf : Fit xs) (hl : xs.length ≤ 100) (hh : h.size ≤ 1000) (hb0 : b.size ≤ 1000) :
    Calls Try.prog 5 #[.slice a xs.length cap, .string h, .string b] w fun e w' => e = .returned (.bool true) ∧ Below w.heap.size w w' := by
  have HR := Lib.hid hr
  have HF := Lib.hid hf
  clear hr hf
  have hdl : decide ((100 : Int) < (xs.length : Int)) = false := by simp; omega
  have hdh : decide ((1000 : Int) < (h.size : Int)) = false := by simp; omega
  have hdb : decide ((1000 : Int) < (b.size : Int)) = false := by simp; omega
  go_enter Try.func5, Try.ntmps5
  go_wp2_with fail
  go_loopw [7] (fun v7 wr => ∃ (k : Nat), k ≤ xs.length ∧ v7 = .int .i64 k ∧ Below w.heap.size w wr) (fun v7 _ => xs.length - (intOf v7).toNat)
  case atStart => exact ⟨0, by omega, rfl, Below.refl _ _⟩
  case round =>
    obtain ⟨k, hk, rfl, hbel⟩ := hrel
    by_cases hlt : k < xs.length
    · obtain ⟨b1, off, rfl, hbl, hcell⟩ := (HR.out.below hbel).int k hlt
      have hx := HF.out xs[k] (List.getElem_mem hlt)
      generalize xs[k] = x at hcell hx
      have hp9 := putN_len x
      have hst := size_three h b (putN x).1
      by_cases hx0 : 0 ≤ x
      · have hpx : (putN x).2 = 0 := by rw [putN_err, if_pos hx0]
        have hg : getN (bl (h ++ bs (putN x).1 ++ b)) (h.size : Int) = (x, (h.size : Int) + ((putN x).1.length : Int), 0) := by
          rw [bl_three, ← bl_len h]; exact get_put _ _ x hx0 hx.2
        have HG := Lib.hid hg
        have hxd : decide ((0 : Int) ≤ x) = true := by simpa using hx0
        clear hg
        go_wp2_with fail
        refine (put_any x _ hx.1 hx.2).mono ?_
        rw [hpx]
        rintro e w2 ⟨rfl, hb2⟩
        have hcell2 : w2.cell? ⟨b1, off + k, none⟩ = some (.int .i64 x) := (hb2.cell (p := ⟨b1, off + k, none⟩) hbl).trans hcell
        have hbel2 := bt hbel hb2
        clear hb2
        go_wp2_with fail
        refine (get_any _ _ _ (by rw [hst]; omega)).mono ?_
        rw [HG.out]
        rintro e w3 ⟨rfl, rfl⟩
        go_wp2_with fail
        exact ⟨⟨k + 1, by omega, by go_num, hbel2⟩, by simp [intOf]; omega⟩
      · have hpx : (putN x).2 = 2 := by rw [putN_err, if_neg hx0]
        have hxd : decide ((0 : Int) ≤ x) = false := by simpa using hx0
        go_wp2_with fail
        refine (put_any x _ hx.1 hx.2).mono ?_
        rw [hpx]
        rintro e w2 ⟨rfl, hb2⟩
        have hcell2 : w2.cell? ⟨b1, off + k, none⟩ = some (.int .i64 x) := (hb2.cell (p := ⟨b1, off + k, none⟩) hbl).trans hcell
        have hbel2 := bt hbel hb2
        clear hb2
        go_wp2_with fail
        refine (get_any _ _ _ (by rw [hst]; omega)).mono ?_
        rintro e w3 ⟨rfl, rfl⟩
        go_wp2_with fail
        exact ⟨⟨k + 1, by omega, by go_num, hbel2⟩, by simp [intOf]; omega⟩
    · obtain rfl : k = xs.length := by omega
      have hR2 := HR.out.below hbel
      have HR2 := Lib.hid hR2
      clear hR2
      by_cases hn : nneg xs = true
      · have hrow : (rowN xs).2 = 0 := by unfold rowN; rw [if_pos hn]
        have hrl : (rowN xs).1.length ≤ 10000 := by
          have h1 := rowBytes_len xs
          have h2 := putN_len xs.length
          unfold rowN; rw [if_pos hn]; simp; omega
        have hst := size_three h b (rowN xs).1
        have hg : unrowN (bl (h ++ bs (rowN xs).1 ++ b)) (h.size : Int) (xs.length : Int) = (xs, (h.size : Int) + ((rowN xs).1.length : Int), 0) := by
          rw [bl_three, ← bl_len h]; exact unrow_row _ _ xs hn (fun x hx => (HF.out x hx).2) (by omega)
        have HG := Lib.hid hg
        clear hg hn
        go_wp2_with fail
        refine (row_any _ _ xs _ HR2.out (by omega) HF.out).mono ?_
        rw [hrow]
        rintro e w2 ⟨rfl, hb2⟩
        have hbel2 := bt hbel hb2
        have HR3 := Lib.hid (HR2.out.below hb2)
        clear hb2
        go_wp2_with fail
        refine (unrow_any _ _ _ _ (by rw [hst]; omega) (by omega)).mono ?_
        rw [HG.out]
        rintro e w3 ⟨a3, cap3, rfl, hd1, hd2, hr3, hb2⟩
        have HR4 := Lib.hid (HR3.out.below hb2)
        have HR5 := Lib.hid hr3
        replace hbel2 := bt hbel2 hb2; clear hb2 hr3
        go_wp2_with fail
        refine (sameInts_any _ _ _ _ xs xs _ HR5.out HR4.out (by unfold maxLen; omega)).mono ?_
        rw [show sameInts xs xs = true from decide_eq_true rfl]
        rintro e w4 ⟨rfl, hb2⟩
        replace hbel2 := bt hbel2 hb2; clear hb2 HR3 HR4 HR5
        go_wp2_with fail
        refine (awake_any _).mono ?_
        rintro e w5 ⟨rfl, hb2⟩
        replace hbel2 := bt hbel2 hb2; clear hb2
        go_wp2_with fail
        go_ret
        exact ⟨rfl, hbel2⟩
      · have hrow : rowN xs = ([], 2) := by unfold rowN; rw [if_neg hn]
        have HW := Lib.hid hrow
        clear hn hrow
        go_wp2_with fail
        refine (row_any _ _ xs _ HR2.out (by omega) HF.out).mono ?_
        rw [HW.out]
        rintro e w2 ⟨rfl, hb2⟩
        have hbel2 := bt hbel hb2
        clear hb2
        go_wp2_with fail
        refine (awake_any _).mono ?_
        rintro e w5 ⟨rfl, hb2⟩
        replace hbel2 := bt hbel2 hb2; clear hb2
        go_wp2_with fail
        go_ret
        exact ⟨rfl, hbel2⟩
set_option maxHeartbeats 1000000 in
theorem numBack_law (w : World) (a : Option Addr) (cap : Nat) (xs : List Int) (hr : Reads encI 1 w a xs) (hf : ∀ x, x ∈ xs → fit1 x) (hlen : xs.length ≤ maxLen) (h : ByteArray) (hm : h.size ≤ maxLen) (b : ByteArray) (hmb : b.size ≤ maxLen) :
    Calls Try.prog 5 #[.slice a xs.length cap, .string h, .string b] w fun e w' => e = .returned (.bool true) ∧ Below w.heap.size w w' := by
  unfold maxLen at *
  by_cases h1 : 100 < xs.length
  · clear hr hf
    go_enter Try.func5, Try.ntmps5
    go_wp2_with fail
    refine (awake_any _).mono ?_
    rintro e w1 ⟨rfl, hb⟩
    go_wp2_with fail
    go_ret
    exact ⟨rfl, hb⟩
  · by_cases h2 : 1000 < h.size
    · clear hr hf
      go_enter Try.func5, Try.ntmps5
      go_wp2_with fail
      refine (awake_any _).mono ?_
      rintro e w1 ⟨rfl, hb⟩
      go_wp2_with fail
      go_ret
      exact ⟨rfl, hb⟩
    · by_cases h3 : 1000 < b.size
      · clear hr hf
        go_enter Try.func5, Try.ntmps5
        go_wp2_with fail
        refine (awake_any _).mono ?_
        rintro e w1 ⟨rfl, hb⟩
        go_wp2_with fail
        go_ret
        exact ⟨rfl, hb⟩
      · exact numBack_core a cap xs h b w hr hf (by omega) (by omega) (by omega)
end Go.Proofs.Ytlehejnhnfdgoaa
