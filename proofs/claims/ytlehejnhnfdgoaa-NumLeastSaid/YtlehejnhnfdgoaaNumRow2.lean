/- Numbers as bytes: the contract of rubatoref05.Row. -/
import Derived.Test.YtlehejnhnfdgoaaNumRow
namespace Go.Proofs.Ytlehejnhnfdgoaa
open Go.ChangeShapes Go.WideShapes Go.ChangeAt Go.RowKit
open NumP
set_option maxRecDepth 100000
set_option maxHeartbeats 2000000 in
theorem row_ref (a : Option Addr) (cap : Nat) (xs : List Int) (w : World) (hr : Reads encI 1 w a xs) (hn : xs.length ≤ 10000) (hf : Fit xs) :
    Calls Try.prog 14 #[.slice a xs.length cap] w fun e w' => e = .returned (.tuple #[.string (bs (rowN xs).1), .int .i64 (rowN xs).2]) ∧ Below w.heap.size w w' := by
  have HR := Lib.hid hr
  have HF := Lib.hid hf
  clear hr hf
  have hp9 := putN_len xs.length
  have hpe : (putN (xs.length : Int)).2 = 0 := by rw [putN_err, if_pos (by omega)]
  go_enter Try.func14, Try.ntmps14
  go_wp2_with fail
  refine (put_ref _ _ (by omega) (by omega)).mono ?_
  rw [hpe]
  rintro e w1 ⟨rfl, hB⟩
  go_wp2_with fail
  go_loopw [4, 6] (fun v4 v6 wr => ∃ (k : Nat), k ≤ xs.length ∧ v6 = .int .i64 k ∧ v4 = .string (bs ((putN xs.length).1 ++ rowBytes (xs.take k))) ∧ nneg (xs.take k) = true ∧ Below w.heap.size w wr) (fun _ v6 _ => xs.length - (intOf v6).toNat)
  case atStart => exact ⟨0, by omega, rfl, by simp [rowBytes], rfl, hB⟩
  case round =>
    obtain ⟨k, hk, rfl, rfl, hnn, hbel⟩ := hrel
    clear hB
    have HNN := Lib.hid hnn
    clear hnn
    by_cases hlt : k < xs.length
    · obtain ⟨b, off, rfl, hbl, hcell⟩ := (HR.out.below hbel).int k hlt
      have hx := HF.out xs[k] (List.getElem_mem hlt)
      have hts := take_succ_int xs k hlt
      generalize hxk : xs[k] = x at hcell hx hts
      have HTS := Lib.hid hts
      have HXK := Lib.hid hxk
      have hrl := rowBytes_len (xs.take k)
      have htl : (xs.take k).length ≤ k := List.length_take_le _ _
      have hq9 := putN_len x
      clear hts hxk
      by_cases hx0 : 0 ≤ x
      · have hpx : (putN x).2 = 0 := by rw [putN_err, if_pos hx0]
        have hbytes : (putN xs.length).1 ++ (rowBytes (xs.take k) ++ (putN x).1) = (putN xs.length).1 ++ rowBytes (xs.take (k + 1)) := by
          rw [HTS.out, rowBytes_snoc]
        have HBY := Lib.hid hbytes
        clear hbytes
        go_wp2_with fail
        refine (put_ref x _ (by omega) (by omega)).mono ?_
        rw [hpx]
        rintro e w2 ⟨rfl, hb2⟩
        have hbel2 := bt hbel hb2
        clear hb2
        go_wp2_with fail
        refine ⟨⟨k + 1, by omega, by go_num, ?_, ?_, hbel2⟩, by simp [intOf]; omega⟩
        · rw [← HBY.out]
        · rw [HTS.out, nneg_snoc, HNN.out]; simp [hx0]
      · have hpx : (putN x).2 = 2 := by rw [putN_err, if_neg hx0]
        have hg : rowN xs = ([], 2) := by
          unfold rowN
          rw [if_neg]
          rw [rowAt_lt (xs := xs) (k := k + 1) (by rw [HTS.out, nneg_snoc]; simp; intro _; omega)]; decide
        have HG := Lib.hid hg
        clear hg
        go_wp2_with fail
        refine (put_ref x _ (by omega) (by omega)).mono ?_
        rw [hpx]
        rintro e w2 ⟨rfl, hb2⟩
        have hbel2 := bt hbel hb2
        clear hb2
        go_wp2_with fail
        go_ret2
        exact ⟨ret_gsi HG.out, hbel2⟩
    · obtain rfl : k = xs.length := by omega
      have hg : rowN xs = ((putN xs.length).1 ++ rowBytes (xs.take xs.length), 0) := by
        have := HNN.out
        rw [List.take_length] at this ⊢
        unfold rowN; rw [if_pos this]
      have HG := Lib.hid hg
      clear hg
      go_wp2_with fail
      go_ret2
      exact ⟨ret_gsi HG.out, hbel⟩
end Go.Proofs.Ytlehejnhnfdgoaa
