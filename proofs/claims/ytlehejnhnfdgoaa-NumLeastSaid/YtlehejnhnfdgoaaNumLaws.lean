/- Numbers as bytes: the laws' own functions: awake, NumCodes, NumRows. -/
import Derived.Test.YtlehejnhnfdgoaaNumUnrow2
import Derived.Test.YtlehejnhnfdgoaaSameInts
namespace Go.Proofs.Ytlehejnhnfdgoaa
open Go.ChangeShapes Go.WideShapes Go.ChangeAt Go.RowKit
open NumP
set_option maxRecDepth 100000
theorem aw1 : putN 258 = ([130, 1, 2], 0) := by decide +kernel
theorem aw2 : getN (bl ({ data := #[120] } ++ bs [130, 1, 2])) 1 = (258, 4, 0) := by decide +kernel
theorem aw3 : rowN [7, 128] = ([2, 7, 129, 128], 0) := by decide +kernel
theorem aw4 : unrowN (bl (bs [2, 7, 129, 128])) 0 2 = ([7, 128], 4, 0) := by decide +kernel
theorem aw5 : getN (bl { data := #[129, 127] }) 0 = (0, 0, 5) := by decide +kernel
theorem aw6 : unrowN (bl (bs [2, 7, 129, 128])) 0 1 = ([], 0, 3) := by decide +kernel
theorem aw7 : putN (-1) = ([], 2) := by decide +kernel
theorem aw8 : sizeN 258 = 3 := by decide +kernel
theorem lit2 (w : World) (x y : Int) : Reads encI 1 (w.alloc (.cells #[.int .i64 x, .int .i64 y] 3)) (some ⟨w.heap.size, 0, none⟩) [x, y] := by
  intro i hi
  refine ⟨w.heap.size, 0, rfl, by simp, fun j hj => ?_⟩
  obtain rfl : j = 0 := by omega
  match i, hi with
  | 0, _ => simp [encI]
  | 1, _ => simp [encI]
set_option maxHeartbeats 2000000 in
theorem awake_any (w : World) : Calls Try.prog 7 #[] w fun e w' => e = .returned (.bool true) ∧ Below w.heap.size w w' := by
  go_enter Try.func7, Try.ntmps7
  go_wp2_with fail
  refine (put_any _ _ (by omega) (by omega)).mono ?_
  rw [aw1]
  rintro e w1 ⟨rfl, hb⟩
  go_wp2_with fail
  refine (get_any _ _ _ (by decide +kernel)).mono ?_
  rw [aw2]
  rintro e w2 ⟨rfl, rfl⟩
  go_wp2_with fail
  refine (row_any _ _ [7, 128] _ (lit2 _ _ _) (by decide) (by intro x hx; simp at hx; omega)).mono ?_
  rw [aw3]
  rintro e w3 ⟨rfl, hb2⟩
  replace hb := bt (hb.alloc hb.size _) hb2; clear hb2
  go_wp2_with fail
  refine (unrow_any _ _ _ _ (by decide) (by omega)).mono ?_
  rw [aw4]
  rintro e w4 ⟨a, cap, rfl, hc1, hc2, hr, hb2⟩
  replace hb := bt hb hb2; clear hb2
  have HR := Lib.hid hr
  clear hr
  go_wp2_with fail
  refine (get_any _ _ _ (by decide)).mono ?_
  rw [aw5]
  rintro e w5 ⟨rfl, rfl⟩
  go_wp2_with fail
  refine (unrow_any _ _ _ _ (by decide) (by omega)).mono ?_
  rw [aw6]
  rintro e w6 ⟨a2, cap2, rfl, hd1, hd2, hr2, hb2⟩
  have HR2 := Lib.hid (HR.out.below hb2)
  replace hb := bt hb hb2; clear hb2 hr2 HR
  go_wp2_with fail
  refine (put_any _ _ (by omega) (by omega)).mono ?_
  rw [aw7]
  rintro e w7 ⟨rfl, hb2⟩
  have HR3 := Lib.hid (HR2.out.below hb2)
  replace hb := bt hb hb2; clear hb2 HR2
  go_wp2_with fail
  have HR4 := Lib.hid (HR3.out.below ((Below.refl _ w7).alloc (Nat.le_refl _) (.cells #[.int .i64 7, .int .i64 128] 3)))
  clear HR3
  refine (sameInts_any _ _ _ _ [7, 128] [7, 128] _ HR4.out (lit2 _ _ _) (by decide)).mono ?_
  rw [show sameInts [7, 128] [7, 128] = true from rfl]
  rintro e w8 ⟨rfl, hb2⟩
  replace hb := bt (hb.alloc hb.size _) hb2; clear hb2 HR4
  go_wp2_with fail
  refine (size_any _ _ (by omega) (by omega)).mono ?_
  rw [aw8]
  rintro e w9 ⟨rfl, rfl⟩
  go_wp2_with fail
  go_ret
  exact ⟨rfl, hb⟩
set_option maxHeartbeats 2000000 in
theorem numCodes_law (n : Int) (hn : (Lit.int .i64 n).wf = true) (s : ByteArray) (hm : s.size ≤ maxLen) (p : Int) (hp : (Lit.int .i64 p).wf = true) (w : World) :
    Calls Try.prog 3 #[.int .i64 n, .string s, .int .i64 p] w fun e w' => e = .returned (.bool true) ∧ Below w.heap.size w w' := by
  have hn2 := wf64 hn
  have hp2 := wf64 hp
  unfold maxLen at hm
  clear hn hp
  by_cases h3 : 3000 < s.size
  · go_enter Try.func3, Try.ntmps3
    go_wp2_with fail
    refine (awake_any _).mono ?_
    rintro e w1 ⟨rfl, hb⟩
    go_wp2_with fail
    go_ret
    exact ⟨rfl, hb⟩
  · have hsz : sizeN n = ((putN n).1.length : Int) := rfl
    have hpl := putN_len n
    go_enter Try.func3, Try.ntmps3
    go_wp2_with fail
    refine (put_any _ _ hn2.1 hn2.2).mono ?_
    rintro e w1 ⟨rfl, hb⟩
    go_wp2_with fail
    refine (put_ref _ _ hn2.1 hn2.2).mono ?_
    rintro e w2 ⟨rfl, hb2⟩
    replace hb := bt hb hb2; clear hb2
    go_wp2_with fail
    refine (get_any _ _ _ (by omega)).mono ?_
    rintro e w3 ⟨rfl, rfl⟩
    go_wp2_with fail
    refine (get_ref _ _ _ (by omega)).mono ?_
    rintro e w4 ⟨rfl, rfl⟩
    go_wp2_with fail
    refine (size_any _ _ hn2.1 hn2.2).mono ?_
    rintro e w5 ⟨rfl, rfl⟩
    go_wp2_with fail
    refine (awake_any _).mono ?_
    rintro e w6 ⟨rfl, hb2⟩
    replace hb := bt hb hb2; clear hb2
    go_wp2_with fail
    go_ret
    exact ⟨rfl, hb⟩
end Go.Proofs.Ytlehejnhnfdgoaa
