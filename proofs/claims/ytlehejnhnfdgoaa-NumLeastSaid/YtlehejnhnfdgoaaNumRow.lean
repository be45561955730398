/- Numbers as bytes: the contracts of Row, in both packages. -/
import Derived.Test.YtlehejnhnfdgoaaNumWalk
import Derived.Test.YtlehejnhnfdgoaaBuilder
namespace Go.Proofs.Ytlehejnhnfdgoaa
open Go.ChangeShapes Go.WideShapes Go.ChangeAt Go.RowKit
open NumP
set_option maxRecDepth 100000
/-- every number is one of Go's ints -/
def Fit (xs : List Int) : Prop := ∀ x, x ∈ xs → -9223372036854775808 ≤ x ∧ x ≤ 9223372036854775807
set_option maxHeartbeats 1000000 in
theorem rowPut (n : Int) (B b : Nat) (l : List UInt8) (w : World) (h0 : -9223372036854775808 ≤ n) (h1 : n ≤ 9223372036854775807)
    (h : Lib.IsBuilder 53 5 B b (Lib.byteCells l) w) (hlen : l.length ≤ 1000000) (hBw : B ≤ w.heap.size) :
    Calls Try.prog 20 #[.int .i64 n, .pointer (some ⟨b, 0, none⟩)] w fun e w' => e = .returned (.int .i64 (putN n).2) ∧ (Lib.BuilderAt 53 5 B b (.pointer (some ⟨b, 0, none⟩)) (Lib.byteCells (l ++ (putN n).1)) w' ∧ Below B w w') := by
  have H := Lib.hid h
  clear h
  have hp9 := putN_len n
  go_enter Try.func20, Try.ntmps20
  go_wp2_with fail
  refine (put_any _ _ h0 h1).mono ?_
  rintro e w1 ⟨rfl, hb⟩
  have H1 := Lib.hid (builder_below H.out hb)
  go_wp2_with fail
  refine (writeString_any B b _ _ _ H1.out (by rw [byteCells_len, bs_size]; omega) (by have := hb.size; omega)).mono ?_
  rintro e w2 ⟨rfl, hat, hb2⟩
  rw [byteCells_append, bl_bs] at hat
  have H2 := Lib.hid hat
  have HB := (hb.mono hBw).trans hb2
  clear hat hb hb2
  go_wp2_with fail
  go_ret
  exact ⟨rfl, H2.out, HB⟩
/-- what Row's builder holds behind k numbers, and its error -/
def RowAt (xs : List Int) (k : Nat) (e : Int) (B b : Nat) (w : World) : Prop :=
  (nneg (xs.take k) = true ∧ e = 0 ∧ Lib.IsBuilder 53 5 B b (Lib.byteCells ((putN xs.length).1 ++ rowBytes (xs.take k))) w) ∨ (nneg (xs.take k) = false ∧ e = 2)
theorem take_succ_int (xs : List Int) (k : Nat) (h : k < xs.length) : xs.take (k + 1) = xs.take k ++ [xs[k]] := List.take_succ_eq_append_getElem h
theorem rowAt_lt {xs : List Int} {k : Nat} (h : nneg (xs.take k) = false) : nneg xs = false := by
  have : nneg (xs.take k ++ xs.drop k) = false := by unfold nneg at *; rw [List.all_append, h]; rfl
  rwa [List.take_append_drop] at this
set_option maxHeartbeats 2000000 in
theorem row_any (a : Option Addr) (cap : Nat) (xs : List Int) (w : World) (hr : Reads encI 1 w a xs) (hn : xs.length ≤ 10000) (hf : Fit xs) :
    Calls Try.prog 13 #[.slice a xs.length cap] w fun e w' => e = .returned (.tuple #[.string (bs (rowN xs).1), .int .i64 (rowN xs).2]) ∧ Below w.heap.size w w' := by
  have HR := Lib.hid hr
  have HF := Lib.hid hf
  clear hr hf
  have hfresh : Lib.IsBuilder 53 5 w.heap.size w.heap.size (Lib.byteCells []) (w.alloc (.cells #[.pointer none, .slice none 0 0] 53)) := Lib.fresh_isBuilder 53 5 w
  have HFR := Lib.hid hfresh
  have hp9 := putN_len xs.length
  have hpe : (putN (xs.length : Int)).2 = 0 := by rw [putN_err, if_pos (by omega)]
  clear hfresh
  go_enter Try.func13, Try.ntmps13
  go_wp2_with fail
  refine (rowPut _ w.heap.size w.heap.size [] _ (by omega) (by omega) HFR.out (by simp) (by simp)).mono ?_
  rw [hpe]
  rintro e w1 ⟨rfl, hat, hb⟩
  have hrow0 : RowAt xs 0 0 w.heap.size w.heap.size w1 := .inl ⟨rfl, rfl, .inr (by simpa [rowBytes] using hat)⟩
  have HROW := Lib.hid hrow0
  have hB : Below w.heap.size w w1 := ((Below.refl _ _).alloc (Nat.le_refl _) _).trans hb
  clear hrow0 hat hb
  go_wp2_with fail
  go_loopw [6, 16] (fun v6 v16 wr => ∃ (k : Nat) (e : Int), k ≤ xs.length ∧ v16 = .int .i64 k ∧ v6 = .int .i64 e ∧ RowAt xs k e w.heap.size w.heap.size wr ∧ Below w.heap.size w wr) (fun _ v16 _ => xs.length - (intOf v16).toNat)
  case atStart => exact ⟨0, 0, by omega, rfl, rfl, HROW.out, hB⟩
  case round =>
    obtain ⟨k, e, hk, rfl, rfl, hrow, hbel⟩ := hrel
    clear hB HROW HFR
    by_cases hlt : k < xs.length
    · obtain ⟨b, off, rfl, hbl, hcell⟩ := (HR.out.below hbel).int k hlt
      have hx := HF.out xs[k] (List.getElem_mem hlt)
      have hts := take_succ_int xs k hlt
      generalize hxk : xs[k] = x at hcell hx hts
      have HTS := Lib.hid hts
      clear hts hxk
      rcases hrow with ⟨hn1, rfl, hbd⟩ | ⟨hn1, rfl⟩
      · have HBD := Lib.hid hbd
        have hbs := hbel.size
        have hrl := rowBytes_len (xs.take k)
        have htl : (xs.take k).length ≤ k := List.length_take_le _ _
        have HN1 := Lib.hid hn1
        clear hbd hn1
        go_wp2_with fail
        refine (rowPut x w.heap.size w.heap.size _ _ (by omega) (by omega) HBD.out (by rw [List.length_append]; omega) (by omega)).mono ?_
        rintro e w2 ⟨rfl, hat, hb2⟩
        have hrow1 : RowAt xs (k + 1) (putN x).2 w.heap.size w.heap.size w2 := by
          rw [putN_err]
          by_cases hx0 : 0 ≤ x
          · left
            rw [HTS.out, nneg_snoc, HN1.out, rowBytes_snoc, ← List.append_assoc]
            exact ⟨by simp [hx0], by rw [if_pos hx0], .inr hat⟩
          · right
            rw [HTS.out, nneg_snoc, HN1.out]
            exact ⟨by simp; omega, by rw [if_neg hx0]⟩
        have HROW := Lib.hid hrow1
        have hbel2 := hbel.trans hb2
        clear hrow1 hat hb2
        go_wp2_with fail
        exact ⟨⟨k + 1, _, by omega, by go_num, rfl, HROW.out, hbel2⟩, by simp [intOf]; omega⟩
      · have hrow1 : RowAt xs (k + 1) 2 w.heap.size w.heap.size wr := by
          right
          rw [HTS.out, nneg_snoc, hn1]
          exact ⟨rfl, rfl⟩
        have HROW := Lib.hid hrow1
        clear hrow1 hn1
        go_wp2_with fail
        exact ⟨⟨k + 1, _, by omega, by go_num, rfl, HROW.out, hbel⟩, by simp [intOf]; omega⟩
    · obtain rfl : k = xs.length := by omega
      rcases hrow with ⟨hn1, rfl, hbd⟩ | ⟨hn1, rfl⟩
      · rw [List.take_length] at hn1 hbd
        have hg : rowN xs = ((putN xs.length).1 ++ rowBytes xs, 0) := by unfold rowN; rw [if_pos hn1]
        have HG := Lib.hid hg
        have HBD := Lib.hid hbd
        have hbs := hbel.size
        clear hbd hn1 hg
        go_wp2_with fail
        refine (Try.Builder_String_any _ _ _ _ HBD.out (by omega)).mono ?_
        rintro e w2 ⟨rfl, hb2⟩
        have hbel2 := hbel.trans hb2
        clear hb2
        go_wp2_with fail
        go_ret2
        exact ⟨ret_gsi HG.out, hbel2⟩
      · rw [List.take_length] at hn1
        have hg : rowN xs = ([], 2) := by unfold rowN; rw [if_neg (by rw [hn1]; decide)]
        have HG := Lib.hid hg
        clear hn1 hg
        go_wp2_with fail
        go_ret2
        exact ⟨ret_gsi HG.out, hbel⟩
end Go.Proofs.Ytlehejnhnfdgoaa
