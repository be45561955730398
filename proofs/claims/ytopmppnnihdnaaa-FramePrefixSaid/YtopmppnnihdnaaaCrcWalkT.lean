/- CRC: contracts of the functions of packages crc and rubatoref07. -/
import Derived.Test.YtopmppnnihdnaaaRows
import Derived.Test.YtopmppnnihdnaaaCrcPlain
import Derived.WalkKit
import Derived.ProofKit
import Derived.OpenShut
import Derived.Handy
import Derived.WalkLawsBesides
import Derived.WalkSpells
import Derived.BigQuiet
import Derived.Deep.QuietTactic
import Derived.Deep.RegionWith
import Derived.Laws.BytesArg
namespace Go.Proofs.Ytopmppnnihdnaaa.CrcT
set_option linter.unusedVariables false
set_option linter.unusedSimpArgs false
open Go.ChangeShapes Go.WideShapes Go.ChangeAt Go.RowKit
open CrcP
/-- a word as Go's number -/
def tn (x : W) : Int := (x.toNat : Int)
/-- a text of bytes -/
def bs (l : List UInt8) : ByteArray := ⟨l.toArray⟩
/-- a text's bytes -/
def bl (s : ByteArray) : List UInt8 := s.data.toList
@[go_sem] theorem bs_toList (l : List UInt8) : (bs l).toList = l := ByteArray.toList_mk l
@[go_sem] theorem bs_size (l : List UInt8) : (bs l).size = l.length := rfl
/-- one call behind the other -/
theorem bt {a b c : World} (h : Below a.heap.size a b) (k : Below b.heap.size b c) : Below a.heap.size a c := h.trans (k.mono h.size)
theorem undrew {w w2 : World} (h : Below w.drew.heap.size w.drew w2) : Below w.heap.size w w2 := ⟨h.os, h.tape, h.output, h.size, h.block⟩
theorem bl_bs (l : List UInt8) : bl (bs l) = l := rfl
theorem bs_bl (s : ByteArray) : bs (bl s) = s := rfl
theorem bl_len (s : ByteArray) : (bl s).length = s.size := Array.length_toList
theorem ret_str {a b : ByteArray} (h : a = b) : Ending.returned (.string a) = .returned (.string b) := by rw [h]
theorem ret_int {k : IntKind} {a b : Int} (h : a = b) : Ending.returned (.int k a) = .returned (.int k b) := by rw [h]
theorem bl_take_succ (s : ByteArray) (k : Nat) (h : k < s.size) : (bl s).take (k + 1) = (bl s).take k ++ [s[k]] := by
  unfold bl; rw [List.take_succ_eq_append_getElem (by simpa using h)]; rfl
theorem bl_take_all (s : ByteArray) : (bl s).take s.size = bl s := List.take_of_length_le (by rw [bl_len]; exact Nat.le_refl _)
theorem bl_append (s t : ByteArray) : bl (s ++ t) = bl s ++ bl t := by simp [bl]
theorem bs_append (s t : List UInt8) : bs s ++ bs t = bs (s ++ t) := by
  apply ByteArray.ext; simp [bs]
theorem tn_bd (x : W) : 0 ≤ tn x ∧ tn x ≤ 4294967295 := by have := x.isLt; unfold tn; omega
theorem byte_bd (b : UInt8) : (b.toNat : Int) ≤ 255 := by have := b.toNat_lt; omega
theorem xorW (a b : W) : bits .xor .u32 (tn a) (tn b) = tn (a ^^^ b) := by
  unfold tn; rw [u32_xor_nat a.toNat b.toNat a.isLt b.isLt, BitVec.toNat_xor]
theorem byteW (b : UInt8) : (b.toNat : Int) * (16777216 : Int) = tn (BitVec.ofNat 32 b.toNat <<< 24) := by
  have := b.toNat_lt
  unfold tn
  rw [BitVec.toNat_shiftLeft, BitVec.toNat_ofNat, Nat.shiftLeft_eq, Nat.mod_eq_of_lt (by omega), Nat.mod_eq_of_lt (by omega)]
  omega
theorem stepN_nil (n : W) : stepN 0 n = n := rfl
theorem stepN_last (k : Nat) (n : W) : stepN (k + 1) n = step1 (stepN k n) := by rw [stepN_add k 1]; rfl
theorem msb_tn (x : W) : x.msb = decide (2147483648 ≤ tn x) := by
  rw [BitVec.msb_eq_decide]; unfold tn; simp; omega
theorem poly_tn : (79764919 : Int) = tn poly := by decide
theorem step1_hi (x : W) (h : 2147483648 ≤ tn x) : bits .xor .u32 (tn x * 2 % 4294967296) 79764919 = tn (step1 x) := by
  have e : tn x * (2 : Int) % (4294967296 : Int) = tn (x <<< 1) := by
    unfold tn; rw [BitVec.toNat_shiftLeft, Nat.shiftLeft_eq]; omega
  rw [e, poly_tn, xorW, step1, if_pos (by rw [msb_tn]; simpa using h)]
theorem step1_lo (x : W) (h : ¬ 2147483648 ≤ tn x) : tn x * 2 = tn (step1 x) := by
  have e : tn x * (2 : Int) = tn (x <<< 1) := by
    unfold tn at *; rw [BitVec.toNat_shiftLeft, Nat.shiftLeft_eq]; omega
  rw [e, step1, if_neg (by rw [msb_tn]; simpa using h)]

set_option maxHeartbeats 400000 in
theorem step_any (n : W) (b : UInt8) (w : World) :
    Calls Try.prog 44 #[.int .u32 (tn n), .int .u8 (b.toNat : Int)] w fun e w' => e = .returned (.int .u32 (tn (byte n b))) ∧ w = w' := by
  have hn := tn_bd n
  have hb := byte_bd b
  have e1 : bits .xor .u32 (tn n) ((b.toNat : Int) * (16777216 : Int)) = tn (n ^^^ (BitVec.ofNat 32 b.toNat <<< 24)) := by rw [byteW, xorW]
  go_enter Try.func44, Try.ntmps44
  go_wp2
  go_loop [0, 5] (fun v0 v5 => ∃ k : Nat, k ≤ 8 ∧ v5 = .int .i64 k ∧ v0 = .int .u32 (tn (stepN k (n ^^^ (BitVec.ofNat 32 b.toNat <<< 24))))) (fun v0 v5 => 8 - (intOf v5).toNat)
  case atStart => exact ⟨0, by omega, rfl, by rw [stepN_nil]⟩
  case round =>
    obtain ⟨k, hk, rfl, rfl⟩ := hrel
    have hl := stepN_last k (n ^^^ (BitVec.ofNat 32 b.toNat <<< 24))
    generalize hX0 : stepN k (n ^^^ (BitVec.ofNat 32 b.toNat <<< 24)) = X at *
    have hX : Hid (stepN k (n ^^^ (BitVec.ofNat 32 b.toNat <<< 24)) = X) := hX0
    clear hX0
    have HL : Hid (stepN (k + 1) (n ^^^ (BitVec.ofNat 32 b.toNat <<< 24)) = step1 X) := hl
    clear hl e1 hb hn
    have hx := tn_bd X
    by_cases h8 : k < 8
    · by_cases hm : 2147483648 ≤ tn X
      · go_wp2
        go_round
        case rel => exact ⟨k + 1, by omega, by go_num, by rw [HL.out, step1_hi X hm]⟩
        case measure => simp [intOf]; omega
      · go_wp2
        go_round
        case rel => exact ⟨k + 1, by omega, by go_num, by rw [HL.out, step1_lo X hm]⟩
        case measure => simp [intOf]; omega
    · obtain rfl : k = 8 := by omega
      go_wp2
      go_ret
      exact ⟨by rw [← hX.out]; rfl, rfl⟩

/-! four bytes -/
theorem conv4 (w : World) (a b c d : Int) : (convert 47 9 (.slice (some ⟨w.heap.size, 0, none⟩) 4 4)).run Try.prog
    (w.alloc (.cells #[.int .u8 a, .int .u8 b, .int .u8 c, .int .u8 d] 5)) = .ok (.string (strOfNums [a, b, c, d])) (w.alloc (.cells #[.int .u8 a, .int .u8 b, .int .u8 c, .int .u8 d] 5)) := by
  refine run_convert_bytes_arg _ 47 5 Try.underlying47 Try.underlying5 _ 0 4 4 [a, b, c, d] rfl ?_ _ Try.underlying9
  intro i hi
  match i, hi with
  | 0, _ => simp
  | 1, _ => simp
  | 2, _ => simp
  | 3, _ => simp

theorem four_val (n : W) : strOfNums [tn n / 16777216, tn n / 65536 % 256, tn n / 256 % 256, tn n % 256] = bs (be4 n) := by
  unfold strOfNums bs be4
  have h := n.isLt
  have e : ∀ k m : Nat, m = k → UInt8.ofNat m = UInt8.ofNat k := fun k m h => by rw [h]
  have e2 : ∀ k m : Nat, m = k % 256 → UInt8.ofNat m = UInt8.ofNat k := fun k m h => by
    apply UInt8.toNat_inj.1; rw [UInt8.toNat_ofNat', UInt8.toNat_ofNat']; omega
  congr 2
  simp only [List.map_cons, List.map_nil, List.cons.injEq, and_true]
  unfold tn
  exact ⟨e _ _ (by omega), e2 _ _ (by omega), e2 _ _ (by omega), e2 _ _ (by omega)⟩

theorem four_any (n : W) (w : World) : Calls Try.prog 30 #[.int .u32 (tn n)] w fun e w' => e = .returned (.string (bs (be4 n))) ∧ Below w.heap.size w w' := by
  have hn := tn_bd n
  have hc := conv4 w
  go_enter Try.func30, Try.ntmps30
  go_wp2
  go_ret
  exact ⟨ret_str (four_val n), (Below.refl _ _).alloc (Nat.le_refl _) _⟩
theorem four_ref (n : W) (w : World) : Calls Try.prog 32 #[.int .u32 (tn n)] w fun e w' => e = .returned (.string (bs (be4 n))) ∧ Below w.heap.size w w' := by
  have hn := tn_bd n
  have hc := conv4 w
  go_enter Try.func32, Try.ntmps32
  go_wp2
  go_ret
  exact ⟨ret_str (four_val n), (Below.refl _ _).alloc (Nat.le_refl _) _⟩

theorem on_ref (a : Int) (n : W) (ha : a = tn n) (s : ByteArray) (w : World) (hs : s.size ≤ maxLen) :
    Calls Try.prog 39 #[.int .u32 a, .string s] w fun e w' => e = .returned (.int .u32 (tn (on n (bl s)))) ∧ w = w' := by
  subst ha
  unfold maxLen at hs
  go_enter Try.func39, Try.ntmps39
  go_wp2
  go_loop [0, 5] (fun v0 v5 => ∃ k : Nat, k ≤ s.size ∧ v5 = .int .i64 k ∧ v0 = .int .u32 (tn (on n ((bl s).take k)))) (fun v0 v5 => s.size - (intOf v5).toNat)
  case atStart => exact ⟨0, by omega, rfl, rfl⟩
  case round =>
    obtain ⟨k, hk, rfl, rfl⟩ := hrel
    by_cases hlt : k < s.size
    · have ht := bl_take_succ s k hlt
      have HT : Hid (on n ((bl s).take (k + 1)) = byte (on n ((bl s).take k)) s[k]) := by rw [ht, on_append]; rfl
      clear ht
      go_wp2_with fail
      refine (step_any _ _ _).mono ?_
      rintro e w' ⟨rfl, rfl⟩
      go_wp2_with fail
      go_round
      case rel => exact ⟨k + 1, by omega, by go_num, by rw [HT.out]⟩
      case measure => simp [intOf]; omega
    · obtain rfl : k = s.size := by omega
      go_wp2
      go_ret
      exact ⟨ret_int (by rw [bl_take_all]), rfl⟩

/-! the table of half bytes -/
def half (i : Nat) : W := stepN 4 (BitVec.ofNat 32 i <<< 28)
def tabv : Value := .agg #[.int .u32 (tn (half 0)), .int .u32 (tn (half 1)), .int .u32 (tn (half 2)), .int .u32 (tn (half 3)), .int .u32 (tn (half 4)), .int .u32 (tn (half 5)), .int .u32 (tn (half 6)), .int .u32 (tn (half 7)), .int .u32 (tn (half 8)), .int .u32 (tn (half 9)), .int .u32 (tn (half 10)), .int .u32 (tn (half 11)), .int .u32 (tn (half 12)), .int .u32 (tn (half 13)), .int .u32 (tn (half 14)), .int .u32 (tn (half 15))]
theorem half_start (i : Nat) (h : i < 16) : (i : Int) * (268435456 : Int) = tn (stepN 0 (BitVec.ofNat 32 i <<< 28)) := by
  rw [stepN_nil]; unfold tn
  rw [BitVec.toNat_shiftLeft, BitVec.toNat_ofNat, Nat.shiftLeft_eq, Nat.mod_eq_of_lt (by omega), Nat.mod_eq_of_lt (by omega)]
  omega
set_option maxHeartbeats 400000 in
theorem halves_any (w : World) : Calls Try.prog 43 #[] w fun e w' => e = .returned tabv ∧ Below w.heap.size w w' := by
  go_enter Try.func43, Try.ntmps43
  go_wp2
  go_loopw [4] (fun v4 wr => ∃ (k : Nat) (c : Array Value), k ≤ 16 ∧ v4 = .int .i64 k ∧ c.size = 16 ∧ (∀ j, j < k → c[j]? = some (.int .u32 (tn (half j)))) ∧ wr = (w.alloc (.cells #[.int .u32 0, .int .u32 0, .int .u32 0, .int .u32 0, .int .u32 0, .int .u32 0, .int .u32 0, .int .u32 0, .int .u32 0, .int .u32 0, .int .u32 0, .int .u32 0, .int .u32 0, .int .u32 0, .int .u32 0, .int .u32 0] 78)).alloc (.cells c 78)) (fun v4 _ => 16 - (intOf v4).toNat)
  case atStart => exact ⟨0, _, by omega, rfl, rfl, by intro j hj; omega, rfl⟩
  case round =>
    obtain ⟨k, c, hk, rfl, hc, hcs, rfl⟩ := hrel
    have HC : Hid (∀ j, j < k → c[j]? = some (.int .u32 (tn (half j)))) := hcs
    clear hcs
    by_cases hlt : k < 16
    · have hs := half_start k hlt
      go_wp2
      go_loop [3, 10] (fun v3 v10 => ∃ j : Nat, j ≤ 4 ∧ v10 = .int .i64 j ∧ v3 = .int .u32 (tn (stepN j (BitVec.ofNat 32 k <<< 28)))) (fun _ v10 => 4 - (intOf v10).toNat)
      case atStart => exact ⟨0, by omega, rfl, rfl⟩
      case round =>
        obtain ⟨j, hj, rfl, rfl⟩ := hrel
        have hl := stepN_last j (BitVec.ofNat 32 k <<< 28)
        generalize hX0 : stepN j (BitVec.ofNat 32 k <<< 28) = X at hl ⊢
        have hX : Hid (stepN j (BitVec.ofNat 32 k <<< 28) = X) := hX0
        clear hX0 hs
        have HL : Hid (stepN (j + 1) (BitVec.ofNat 32 k <<< 28) = step1 X) := hl
        clear hl
        have hx := tn_bd X
        by_cases h4 : j < 4
        · by_cases hm : 2147483648 ≤ tn X
          · have ht : (tn X / 2147483648 == 1) = true := by rw [beq_iff_eq]; omega
            go_wp2
            go_round
            case rel => exact ⟨j + 1, by omega, by go_num, by rw [HL.out, step1_hi X hm]⟩
            case measure => simp [intOf]; omega
          · have ht : (tn X / 2147483648 == 1) = false := by rw [beq_eq_false_iff_ne]; omega
            go_wp2
            go_round
            case rel => exact ⟨j + 1, by omega, by go_num, by rw [HL.out, step1_lo X hm]⟩
            case measure => simp [intOf]; omega
        · obtain rfl : j = 4 := by omega
          have hX2 : X = half k := hX.out.symm
          subst hX2
          clear HL hX
          go_wp2
          refine ⟨⟨k + 1, _, by omega, by go_num, ?_, ?_, rfl⟩, by simp [intOf]; omega⟩
          · rw [Array.size_setIfInBounds]; exact hc
          · intro j hj
            by_cases e : j = k
            · subst e; rw [Array.getElem?_setIfInBounds_self_of_lt (by omega)]
            · rw [Array.getElem?_setIfInBounds_ne (by omega)]; exact HC.out j (by omega)
    · obtain rfl : k = 16 := by omega
      have hc16 : c = #[.int .u32 (tn (half 0)), .int .u32 (tn (half 1)), .int .u32 (tn (half 2)), .int .u32 (tn (half 3)), .int .u32 (tn (half 4)), .int .u32 (tn (half 5)), .int .u32 (tn (half 6)), .int .u32 (tn (half 7)), .int .u32 (tn (half 8)), .int .u32 (tn (half 9)), .int .u32 (tn (half 10)), .int .u32 (tn (half 11)), .int .u32 (tn (half 12)), .int .u32 (tn (half 13)), .int .u32 (tn (half 14)), .int .u32 (tn (half 15))] := by
        apply Array.ext_getElem?
        intro i
        by_cases hi : i < 16
        · rw [HC.out i hi]
          match i, hi with
          | 0, _ => rfl
          | 1, _ => rfl
          | 2, _ => rfl
          | 3, _ => rfl
          | 4, _ => rfl
          | 5, _ => rfl
          | 6, _ => rfl
          | 7, _ => rfl
          | 8, _ => rfl
          | 9, _ => rfl
          | 10, _ => rfl
          | 11, _ => rfl
          | 12, _ => rfl
          | 13, _ => rfl
          | 14, _ => rfl
          | 15, _ => rfl
          | n + 16, h => exact absurd h (by omega)
        · rw [Array.getElem?_eq_none (by omega), Array.getElem?_eq_none (by simp; omega)]
      subst hc16
      clear HC hc hlt hk
      go_wp2
      refine bodyPost_ret (v := tabv) (by simp [results, Try.results43, go_sem, tabv]) rfl ⟨rfl, ?_⟩
      go_grown
end Go.Proofs.Ytopmppnnihdnaaa.CrcT
