/- CRC: the contract of crc.On, by the table of half bytes. -/
import Derived.Test.YtopmppnnihdnaaaCrcWalkT
namespace Go.Proofs.Ytopmppnnihdnaaa.CrcT
set_option linter.unusedVariables false
set_option linter.unusedSimpArgs false
open Go.ChangeShapes Go.WideShapes Go.ChangeAt Go.RowKit
open CrcP
theorem half_xor (Y : W) : bits .xor .u32 (tn Y * (16 : Int) % (4294967296 : Int)) (tn (half (tn Y / (268435456 : Int)).toNat)) = tn (stepN 4 Y) := by
  have e : tn Y * (16 : Int) % (4294967296 : Int) = tn (Y <<< 4) := by
    unfold tn; rw [BitVec.toNat_shiftLeft, Nat.shiftLeft_eq]; omega
  have h := Y.isLt
  have e2 : (tn Y / (268435456 : Int)).toNat = (Y >>> 28).toNat := by
    unfold tn; rw [BitVec.toNat_ushiftRight, Nat.shiftRight_eq_div_pow]; omega
  have e3 : half (Y >>> 28).toNat = stepN 4 ((Y >>> 28) <<< 28) := by
    unfold half; rw [BitVec.ofNat_toNat, BitVec.setWidth_eq]
  rw [e, e2, e3, xorW, ← step4_split Y]
theorem half_lt (Y : W) : (tn Y / (268435456 : Int)).toNat < 16 := by have := tn_bd Y; omega
def tab16 : Array Value := #[.int .u32 (tn (half 0)), .int .u32 (tn (half 1)), .int .u32 (tn (half 2)), .int .u32 (tn (half 3)), .int .u32 (tn (half 4)), .int .u32 (tn (half 5)), .int .u32 (tn (half 6)), .int .u32 (tn (half 7)), .int .u32 (tn (half 8)), .int .u32 (tn (half 9)), .int .u32 (tn (half 10)), .int .u32 (tn (half 11)), .int .u32 (tn (half 12)), .int .u32 (tn (half 13)), .int .u32 (tn (half 14)), .int .u32 (tn (half 15))]
theorem tab16_at (i : Nat) (hi : i < 16) : tab16[i]? = some (.int .u32 (tn (half i))) := by
  match i, hi with
  | 0, _ => rfl
  | 1, _ => rfl
  | 2, _ => rfl
  | 3, _ => rfl
  | 4, _ => rfl
  | 5, _ => rfl
  | 6, _ => rfl
  | 7, _ => rfl
  | 8, _ => rfl
  | 9, _ => rfl
  | 10, _ => rfl
  | 11, _ => rfl
  | 12, _ => rfl
  | 13, _ => rfl
  | 14, _ => rfl
  | 15, _ => rfl
  | n + 16, h => exact absurd h (by omega)
theorem tab_cell (w : World) (Y : W) : (w.alloc (.cells tab16 78)).cell? ⟨w.heap.size, (tn Y / (268435456 : Int)).toNat, none⟩ = some (.int .u32 (tn (half (tn Y / (268435456 : Int)).toNat))) := by
  rw [World.cell?_alloc_new, tab16_at _ (half_lt Y)]
set_option maxHeartbeats 400000 in
theorem on_any (a : Int) (n : W) (ha : a = tn n) (s : ByteArray) (w : World) (hs : s.size ≤ maxLen) :
    Calls Try.prog 38 #[.int .u32 a, .string s] w fun e w' => e = .returned (.int .u32 (tn (on n (bl s)))) ∧ Below w.heap.size w w' := by
  subst ha
  unfold maxLen at hs
  go_enter Try.func38, Try.ntmps38
  go_wp2_with fail
  refine (halves_any _).mono ?_
  rintro e w1 ⟨rfl, hb1⟩
  unfold tabv
  go_wp2_with fail
  have hcell := tab_cell w1
  unfold tab16 at hcell
  have hbel : Below w.heap.size w (w1.alloc (.cells tab16 78)) := hb1.alloc hb1.size _
  unfold tab16 at hbel
  generalize w1.alloc _ = W2 at hcell hbel ⊢
  have HC : Hid (∀ Y, W2.cell? ⟨w1.heap.size, (tn Y / (268435456 : Int)).toNat, none⟩ = some (.int .u32 (tn (half (tn Y / (268435456 : Int)).toNat)))) := hcell
  clear hcell
  go_loop [0, 6] (fun v0 v6 => ∃ k : Nat, k ≤ s.size ∧ v6 = .int .i64 k ∧ v0 = .int .u32 (tn (on n ((bl s).take k)))) (fun _ v6 => s.size - (intOf v6).toNat)
  case atStart => exact ⟨0, by omega, rfl, rfl⟩
  case round =>
    obtain ⟨k, hk, rfl, rfl⟩ := hrel
    by_cases hlt : k < s.size
    · have ht := bl_take_succ s k hlt
      have HT : Hid (on n ((bl s).take (k + 1)) = byte (on n ((bl s).take k)) s[k]) := by rw [ht, on_append]; rfl
      clear ht
      generalize on n ((bl s).take k) = X at HT ⊢
      have hX := tn_bd X
      have hb := byte_bd s[k]
      have e1 : bits .xor .u32 (tn X) ((s[k].toNat : Int) * (16777216 : Int)) = tn (X ^^^ (BitVec.ofNat 32 s[k].toNat <<< 24)) := by rw [byteW, xorW]
      have HB : Hid (byte X s[k] = stepN 4 (stepN 4 (X ^^^ (BitVec.ofNat 32 s[k].toNat <<< 24)))) := by unfold byte; exact stepN_add 4 4 _
      generalize X ^^^ (BitVec.ofNat 32 s[k].toNat <<< 24) = Y at e1 HB
      have hY := tn_bd Y
      have hc1 := HC.out Y
      have hh1 := half_xor Y
      generalize stepN 4 Y = Z at hh1 HB
      have hZ := tn_bd Z
      have hc2 := HC.out Z
      have hh2 := half_xor Z
      generalize stepN 4 Z = V at hh2 HB
      have hl1 := half_lt Y
      have hl2 := half_lt Z
      go_wp2
      go_round
      case rel => exact ⟨k + 1, by omega, by go_num, by rw [HT.out, HB.out]⟩
      case measure => simp [intOf]; omega
    · obtain rfl : k = s.size := by omega
      go_wp2
      go_ret
      exact ⟨ret_int (by rw [bl_take_all]), hbel⟩
end Go.Proofs.Ytopmppnnihdnaaa.CrcT
