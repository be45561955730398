/- CRC: the contracts of Of, Seal, Unseal, in both packages. -/
import Derived.Test.YtopmppnnihdnaaaCrcOnT
namespace Go.Proofs.Ytopmppnnihdnaaa.CrcT
set_option linter.unusedVariables false
set_option linter.unusedSimpArgs false
open Go.ChangeShapes Go.WideShapes Go.ChangeAt Go.RowKit
open CrcP
def ini : W := 0xffffffff#32
def crc (l : List UInt8) : W := on ini l
def closed (l : List UInt8) : List UInt8 := l ++ be4 (crc l)
def opened (l : List UInt8) : List UInt8 × Int := if l.length < 4 then ([], 4) else if crc l ≠ 0#32 then ([], 7) else (l.take (l.length - 4), 0)
theorem be4_size (t : W) : (be4 t).length ≤ 4 := Nat.le_refl _
theorem ret_si {a b : ByteArray} {x y : Int} (h : a = b) (g : x = y) : Ending.returned (.tuple #[.string a, .int .i64 x]) = .returned (.tuple #[.string b, .int .i64 y]) := by rw [h, g]
theorem bl_extract (s : ByteArray) (a b : Nat) : bl (s.extract a b) = ((bl s).take b).drop a := by
  unfold bl; simp [ByteArray.data_extract, List.drop_take]
theorem bl_inj {s t : ByteArray} (h : bl s = bl t) : s = t := by
  apply ByteArray.ext; apply Array.toList_inj.1; exact h
theorem bl_extract0 (s : ByteArray) (b : Nat) : s.extract 0 b = bs ((bl s).take b) := by
  apply bl_inj; rw [bl_extract, bl_bs, List.drop_zero]
theorem bl_extract_end (s : ByteArray) (a : Nat) : s.extract a s.size = bs ((bl s).drop a) := by
  apply bl_inj; rw [bl_extract, bl_bs, ← bl_len, List.take_length]
theorem emp_bs : ({ data := #[] } : ByteArray) = bs [] := rfl
theorem ini_tn : (4294967295 : Int) = tn ini := by decide
theorem opened_cmp (s : ByteArray) (h4 : ¬ s.size < 4) : (be4 (crc (bl (s.extract 0 (s.size - 4)))) == (s.extract (s.size - 4) s.size).toList) = decide (crc (bl s) = 0#32) := by
  have hl := bl_len s
  have e : crc (bl s) = on (crc ((bl s).take (s.size - 4))) ((bl s).drop (s.size - 4)) := by
    unfold crc; rw [← on_append, List.take_append_drop]
  rw [ByteArray.toList_eq, bl_extract0, bl_extract_end, e, Bool.eq_iff_iff, beq_iff_eq, decide_eq_true_iff,
    on_four_iff _ _ (by rw [List.length_drop]; omega)]
  show be4 _ = List.drop _ _ ↔ _
  rw [bl_bs]
  exact ⟨fun h => h.symm, fun h => h.symm⟩
theorem of_any (s : ByteArray) (w : World) (hs : s.size ≤ maxLen) :
    Calls Try.prog 31 #[.string s] w fun e w' => e = .returned (.int .u32 (tn (crc (bl s)))) ∧ Below w.heap.size w w' := by
  go_enter Try.func31, Try.ntmps31
  go_wp2_with fail
  refine (on_any _ ini ini_tn s _ hs).mono ?_
  rintro e w1 ⟨rfl, hb1⟩
  go_wp2_with fail
  go_ret
  exact ⟨rfl, hb1⟩
theorem of_ref (s : ByteArray) (w : World) (hs : s.size ≤ maxLen) :
    Calls Try.prog 33 #[.string s] w fun e w' => e = .returned (.int .u32 (tn (crc (bl s)))) ∧ w = w' := by
  go_enter Try.func33, Try.ntmps33
  go_wp2_with fail
  refine (on_ref _ ini ini_tn s _ hs).mono ?_
  rintro e w1 ⟨rfl, rfl⟩
  go_wp2_with fail
  go_ret
  exact ⟨rfl, rfl⟩
theorem closed_any (s : ByteArray) (w : World) (hs : s.size ≤ 1000000) :
    Calls Try.prog 19 #[.string s] w fun e w' => e = .returned (.string (bs (closed (bl s)))) ∧ Below w.heap.size w w' := by
  have hm : s.size ≤ maxLen := by unfold maxLen; omega
  go_enter Try.func19, Try.ntmps19
  go_wp2_with fail
  refine (of_any _ _ hm).mono ?_
  rintro e w1 ⟨rfl, hb1⟩
  go_wp2_with fail
  refine (four_any _ _).mono ?_
  rintro e w2 ⟨rfl, hb2⟩
  have hz := be4_size (crc (bl s))
  go_wp2_with fail
  go_ret
  refine ⟨ret_str ?_, hb1.trans (hb2.mono hb1.size)⟩
  rw [← bs_bl s, bs_append, bl_bs]; rfl
theorem opened_any (s : ByteArray) (w : World) (hs : s.size ≤ 1000000) :
    Calls Try.prog 26 #[.string s] w fun e w' => e = .returned (.tuple #[.string (bs (opened (bl s)).1), .int .i64 (opened (bl s)).2]) ∧ Below w.heap.size w w' := by
  have hm : s.size ≤ maxLen := by unfold maxLen; omega
  have hl := bl_len s
  by_cases h4 : s.size < 4
  · have hu : opened (bl s) = ([], 4) := by unfold opened; rw [if_pos (by omega)]
    rw [hu]
    clear hu hl
    go_enter Try.func26, Try.ntmps26
    go_wp2_with fail
    go_ret2
    exact ⟨rfl, Below.refl _ _⟩
  · by_cases hz : crc (bl s) = 0#32
    · have hu : opened (bl s) = ((bl s).take (s.size - 4), 0) := by unfold opened; rw [if_neg (by omega), if_neg (by simp [hz]), hl]
      rw [hu]
      have hz2 : (tn (crc (bl s)) != 0) = false := by rw [hz]; decide
      clear hu hl hz
      go_enter Try.func26, Try.ntmps26
      go_wp2_with fail
      refine (of_any _ _ hm).mono ?_
      rintro e w1 ⟨rfl, hb1⟩
      go_wp2_with fail
      go_ret2
      exact ⟨ret_si (bl_extract0 _ _) rfl, hb1⟩
    · have hu : opened (bl s) = ([], 7) := by unfold opened; rw [if_neg (by omega), if_pos hz]
      rw [hu]
      have hz2 : (tn (crc (bl s)) != 0) = true := by
        rw [bne_iff_ne]; intro h; apply hz; apply BitVec.eq_of_toNat_eq; unfold tn at h; simp; omega
      clear hu hl hz
      go_enter Try.func26, Try.ntmps26
      go_wp2_with fail
      refine (of_any _ _ hm).mono ?_
      rintro e w1 ⟨rfl, hb1⟩
      go_wp2_with fail
      go_ret2
      exact ⟨rfl, hb1⟩
theorem closed_ref (s : ByteArray) (w : World) (hs : s.size ≤ 1000000) :
    Calls Try.prog 21 #[.string s] w fun e w' => e = .returned (.string (bs (closed (bl s)))) ∧ Below w.heap.size w w' := by
  have hm : s.size ≤ maxLen := by unfold maxLen; omega
  go_enter Try.func21, Try.ntmps21
  go_wp2_with fail
  refine (of_ref _ _ hm).mono ?_
  rintro e w1 ⟨rfl, rfl⟩
  go_wp2_with fail
  refine (four_ref _ _).mono ?_
  rintro e w2 ⟨rfl, hb2⟩
  have hz := be4_size (crc (bl s))
  go_wp2_with fail
  go_ret
  refine ⟨ret_str ?_, hb2⟩
  rw [← bs_bl s, bs_append, bl_bs]; rfl
set_option maxHeartbeats 1000000 in
theorem opened_ref (s : ByteArray) (w : World) (hs : s.size ≤ 1000000) :
    Calls Try.prog 28 #[.string s] w fun e w' => e = .returned (.tuple #[.string (bs (opened (bl s)).1), .int .i64 (opened (bl s)).2]) ∧ Below w.heap.size w w' := by
  have hm : s.size ≤ maxLen := by unfold maxLen; omega
  have hl := bl_len s
  by_cases h4 : s.size < 4
  · have hu : opened (bl s) = ([], 4) := by unfold opened; rw [if_pos (by omega)]
    rw [hu]
    clear hu hl
    go_enter Try.func28, Try.ntmps28
    go_wp2_with fail
    go_ret2
    exact ⟨rfl, Below.refl _ _⟩
  · have hcmp := opened_cmp s h4
    have hn : ((s.size : Int) - (4 : Int)).toNat = s.size - 4 := by omega
    have he0 := bl_extract0 s (s.size - 4)
    have HE : Hid (s.extract 0 (s.size - 4) = bs ((bl s).take (s.size - 4))) := he0
    clear he0
    by_cases hz : crc (bl s) = 0#32
    · have hu : opened (bl s) = ((bl s).take (s.size - 4), 0) := by unfold opened; rw [if_neg (by omega), if_neg (by simp [hz]), hl]
      rw [hu]
      rw [hz] at hcmp
      clear hu hl hz
      go_enter Try.func28, Try.ntmps28
      go_wp2_with fail
      go_region_with (first | (go_at_call 33; refine (of_ref _ _ (by simp [maxLen]; omega)).mono ?_; rintro e w1 ⟨rfl, rfl⟩) | (go_at_call 32; refine (four_ref _ _).mono ?_; rintro e w2 ⟨rfl, hb2⟩))
      all_goals
        go_wp2_with fail
        go_ret2
        exact ⟨ret_si HE.out rfl, undrew hb2⟩
    · have hu : opened (bl s) = ([], 7) := by unfold opened; rw [if_neg (by omega), if_pos hz]
      rw [hu]
      rw [decide_eq_false hz] at hcmp
      clear hu hl hz
      go_enter Try.func28, Try.ntmps28
      go_wp2_with fail
      go_region_with (first | (go_at_call 33; refine (of_ref _ _ (by simp [maxLen]; omega)).mono ?_; rintro e w1 ⟨rfl, rfl⟩) | (go_at_call 32; refine (four_ref _ _).mono ?_; rintro e w2 ⟨rfl, hb2⟩))
      all_goals
        go_wp2_with fail
        go_ret2
        exact ⟨rfl, undrew hb2⟩
end Go.Proofs.Ytopmppnnihdnaaa.CrcT
