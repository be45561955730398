/- CRC: what the law CrcBurst computes. -/
import Derived.Test.YtfkaoeefngmomaaCrcLaws2
import Derived.Lib.ConvBytes
namespace Go.Proofs.Ytfkaoeefngmomaa
open Go.ChangeShapes Go.WideShapes Go.ChangeAt Go.RowKit
open CrcP
theorem opened_closed (l : List UInt8) : opened (closed l) = (l, 0) := by
  have h : (closed l).length = l.length + 4 := by simp [closed, be4]
  unfold opened
  rw [if_neg (by omega), if_neg (by simp [crc_closed]), h]
  simp [closed]
theorem hb_byte (r : Nat) (hr : r < 8) : BitVec.ofNat 32 (128 / 2 ^ r) <<< 24 = hb r := by
  have : ∀ r : Fin 8, BitVec.ofNat 32 (128 / 2 ^ r.val) <<< 24 = hb r.val := by decide +kernel
  exact this ⟨r, hr⟩
/-- a bit turned over -/
def flip (l : List UInt8) (k : Nat) : List UInt8 := l.set (k / 8) (l.getD (k / 8) 0 ^^^ UInt8.ofNat (128 / 2 ^ (k % 8)))
theorem flip_crc (l : List UInt8) (k : Nat) (hk : k < 8 * l.length) : crc (flip l k) = crc l ^^^ stepN (8 * l.length - k) (hb 0) := by
  have hj : k / 8 < l.length := by omega
  have hg : l.getD (k / 8) 0 = l[k / 8] := by simp [List.getD, List.getElem?_eq_getElem hj]
  unfold flip
  rw [hg, List.set_eq_take_append_cons_drop, if_pos hj]
  have hl : l = l.take (k / 8) ++ l[k / 8] :: l.drop (k / 8 + 1) := by
    rw [List.getElem_cons_drop hj, List.take_append_drop]
  unfold crc
  rw [on_set, ← hl]
  congr 1
  have h8 : k % 8 < 8 := Nat.mod_lt _ (by omega)
  have h128 : (UInt8.ofNat (128 / 2 ^ (k % 8))).toNat = 128 / 2 ^ (k % 8) := by
    have : ∀ r : Fin 8, (UInt8.ofNat (128 / 2 ^ r.val)).toNat = 128 / 2 ^ r.val := by decide +kernel
    exact this ⟨k % 8, h8⟩
  rw [h128, hb_byte _ h8]
  have e : 8 * ((l.drop (k / 8 + 1)).length + 1) = k % 8 + (8 * l.length - k) := by rw [List.length_drop]; omega
  rw [e, stepN_add, step_hb _ (by omega) _ (Nat.le_refl _), Nat.sub_self]
theorem top_crc (p : W) (i m : Nat) (hi : i < 32) (hm : 32 ≤ m) (h : p.getLsbD (31 - i) = true) : stepN m (top p (i + 1)) = stepN m (top p i) ^^^ stepN (m - i) (hb 0) := by
  have e : m = i + (m - i) := by omega
  show stepN m (if p.getLsbD (31 - i) then top p i ^^^ hb i else top p i) = _
  rw [if_pos h, stepN_xor]
  congr 1
  conv => lhs; rw [e]
  rw [stepN_add, step_hb _ hi _ (Nat.le_refl _), Nat.sub_self]
theorem top_same (p : W) (i : Nat) (h : ¬ p.getLsbD (31 - i) = true) : top p (i + 1) = top p i := by
  show (if p.getLsbD (31 - i) then top p i ^^^ hb i else top p i) = _
  rw [if_neg h]
theorem bit_tn (p : W) (j : Nat) : (bits .and .u32 (tn p / (2 : Int) ^ j) (1 : Int) == (1 : Int)) = p.getLsbD j := by
  have hp := p.isLt
  have e : tn p / (2 : Int) ^ j = ((p.toNat / 2 ^ j : Nat) : Int) := by unfold tn; norm_cast
  have hlt : p.toNat / 2 ^ j < 4294967296 := Nat.lt_of_le_of_lt (Nat.div_le_self _ _) hp
  rw [e, show (1 : Int) = ((1 : Nat) : Int) from rfl, u32_and_nat _ 1 hlt (by omega), Nat.and_one_is_mod]
  rw [BitVec.getLsbD, Nat.testBit_eq_decide_div_mod_eq, Bool.eq_iff_iff, beq_iff_eq, decide_eq_true_iff]
  omega
/-- the row of bytes that the law changes -/
structure Row (w wr : World) (B n : Nat) (l : List UInt8) : Prop where
  len : l.length = n
  cell : ∀ j, j < n → wr.cell? ⟨B, j, none⟩ = some (.int .u8 ((l.getD j 0).toNat : Int))
  free : ∀ j, j < n → wr.frozen? ⟨B, j, none⟩ = false
  new : w.heap.size ≤ B
  bel : Below w.heap.size w wr
theorem xor_byte (y : UInt8) (r : Nat) (hr : r < 8) : bits .xor .u8 (y.toNat : Int) ((128 : Int) / (2 : Int) ^ r) = ((y ^^^ UInt8.ofNat (128 / 2 ^ r)).toNat : Int) := by
  have h128 : (UInt8.ofNat (128 / 2 ^ r)).toNat = 128 / 2 ^ r := by
    have : ∀ r : Fin 8, (UInt8.ofNat (128 / 2 ^ r.val)).toNat = 128 / 2 ^ r.val := by decide +kernel
    exact this ⟨r, hr⟩
  have e : (128 : Int) / (2 : Int) ^ r = ((128 / 2 ^ r : Nat) : Int) := by norm_cast
  have hy := y.toNat_lt
  have hlt : 128 / 2 ^ r < 256 := Nat.lt_of_le_of_lt (Nat.div_le_self _ _) (by omega)
  rw [e, u8_xor_nat _ _ (by omega) hlt, UInt8.toNat_xor, h128]
theorem Row.turn {w wr : World} {B n : Nat} {l : List UInt8} (h : Row w wr B n l) (k : Nat) (hk : k / 8 < n) :
    Row w (wr.setCell ⟨B, k / 8, none⟩ (.int .u8 (bits .xor .u8 ((l.getD (k / 8) 0).toNat : Int) ((128 : Int) / (2 : Int) ^ (k % 8))))) B n (flip l k) := by
  refine ⟨by unfold flip; rw [List.length_set]; exact h.len, ?_, ?_, h.new, h.bel.setCell h.new _⟩
  · intro j hj
    by_cases e : j = k / 8
    · subst e
      rw [World.cell?_setCell_same _ _ _ (h.cell _ hk), xor_byte _ _ (Nat.mod_lt _ (by omega))]
      unfold flip
      simp [List.getD, h.len, hk]
    · rw [World.cell?_setCell_other _ _ _ _ (by intro h2; apply e; injection h2 with _ h3; exact h3.symm), h.cell j hj]
      unfold flip
      simp [List.getD, Ne.symm e]
  · intro j hj
    rw [World.frozen?_setCell]
    exact h.free j hj
theorem Row.text {w wr : World} {B n : Nat} {l : List UInt8} (h : Row w wr B n l) (c : Nat) :
    (convert 35 9 (.slice (some ⟨B, 0, none⟩) n c)).run Try.prog wr = .ok (.string (bs l)) wr := by
  rw [run_convert_bytes_arg wr 35 5 Try.underlying35 Try.underlying5 B 0 n c (l.map fun b => (b.toNat : Int)) (by rw [List.length_map]; exact h.len) ?_ _ Try.underlying9]
  · congr 2
    unfold strOfNums bs
    rw [List.map_map]
    congr 2
    conv => rhs; rw [← List.map_id l]
    apply List.map_congr_left
    intro b _
    simp
  · intro i hi
    rw [Nat.zero_add, h.cell i hi]
    simp [List.getD, h.len, hi]
set_option maxHeartbeats 1000000 in
theorem burst_core (s : ByteArray) (hs : s.size ≤ 3000) (a : Nat) (ha : a + 32 ≤ 8 * (s.size + 4)) (p : W) (hp : p ≠ 0#32) (w : World) :
    Calls Try.prog 5 #[.string s, .int .i64 (a : Int), .int .u32 (tn p)] w fun e w' => e = .returned (.bool true) ∧ Below w.heap.size w w' := by
  have hpb := tn_bd p
  have hp0 : (tn p == 0) = false := by
    rw [beq_eq_false_iff_ne]; intro h; apply hp; apply BitVec.eq_of_toNat_eq; unfold tn at h; simp; omega
  have hl := bl_len s
  have hcl : (closed (bl s)).length = s.size + 4 := by simp [closed, be4, hl]
  have HO := Lib.hid (opened_closed (bl s))
  have HC := Lib.hid (crc_closed (bl s))
  generalize hT : closed (bl s) = T at *
  have kc := fun (w : World) => Lib.run_convert_string_bytes (P := Try.prog) w 9 35 5 (bs T) Try.underlying9 Try.underlying35 Try.underlying5
  go_enter Try.func5, Try.ntmps5
  go_wp2_with fail
  refine (closed_any _ _ (by omega)).mono ?_
  rw [hT]
  clear hT
  rintro e w1 ⟨rfl, hb⟩
  go_wp2_with fail
  refine (opened_any _ _ (by rw [bs_size]; omega)).mono ?_
  rw [bl_bs, HO.out]
  rintro e w2 ⟨rfl, hb2⟩
  replace hb := bt hb hb2; clear hb2
  have hsl : (bl s == s.toList) = true := by rw [ByteArray.toList_eq]; exact beq_self_eq_true _
  go_wp2_with fail
  have hrow0 : Row w (Lib.bytesWorld w2 5 (bs T)) w2.heap.size (s.size + 4) T := by
    refine ⟨hcl, ?_, ?_, hb.size, ?_⟩
    · intro j hj; exact Lib.bytesWorld_cell w2 5 (bs T) j (by rw [bs_size]; omega)
    · intro j hj
      unfold World.frozen?
      rw [Lib.bytesWorld_at_new]
      have : (Lib.bytesCells w2 5 (bs T)).size ≥ s.size + 4 := by
        unfold Lib.bytesCells; simp [bs]; omega
      simp; omega
    · exact bt hb ⟨rfl, rfl, rfl, by rw [Lib.bytesWorld_size]; omega, fun k hk => Lib.bytesWorld_at_old w2 5 (bs T) k hk⟩
  have HR := Lib.hid hrow0
  clear hrow0
  go_loopw [11] (fun v11 wr => ∃ i : Nat, i ≤ 32 ∧ v11 = .int .i64 i ∧ ∃ l, Row w wr w2.heap.size (s.size + 4) l ∧ crc l = stepN (8 * (s.size + 4) - a) (top p i)) (fun v11 _ => 32 - (intOf v11).toNat)
  case atStart => exact ⟨0, by omega, rfl, T, HR.out, by rw [HC.out]; exact (stepN_zero _).symm⟩
  case round =>
    obtain ⟨i, hi, rfl, l, hrow, hcrc⟩ := hrel
    have HROW := Lib.hid hrow
    have HCRC := Lib.hid hcrc
    clear hrow hcrc
    by_cases h32 : i < 32
    · have hbit := bit_tn p (31 - i)
      by_cases hp1 : p.getLsbD (31 - i) = true
      · rw [hp1] at hbit
        have hk : (a + i) / 8 < s.size + 4 := by omega
        have hcell := HROW.out.cell ((a + i) / 8) hk
        have hfree := HROW.out.free ((a + i) / 8) hk
        have hby := byte_bd (l.getD ((a + i) / 8) 0)
        generalize hy0 : l.getD ((a + i) / 8) 0 = y at hcell hby
        have HY := Lib.hid hy0
        clear hy0
        go_wp2_with fail
        refine ⟨⟨i + 1, by omega, by go_num, flip l (a + i), ?_, ?_⟩, by simp [intOf]; omega⟩
        · have ht := HROW.out.turn (a + i) hk
          rw [HY.out] at ht
          exact ht
        · rw [flip_crc l (a + i) (by rw [HROW.out.len]; omega), HCRC.out, HROW.out.len, top_crc p i _ h32 (by omega) hp1, Nat.sub_sub]
      · have hp2 : p.getLsbD (31 - i) = false := by simpa using hp1
        rw [hp2] at hbit
        go_wp2_with fail
        refine ⟨⟨i + 1, by omega, by go_num, l, HROW.out, ?_⟩, by simp [intOf]; omega⟩
        rw [HCRC.out, top_same p i hp1]
    · obtain rfl : i = 32 := by omega
      have htx := HROW.out.text (grownCap w2 (s.size + 4) 0 5)
      have hne : crc l ≠ 0#32 := by
        rw [HCRC.out, top_all]
        intro h
        exact hp (stepN_inj _ (h.trans (stepN_zero _).symm))
      have hop : opened l = ([], 7) := by
        unfold opened; rw [if_neg (by rw [HROW.out.len]; omega), if_pos hne]
      have HOP := Lib.hid hop
      have HLEN := Lib.hid HROW.out.len
      have HB := HROW.out.bel
      clear hop hne HR HC HO hb hcl
      go_wp2_with fail
      refine (opened_any _ _ (by rw [bs_size, HLEN.out]; omega)).mono ?_
      rw [bl_bs, HOP.out]
      rintro e w3 ⟨rfl, hb2⟩
      replace HB := bt HB hb2; clear hb2
      go_wp2_with fail
      refine (awake_any _).mono ?_
      rintro e w4 ⟨rfl, hb2⟩
      replace HB := bt HB hb2; clear hb2
      go_wp2_with fail
      go_ret
      exact ⟨rfl, HB⟩
/-- where the law asks nothing -/
theorem burst_none (s : ByteArray) (hs : s.size ≤ 3000) (a : Int) (ha0 : -9223372036854775808 ≤ a ∧ a ≤ 9223372036854775807) (p : W) (w : World)
    (h : (tn p == 0) = true ∨ a < 0 ∨ 8 * ((s.size : Int) + 4) - 32 < a) :
    Calls Try.prog 5 #[.string s, .int .i64 a, .int .u32 (tn p)] w fun e w' => e = .returned (.bool true) ∧ Below w.heap.size w w' := by
  have hpb := tn_bd p
  have hl := bl_len s
  have hcl : (closed (bl s)).length = s.size + 4 := by simp [closed, be4, hl]
  have HO := Lib.hid (opened_closed (bl s))
  generalize hT : closed (bl s) = T at *
  go_enter Try.func5, Try.ntmps5
  go_wp2_with fail
  refine (closed_any _ _ (by omega)).mono ?_
  rw [hT]
  clear hT
  rintro e w1 ⟨rfl, hb⟩
  go_wp2_with fail
  refine (opened_any _ _ (by rw [bs_size]; omega)).mono ?_
  rw [bl_bs, HO.out]
  rintro e w2 ⟨rfl, hb2⟩
  replace hb := bt hb hb2; clear hb2
  have hsl : (bl s == s.toList) = true := by rw [ByteArray.toList_eq]; exact beq_self_eq_true _
  rcases h with h | h | h
  · go_wp2_with fail
    refine (awake_any _).mono ?_
    rintro e w3 ⟨rfl, hb2⟩
    replace hb := bt hb hb2; clear hb2
    go_wp2_with fail
    go_ret
    exact ⟨rfl, hb⟩
  · cases hp0 : (tn p == 0)
    all_goals
      go_wp2_with fail
      refine (awake_any _).mono ?_
      rintro e w3 ⟨rfl, hb2⟩
      replace hb := bt hb hb2; clear hb2
      go_wp2_with fail
      go_ret
      exact ⟨rfl, hb⟩
  · cases hp0 : (tn p == 0)
    · by_cases h0 : a < 0
      all_goals
        go_wp2_with fail
        refine (awake_any _).mono ?_
        rintro e w3 ⟨rfl, hb2⟩
        replace hb := bt hb hb2; clear hb2
        go_wp2_with fail
        go_ret
        exact ⟨rfl, hb⟩
    · go_wp2_with fail
      refine (awake_any _).mono ?_
      rintro e w3 ⟨rfl, hb2⟩
      replace hb := bt hb hb2; clear hb2
      go_wp2_with fail
      go_ret
      exact ⟨rfl, hb⟩
set_option linter.unusedVariables false in
theorem crcBurst_law (s : ByteArray) (hm : s.size ≤ maxLen) (a : Int) (ha : (Lit.int .i64 a).wf = true) (n : Int) (hn : (Lit.int .u32 n).wf = true) (w : World) :
    Calls Try.prog 5 #[.string s, .int .i64 a, .int .u32 n] w fun e w' => e = .returned (.bool true) ∧ Below w.heap.size w w' := by
  have ha2 : -9223372036854775808 ≤ a ∧ a ≤ 9223372036854775807 := by simpa [Lit.wf, IntKind.min, IntKind.max, IntKind.signed, IntKind.bits] using ha
  rw [of_wf32 hn]
  clear ha
  generalize BitVec.ofNat 32 n.toNat = p
  by_cases h3 : 3000 < s.size
  · have hpb := tn_bd p
    go_enter Try.func5, Try.ntmps5
    go_wp2_with fail
    refine (awake_any _).mono ?_
    rintro e w1 ⟨rfl, hb⟩
    go_wp2_with fail
    go_ret
    exact ⟨rfl, hb⟩
  · by_cases hp : p = 0#32
    · exact burst_none s (by omega) a ha2 p w (.inl (by rw [hp]; decide))
    · by_cases h0 : a < 0
      · exact burst_none s (by omega) a ha2 p w (.inr (.inl h0))
      · by_cases h1 : 8 * ((s.size : Int) + 4) - 32 < a
        · exact burst_none s (by omega) a ha2 p w (.inr (.inr h1))
        · obtain ⟨k, rfl⟩ := Int.eq_ofNat_of_zero_le (show 0 ≤ a by omega)
          exact burst_core s (by omega) k (by omega) p hp w
end Go.Proofs.Ytfkaoeefngmomaa
