/- Numbers as bytes: the contracts of packages num and rubatoref05, the numbers. -/
import Derived.Test.YtopmppnnihdnaaaBytes
import Derived.Test.YtopmppnnihdnaaaShelf
import Derived.Test.YtopmppnnihdnaaaNumPlain
import Derived.Laws.MakeOwn
namespace Go.Proofs.Ytopmppnnihdnaaa
set_option linter.unusedVariables false
set_option linter.unusedSimpArgs false
open Go.ChangeShapes Go.WideShapes Go.ChangeAt Go.RowKit
open NumP
set_option maxRecDepth 100000
theorem size_neg {n : Int} (h : n < 0) : sizeN n = 0 := by unfold sizeN putN; rw [if_pos h]; rfl
theorem size_one {n : Int} (h : ¬ n < 0) (h2 : n < 128) : sizeN n = 1 := by unfold sizeN putN; rw [if_neg h, if_pos h2]; rfl
theorem size_many {n : Int} (h : ¬ n < 128) : sizeN n = 1 + ((be n.toNat).length : Int) := by
  unfold sizeN putN; rw [if_neg (by omega), if_neg h]; simp; omega
theorem size_len {n : Int} (h : ¬ n < 128) (h2 : n ≤ 9223372036854775807) : sizeN n = 1 + ((Lib.bitLen n.toNat : Int) + 7) / 8 := by
  rw [size_many h, be_length n.toNat (by omega) (by omega)]; omega
theorem bitLen_le64 (n : Nat) (h : n < 2 ^ 64) (h0 : n ≠ 0) : Lib.bitLen n ≤ 64 := by
  have := be_length n h0 h
  have h8 := be_le n
  omega
theorem size_any (n : Int) (w : World) (h0 : -9223372036854775808 ≤ n) (h1 : n ≤ 9223372036854775807) :
    Calls Try.prog 24 #[.int .i64 n] w fun e w' => e = .returned (.int .i64 (sizeN n)) ∧ w = w' := by
  by_cases hn : n < 0
  · rw [size_neg hn]
    go_enter Try.func24, Try.ntmps24
    go_wp2_with fail
    go_ret
    exact ⟨rfl, rfl⟩
  · by_cases h128 : n < 128
    · rw [size_one hn h128]
      go_enter Try.func24, Try.ntmps24
      go_wp2_with fail
      go_ret
      exact ⟨rfl, rfl⟩
    · rw [size_len h128 h1]
      have hL := bitLen_le64 n.toNat (by omega) (by omega)
      go_enter Try.func24, Try.ntmps24
      go_wp2_with fail
      refine (Try.bits_Len _ _ (by omega) (by omega)).mono ?_
      rintro e w1 ⟨rfl, rfl⟩
      go_wp2_with fail
      go_ret
      exact ⟨rfl, rfl⟩
/-- one byte -/
theorem put_one {n : Int} (h : ¬ n < 0) (h2 : n < 128) : putN n = ([UInt8.ofNat n.toNat], 0) := by unfold putN; rw [if_neg h, if_pos h2]
theorem put_neg {n : Int} (h : n < 0) : putN n = ([], 2) := by unfold putN; rw [if_pos h]
theorem put_many {n : Int} (h : ¬ n < 128) : putN n = (UInt8.ofNat (128 + (be n.toNat).length) :: be n.toNat, 0) := by unfold putN; rw [if_neg (by omega), if_neg h]
theorem infoU8 : (Try.prog.info? 5).map (fun i => (i.zero, i.size, i.bytes)) = some (some (.int .u8 0), 1, 1) := by kernel_rfl
/-- a row of n noughts -/
theorem make_bytes (w : World) (m : Int) (n : Nat) (hm : m = (n : Int)) (h : n ≤ 1000000) : (Instr.makeSlice 47 (.int .i64 m) (.int .i64 m)).run Try.prog w = .ok (.slice (some ⟨w.heap.size, 0, none⟩) n n) (w.alloc (.cells (madeCells #[.int .u8 0] n) 5)) := by
  subst hm
  obtain ⟨i0, hi, hz0, hz1, hz2⟩ := info_parts infoU8
  have := run_make (P := Try.prog) w 47 5 i0 (.int .u8 0) Try.underlying47 hi hz0 .i64 .i64 (n : Int) (n : Int) (by omega) (by omega) (by rw [hz2]; omega) (by omega)
  rw [hz1] at this
  simpa [Value.cells] using this
theorem made_get (n i : Nat) (h : i < n) : (madeCells #[.int .u8 0] n)[i]? = some (.int .u8 0) := by
  simp [madeCells, h, Nat.mod_one]
/-- the row that Put fills: what stands from place i on, and at place 0 -/
structure Filling (w wr : World) (B n i : Nat) (T : List UInt8) : Prop where
  has : ∀ j, j < n → ∃ v, wr.cell? ⟨B, j, none⟩ = some v
  free : ∀ j, j < n → wr.frozen? ⟨B, j, none⟩ = false
  done : ∀ j, j < n → (i < j ∨ j = 0) → wr.cell? ⟨B, j, none⟩ = some (.int .u8 ((T.getD j 0).toNat : Int))
  new : w.heap.size ≤ B
  bel : Below w.heap.size w wr
theorem Filling.store {w wr : World} {B n i : Nat} {T : List UInt8} (h : Filling w wr B n (i + 1) T) :
    Filling w (wr.setCell ⟨B, i + 1, none⟩ (.int .u8 ((T.getD (i + 1) 0).toNat : Int))) B n i T := by
  refine ⟨?_, ?_, ?_, h.new, h.bel.setCell h.new _⟩
  · intro j hj
    by_cases e : j = i + 1
    · subst e; obtain ⟨v, hv⟩ := h.has _ hj; exact ⟨_, World.cell?_setCell_same _ _ _ hv⟩
    · rw [World.cell?_setCell_other _ _ _ _ (by intro h2; apply e; injection h2 with _ h3; exact h3.symm)]; exact h.has j hj
  · intro j hj; rw [World.frozen?_setCell]; exact h.free j hj
  · intro j hj hc
    by_cases e : j = i + 1
    · subst e; obtain ⟨v, hv⟩ := h.has _ hj; exact World.cell?_setCell_same _ _ _ hv
    · rw [World.cell?_setCell_other _ _ _ _ (by intro h2; apply e; injection h2 with _ h3; exact h3.symm)]; exact h.done j hj (by omega)
theorem Filling.start (w : World) (n i : Nat) (T : List UInt8) (a : Int) (hT : a = ((T.getD 0 0).toNat : Int)) (hi : n ≤ i + 1) :
    Filling w (w.alloc (.cells ((madeCells #[.int .u8 0] n).setIfInBounds 0 (.int .u8 a)) 5)) w.heap.size n i T := by
  subst hT
  refine ⟨?_, ?_, ?_, Nat.le_refl _, (Below.refl _ _).alloc (Nat.le_refl _) _⟩
  · intro j hj
    rw [World.cell?_alloc_new]
    exact ⟨_, Array.getElem?_eq_getElem (by simp [size_madeCells]; exact hj)⟩
  · intro j hj; exact World.frozen?_alloc_new _ _ _ _
  · intro j hj hc
    obtain rfl : j = 0 := by omega
    rw [World.cell?_alloc_new, Array.getElem?_setIfInBounds_self_of_lt (by simp [size_madeCells]; omega)]
theorem byte_div (x : Nat) : ((UInt8.ofNat x).toNat : Int) = (x : Int) % 256 := by rw [UInt8.toNat_ofNat']; omega
set_option maxHeartbeats 1000000 in
theorem putAny (n : Int) (w : World) (h0 : -9223372036854775808 ≤ n) (h1 : n ≤ 9223372036854775807) :
    Calls Try.prog 18 #[.int .i64 n] w fun e w' => e = .returned (.tuple #[.string (bs (putN n).1), .int .i64 (putN n).2]) ∧ Below w.heap.size w w' := by
  by_cases hn : n < 0
  · rw [put_neg hn]
    have hz := size_neg hn
    go_enter Try.func18, Try.ntmps18
    go_wp2_with fail
    refine (size_any _ _ h0 h1).mono ?_
    rw [hz]
    rintro e w1 ⟨rfl, rfl⟩
    go_wp2_with fail
    go_ret2
    exact ⟨rfl, Below.refl _ _⟩
  · by_cases h128 : n < 128
    · rw [put_one hn h128]
      have hz := size_one hn h128
      have hc := conv1 w
      go_enter Try.func18, Try.ntmps18
      go_wp2_with fail
      refine (size_any _ _ h0 h1).mono ?_
      rw [hz]
      rintro e w1 ⟨rfl, rfl⟩
      go_wp2_with fail
      go_ret2
      exact ⟨rfl, (Below.refl _ _).alloc (Nat.le_refl _) _⟩
    · rw [put_many h128]
      have hz := size_many h128
      obtain ⟨N, rfl⟩ := Int.eq_ofNat_of_zero_le (show 0 ≤ n by omega)
      rw [Int.toNat_natCast] at *
      have hl1 := be_pos N (by omega) (by omega)
      have hl8 := be_le N
      have hbe : be N = beK (be N).length N := beF_eq_beK 8 N (by omega)
      generalize hL : (be N).length = L at *
      have hmk := make_bytes w ((1 : Int) + (L : Int)) (1 + L) (by omega) (by omega)
      have hm0 := made_get (1 + L) 0 (by omega)
      have hT0 : (128 + (1 + (L : Int)) - 1) = ((((UInt8.ofNat (128 + L) :: be N : List UInt8).getD 0 0).toNat : Nat) : Int) := by
        show _ = ((UInt8.ofNat (128 + L)).toNat : Int)
        rw [byte_div]; omega
      have hTi : ∀ i, i < L → (((UInt8.ofNat (128 + L) :: be N : List UInt8).getD (i + 1) 0).toNat : Int) = ((N / 256 ^ (L - 1 - i) : Nat) : Int) % 256 := by
        intro i hi
        show ((((be N).getD i 0).toNat : Nat) : Int) = _
        rw [hbe, beK_get L N i hi, byte_div]
      have hTl : (UInt8.ofNat (128 + L) :: be N : List UInt8).length = 1 + L := by simp [hL]; omega
      generalize (UInt8.ofNat (128 + L) :: be N : List UInt8) = T at *
      have HT0 := Lib.hid (Filling.start w (1 + L) L T _ hT0 (by omega))
      have HTI := Lib.hid hTi
      have HTL := Lib.hid hTl
      clear hbe hL hT0 hTi hTl
      go_enter Try.func18, Try.ntmps18
      go_wp2_with fail
      refine (size_any _ _ h0 h1).mono ?_
      rw [hz]
      rintro e w1 ⟨rfl, rfl⟩
      go_wp2_with fail
      have e1 : (1 + (L : Int) - 1) = (L : Int) := by omega
      go_loopw [0, 6] (fun v0 v6 wr => ∃ i : Nat, i ≤ L ∧ v6 = .int .i64 i ∧ v0 = .int .i64 ((N / 256 ^ (L - i) : Nat) : Int) ∧ Filling w wr w.heap.size (1 + L) i T) (fun _ v6 _ => (intOf v6).toNat)
      case atStart => exact ⟨L, by omega, by rw [e1], by simp, HT0.out⟩
      case round =>
        obtain ⟨i, hi, rfl, rfl, hF⟩ := hrel
        have HF := Lib.hid hF
        clear hF e1 HT0 hm0 hmk
        cases i with
        | zero =>
          have htx := row_text wr w.heap.size (1 + L) (1 + L) T HTL.out (fun j hj => HF.out.done j hj (by omega))
          have hbel := HF.out.bel
          go_wp2_with fail
          go_ret2
          exact ⟨rfl, hbel⟩
        | succ i =>
          obtain ⟨v, hv⟩ := HF.out.has (i + 1) (by omega)
          have hfr := HF.out.free (i + 1) (by omega)
          have hst := HF.out.store
          rw [HTI.out i (by omega)] at hst
          have HST := Lib.hid hst
          have HD : Hid ((N / 256 ^ (L - 1 - i)) / 256 = N / 256 ^ (L - i)) := by
            show _ = _
            rw [Nat.div_div_eq_div_mul, ← Nat.pow_succ]; congr 2; omega
          clear hst
          have hq : N / 256 ^ (L - 1 - i) ≤ N := Nat.div_le_self _ _
          have hsub : L - (i + 1) = L - 1 - i := by omega
          rw [hsub]
          clear hsub
          generalize N / 256 ^ (L - 1 - i) = q at *
          go_wp2_with fail
          refine ⟨⟨i, by omega, rfl, ?_, HST.out⟩, by simp [intOf]⟩
          rw [← HD.out, Int.natCast_ediv]; rfl
theorem byte_eq (n : Nat) : UInt8.ofNat ((n : Int) % 256).toNat = UInt8.ofNat n := by
  apply UInt8.toNat_inj.1; rw [UInt8.toNat_ofNat', UInt8.toNat_ofNat']; omega
set_option maxHeartbeats 1000000 in
theorem put_ref (n : Int) (w : World) (h0 : -9223372036854775808 ≤ n) (h1 : n ≤ 9223372036854775807) :
    Calls Try.prog 20 #[.int .i64 n] w fun e w' => e = .returned (.tuple #[.string (bs (putN n).1), .int .i64 (putN n).2]) ∧ Below w.heap.size w w' := by
  by_cases hn : n < 0
  · rw [put_neg hn]
    go_enter Try.func20, Try.ntmps20
    go_wp2_with fail
    go_ret2
    exact ⟨rfl, Below.refl _ _⟩
  · by_cases h128 : n < 128
    · rw [put_one hn h128]
      have hc := conv1 w
      go_enter Try.func20, Try.ntmps20
      go_wp2_with fail
      go_ret2
      exact ⟨rfl, (Below.refl _ _).alloc (Nat.le_refl _) _⟩
    · rw [put_many h128]
      obtain ⟨N, rfl⟩ := Int.eq_ofNat_of_zero_le (show 0 ≤ n by omega)
      rw [Int.toNat_natCast] at *
      go_enter Try.func20, Try.ntmps20
      go_wp2_with fail
      go_loopw [0, 4] (fun v0 v4 wr => ∃ (k m : Nat) (o : List UInt8), k ≤ 8 ∧ v0 = .int .i64 m ∧ v4 = .string (bs o) ∧ m < 256 ^ (8 - k) ∧ m ≤ N ∧ o.length ≤ k ∧ be N = beF (8 - k) m ++ o ∧ Below w.heap.size w wr) (fun v0 _ _ => (intOf v0).toNat)
      case atStart => exact ⟨0, N, [], by omega, rfl, rfl, by omega, by omega, by simp, by simp [be], Below.refl _ _⟩
      case round =>
        obtain ⟨k, m, o, hk, rfl, rfl, hm, hmN, ho, hbe, hbel⟩ := hrel
        have HBE := Lib.hid hbe
        clear hbe
        by_cases hm0 : m = 0
        · subst hm0
          have hc := conv1 wr
          have hO : be N = o := by rw [HBE.out, beF_zero]; rfl
          have HO := Lib.hid hO
          clear hO
          go_wp2_with fail
          go_ret2
          exact ⟨ret_si (by rw [HO.out, UInt8.ofNat_add]; rfl) rfl, hbel.alloc hbel.size _⟩
        · have hc := conv1 wr
          have hk7 : k < 8 := by
            rcases Nat.lt_or_ge k 8 with h | h
            · exact h
            · obtain rfl : k = 8 := by omega
              simp at hm; omega
          have hbe2 : be N = beF (8 - (k + 1)) (m / 256) ++ (UInt8.ofNat m :: o) := by
            rw [HBE.out, show 8 - k = (8 - (k + 1)) + 1 by omega, beF, if_neg hm0]; simp
          have hm2 : m / 256 < 256 ^ (8 - (k + 1)) := by
            rw [show 8 - k = (8 - (k + 1)) + 1 by omega, Nat.pow_succ] at hm; omega
          have HBE2 := Lib.hid hbe2
          have HM2 := Lib.hid hm2
          have hbq := byte_eq m
          clear hbe2 hm2 hm
          go_wp2_with fail
          refine ⟨⟨k + 1, m / 256, UInt8.ofNat m :: o, by omega, ?_, rfl, HM2.out, by omega, by simp; omega, HBE2.out, hbel.alloc hbel.size _⟩, by simp [intOf]; omega⟩
          rw [Int.natCast_ediv]; rfl
theorem u64_shl_or (v : Nat) (b : UInt8) (hv : v < 2 ^ 56) : bits .or .u64 ((v : Int) * (256 : Int)) (b.toNat : Int) = ((256 * v + b.toNat : Nat) : Int) := by
  have hb := b.toNat_lt
  have e : (v : Int) * (256 : Int) = ((v * 2 ^ 8 : Nat) : Int) := by omega
  rw [e, u64_or_nat _ _ (by omega) (by omega)]
  rw [Nat.mul_comm v, Nat.two_pow_add_eq_or_of_lt hb]
theorem val_take_succ (s : ByteArray) (k : Nat) (h : k < s.size) : val ((bl s).take (k + 1)) = 256 * val ((bl s).take k) + s[k].toNat := by
  rw [bl_take_succ s k h, val_snoc]
theorem val_take_lt (s : ByteArray) (k : Nat) (h : k < 8) : val ((bl s).take k) < 2 ^ 56 := by
  have h1 := val_lt ((bl s).take k)
  have h2 : (256 : Nat) ^ ((bl s).take k).length ≤ 256 ^ 7 := Nat.pow_le_pow_right (by omega) (by rw [List.length_take]; omega)
  omega
set_option maxHeartbeats 1000000 in
theorem great_any (s : ByteArray) (w : World) (h1 : 1 ≤ s.size) (h8 : s.size ≤ 8) :
    Calls Try.prog 36 #[.string s] w fun e w' => e = .returned (.tuple #[.int .i64 (greatN (bl s)).1, .int .i64 (greatN (bl s)).2]) ∧ w = w' := by
  go_enter Try.func36, Try.ntmps36
  go_wp2_with fail
  go_loop [4, 5] (fun v4 v5 => ∃ k : Nat, k ≤ s.size ∧ v5 = .int .i64 k ∧ v4 = .int .u64 ((val ((bl s).take k) : Nat) : Int)) (fun _ v5 => s.size - (intOf v5).toNat)
  case atStart => exact ⟨0, by omega, rfl, rfl⟩
  case round =>
    obtain ⟨k, hk, rfl, rfl⟩ := hrel
    by_cases hlt : k < s.size
    · have hv := val_take_lt s k (by omega)
      have hor := u64_shl_or (val ((bl s).take k)) s[k] hv
      rw [← val_take_succ s k hlt] at hor
      have hb := byte_bd s[k]
      generalize val ((bl s).take k) = v at hor hv ⊢
      generalize hv' : val ((bl s).take (k + 1)) = v' at hor
      have HV := Lib.hid hv'
      clear hv'
      have hvi : (v : Int) ≤ 72057594037927935 := by omega
      clear hv
      go_wp2_with fail
      go_round
      case rel => exact ⟨k + 1, by omega, by go_num, by rw [HV.out]⟩
      case measure => simp [intOf]; omega
    · obtain rfl : k = s.size := by omega
      rw [bl_take_all]
      have hhd : (bl s).headD 0 = s[0] := by
        have h2 := bl_get s 0 (by omega)
        cases hc : bl s with
        | nil => rw [hc] at h2; simp at h2
        | cons b l => rw [hc] at h2; simp at h2; simp [h2]
      obtain ⟨c, hc⟩ : ∃ c, s[0].toNat = c := ⟨_, rfl⟩
      have hb : (c : Int) ≤ 255 := by have := byte_bd s[0]; omega
      by_cases h0 : s[0] = 0
      · have hg : greatN (bl s) = (0, 5) := by unfold greatN; rw [if_pos (.inl (by rw [hhd, h0]))]
        have HG := Lib.hid hg
        have hz : c = 0 := by rw [← hc, h0]; rfl
        subst hz
        clear hg h0 hhd
        go_wp2_with fail
        go_ret2
        exact ⟨ret_gii HG.out, rfl⟩
      · have hz : ((c : Int) == 0) = false := by
          rw [beq_eq_false_iff_ne]; intro h; apply h0; apply UInt8.toNat_inj.1; simp; omega
        by_cases h128 : val (bl s) < 128
        · have hg : greatN (bl s) = (0, 5) := by unfold greatN; rw [if_pos (.inr h128)]
          have HG := Lib.hid hg
          have h128i : ((val (bl s) : Nat) : Int) < 128 := by omega
          clear hg h0 hhd h128
          go_wp2_with fail
          go_ret2
          exact ⟨ret_gii HG.out, rfl⟩
        · by_cases hbig : 9223372036854775807 < val (bl s)
          · have hbi : (9223372036854775807 : Int) < ((val (bl s) : Nat) : Int) := by omega
            have hg : greatN (bl s) = (0, 3) := by unfold greatN; rw [if_neg (by rw [hhd]; exact fun h => h.elim h0 h128), if_pos hbig]
            have HG := Lib.hid hg
            have h128i : (128 : Int) ≤ ((val (bl s) : Nat) : Int) := by omega
            clear hg h0 hhd hbig h128
            go_wp2_with fail
            go_ret2
            exact ⟨ret_gii HG.out, rfl⟩
          · have hbi : ((val (bl s) : Nat) : Int) ≤ (9223372036854775807 : Int) := by omega
            have hg : greatN (bl s) = (((val (bl s) : Nat) : Int), 0) := by unfold greatN; rw [if_neg (by rw [hhd]; exact fun h => h.elim h0 h128), if_neg hbig]
            have HG := Lib.hid hg
            have h128i : (128 : Int) ≤ ((val (bl s) : Nat) : Int) := by omega
            clear hg h0 hhd hbig h128
            go_wp2_with fail
            go_ret2
            exact ⟨ret_gii HG.out, rfl⟩
set_option maxHeartbeats 1000000 in
theorem get_any (s : ByteArray) (p : Int) (w : World) (hs : s.size ≤ 1000000) :
    Calls Try.prog 25 #[.string s, .int .i64 p] w fun e w' => e = .returned (.tuple #[.int .i64 (getN (bl s) p).1, .int .i64 (getN (bl s) p).2.1, .int .i64 (getN (bl s) p).2.2]) ∧ w = w' := by
  have hl := bl_len s
  by_cases h1 : p < 0 ∨ (s.size : Int) < p
  · have hg : getN (bl s) p = (0, 0, 2) := by unfold getN; rw [if_pos (by rw [hl]; exact h1)]
    rw [hg]
    rcases h1 with h1 | h1
    · go_enter Try.func25, Try.ntmps25
      go_wp2_with fail
      go_ret3
      exact ⟨rfl, rfl⟩
    · go_enter Try.func25, Try.ntmps25
      go_wp2_with fail
      all_goals
        go_ret3
        exact ⟨rfl, rfl⟩
  · obtain ⟨q, rfl⟩ := Int.eq_ofNat_of_zero_le (show 0 ≤ p by omega)
    by_cases h2 : q = s.size
    · subst h2
      have hg : getN (bl s) s.size = (0, 0, 4) := by unfold getN; rw [if_neg (by rw [hl]; omega), if_pos (by rw [hl])]
      rw [hg]
      clear h1
      go_enter Try.func25, Try.ntmps25
      go_wp2_with fail
      go_ret3
      exact ⟨rfl, rfl⟩
    · have hq : q < s.size := by omega
      have hne : ((q : Int) == (s.size : Int)) = false := by rw [beq_eq_false_iff_ne]; omega
      have hgd := bl_getD s q hq
      obtain ⟨c, hc⟩ : ∃ c, s[q].toNat = c := ⟨_, rfl⟩
      have hb : (c : Int) ≤ 255 := by have := byte_bd s[q]; omega
      by_cases h3 : c < 128
      · have hg : getN (bl s) q = ((c : Int), (q : Int) + 1, 0) := by
          unfold getN; rw [if_neg (by rw [hl]; omega), if_neg (by rw [hl]; omega)]
          simp only [Int.toNat_natCast, hgd, hc]; rw [if_pos h3]
        rw [hg]
        have h3i : (c : Int) < 128 := by omega
        clear hg hgd hl h3
        go_enter Try.func25, Try.ntmps25
        go_wp2_with fail
        go_ret3
        exact ⟨rfl, rfl⟩
      · by_cases h4 : c < 129 ∨ 136 < c
        · have hg : getN (bl s) q = (0, 0, 5) := by
            unfold getN; rw [if_neg (by rw [hl]; omega), if_neg (by rw [hl]; omega)]
            simp only [Int.toNat_natCast, hgd, hc]; rw [if_neg h3, if_pos (by omega)]
          rw [hg]
          clear hg hgd hl
          rcases h4 with h4 | h4
          all_goals
            go_enter Try.func25, Try.ntmps25
            go_wp2_with fail
            go_ret3
            exact ⟨rfl, rfl⟩
        · obtain ⟨m, rfl⟩ : ∃ m, c = 128 + m := ⟨c - 128, by omega⟩
          have hm : (128 : Int) + (m : Int) - (128 : Int) = (m : Int) := by omega
          by_cases h5 : s.size < q + 1 + m
          · have hg : getN (bl s) q = (0, 0, 4) := by
              unfold getN; rw [if_neg (by rw [hl]; omega), if_neg (by rw [hl]; omega)]
              simp only [Int.toNat_natCast, hgd, hc]; rw [if_neg h3, if_neg (by omega), if_pos (by rw [hl]; omega)]
            rw [hg]
            clear hg hgd hl
            go_enter Try.func25, Try.ntmps25
            go_wp2_with fail
            go_ret3
            exact ⟨rfl, rfl⟩
          · have hz : (s.extract (q + 1) (q + 1 + m)).size = m := by rw [ByteArray.size_extract]; omega
            have hx : bl (s.extract (q + 1) (q + 1 + m)) = ((bl s).drop (q + 1)).take m := by
              rw [bl_extract, List.take_drop]
            have hg0 : getN (bl s) q = if (greatN (bl (s.extract (q + 1) (q + 1 + m)))).2 ≠ 0 then (0, 0, (greatN (bl (s.extract (q + 1) (q + 1 + m)))).2) else ((greatN (bl (s.extract (q + 1) (q + 1 + m)))).1, (q : Int) + 1 + m, 0) := by
              rw [hx]
              unfold getN; rw [if_neg (by rw [hl]; omega), if_neg (by rw [hl]; omega)]
              simp only [Int.toNat_natCast, hgd, hc]; rw [if_neg h3, if_neg (by omega), if_neg (by rw [hl]; omega)]
              simp only [show 128 + m - 128 = m by omega]
            have hgr := great_any (s.extract (q + 1) (q + 1 + m)) w (by rw [hz]; omega) (by rw [hz]; omega)
            have hy : ((q : Int) + 1 + (m : Int)).toNat = q + 1 + m := by omega
            generalize greatN (bl (s.extract (q + 1) (q + 1 + m))) = g at hg0 hgr
            have HGR := Lib.hid hgr
            by_cases h6 : g.2 = 0
            · have hg : getN (bl s) q = (g.1, (q : Int) + 1 + m, 0) := by rw [hg0, if_neg (by simp [h6])]
              have HG := Lib.hid hg
              have hne2 : (g.2 != 0) = false := by simp [h6]
              clear hg hg0 hgd hl hgr hz hx h6
              go_enter Try.func25, Try.ntmps25
              go_wp2_with fail
              refine (HGR.out).mono ?_
              rintro e w1 ⟨rfl, rfl⟩
              go_wp2_with fail
              go_ret3
              exact ⟨ret_giii HG.out, rfl⟩
            · have hg : getN (bl s) q = (0, 0, g.2) := by rw [hg0, if_pos h6]
              have HG := Lib.hid hg
              have hne2 : (g.2 != 0) = true := by simp [h6]
              clear hg hg0 hgd hl hgr hz hx h6
              go_enter Try.func25, Try.ntmps25
              go_wp2_with fail
              refine (HGR.out).mono ?_
              rintro e w1 ⟨rfl, rfl⟩
              go_wp2_with fail
              go_ret3
              exact ⟨ret_giii HG.out, rfl⟩
end Go.Proofs.Ytopmppnnihdnaaa
