/- Numbers as bytes: the law NumLeast. -/
import Derived.Test.YtlehejnhnfdgoaaNumLaws2
import Derived.Test.YtlehejnhnfdgoaaNumPlain2
namespace Go.Proofs.Ytlehejnhnfdgoaa
open Go.ChangeShapes Go.WideShapes Go.ChangeAt Go.RowKit
open NumP
set_option maxRecDepth 100000
theorem cut_text (s : ByteArray) (p q : Nat) : (s.extract p q).toList = ((bl s).take q).drop p := by rw [bl_toList, bl_extract]
set_option maxHeartbeats 4000000 in
theorem numLeast_law (s : ByteArray) (hm : s.size ≤ maxLen) (p : Int) (hp : (Lit.int .i64 p).wf = true) (n : Int) (hn : (Lit.int .i64 n).wf = true) (w : World) :
    Calls Try.prog 6 #[.string s, .int .i64 p, .int .i64 n] w fun e w' => e = .returned (.bool true) ∧ Below w.heap.size w w' := by
  unfold maxLen at hm
  have hp2 := wf64 hp
  have hn2 := wf64 hn
  clear hp hn
  by_cases h3 : 6000 < s.size
  · go_enter Try.func6, Try.ntmps6
    go_wp2_with fail
    refine (awake_any _).mono ?_
    rintro e w1 ⟨rfl, hb⟩
    go_wp2_with fail
    go_ret
    exact ⟨rfl, hb⟩
  · have hl := bl_len s
    have hds : decide ((6000 : Int) < (s.size : Int)) = false := by simp; omega
    go_enter Try.func6, Try.ntmps6
    go_wp2_with fail
    refine (get_any _ _ _ (by omega)).mono ?_
    rintro e w1 ⟨rfl, rfl⟩
    have hput : ∀ (x to : Int), getN (bl s) p = (x, to, 0) → ∃ q t : Nat, p = q ∧ to = t ∧ q < t ∧ t ≤ s.size ∧ 0 ≤ x ∧ x ≤ 9223372036854775807 ∧ (putN x).2 = 0 ∧ ((s.extract q t).toList == (putN x).1) = true := by
      intro x to h
      obtain ⟨h0, h1, h2, h4, h5, h6⟩ := get_least _ _ _ _ h
      obtain ⟨q, rfl⟩ := Int.eq_ofNat_of_zero_le h2
      obtain ⟨t, rfl⟩ := Int.eq_ofNat_of_zero_le (show 0 ≤ to by omega)
      rw [Int.toNat_natCast, Int.toNat_natCast] at h6
      exact ⟨q, t, rfl, rfl, by omega, by omega, h0, h1, by rw [putN_err, if_pos h0], by rw [cut_text, h6]; exact beq_self_eq_true _⟩
    have hrow : ∀ (xs : List Int) (to : Int), unrowN (bl s) p 1000 = (xs, to, 0) → ∃ q t : Nat, p = q ∧ to = t ∧ q < t ∧ t ≤ s.size ∧ xs.length ≤ 1000 ∧ Fit xs ∧ (rowN xs).2 = 0 ∧ ((s.extract q t).toList == (rowN xs).1) = true := by
      intro xs to h
      obtain ⟨h0, h1, h2, h4, h5, h6⟩ := unrow_least _ _ _ _ h
      obtain ⟨q, rfl⟩ := Int.eq_ofNat_of_zero_le h2
      obtain ⟨t, rfl⟩ := Int.eq_ofNat_of_zero_le (show 0 ≤ to by omega)
      rw [Int.toNat_natCast, Int.toNat_natCast] at h6
      exact ⟨q, t, rfl, rfl, by omega, by omega, h0, fun y hy => ⟨by have := (h1 y hy).1; omega, (h1 y hy).2⟩, by rw [h6], by rw [h6, cut_text]; exact beq_self_eq_true _⟩
    have HPUT := Lib.hid hput
    have HROW := Lib.hid hrow
    have hlast := unrow_any s p 1000
    have HLAST := Lib.hid (fun (w2 : World) => unrow_any s p 1000 w2 (by omega) (by omega))
    generalize hG : unrowN (bl s) p 1000 = G at *
    generalize hg : getN (bl s) p = g at *
    clear hput hrow hlast
    obtain ⟨x, to, e0⟩ := g
    simp only
    have hb : Below w.heap.size w w := Below.refl _ _
    by_cases he0 : e0 = 0
    · subst he0
      obtain ⟨q, t, rfl, rfl, hqt, hts, hx0, hx1, hp0, hcut⟩ := HPUT.out x to rfl
      have hsz := sizeN_mono n x
      by_cases hn0 : 0 ≤ n
      · by_cases hnx : n ≤ x
        · have hsz2 := hsz hn0 hnx hx1
          have hszd : decide (sizeN x < sizeN n) = false := by simp; exact hsz2
          clear hsz hsz2 HPUT
          go_wp2_with fail
          refine (put_any _ _ (by omega) (by omega)).mono ?_
          rw [hp0]
          rintro e w2 ⟨rfl, hb2⟩
          replace hb := bt hb hb2; clear hb2
          go_wp2_with fail
          refine (size_any _ _ (by omega) (by omega)).mono ?_
          rintro e w3 ⟨rfl, rfl⟩
          go_wp2_with fail
          refine (size_any _ _ (by omega) (by omega)).mono ?_
          rintro e w3 ⟨rfl, rfl⟩
          go_wp2_with fail
          obtain ⟨xs, to2, e2⟩ := G
          refine (HLAST.out _).mono ?_
          rintro e w5 ⟨a5, cap5, rfl, hd1, hd2, hr5, hb2⟩
          have HR5 := Lib.hid hr5
          have hbel2 := bt hb hb2
          clear hb2 hr5 hd1 hd2 HLAST
          by_cases he2 : e2 = 0
          · subst he2
            obtain ⟨q1, t1, hq1, rfl, hqt1, hts1, hxl, hxf, hr0, hcut1⟩ := HROW.out xs to2 rfl
            obtain rfl : q1 = q := by omega
            clear hq1
            have HXF := Lib.hid hxf
            clear hxf HROW
            go_wp2_with fail
            refine (row_any _ _ xs _ HR5.out (by omega) HXF.out).mono ?_
            rw [hr0]
            rintro e w6 ⟨rfl, hb2⟩
            have hbel3 := bt hbel2 hb2
            clear hb2
            go_wp2_with fail
            refine (awake_any _).mono ?_
            rintro e w7 ⟨rfl, hb2⟩
            have hbel4 := bt hbel3 hb2
            clear hb2
            go_wp2_with fail
            go_ret
            exact ⟨rfl, hbel4⟩
          · have he2b : (e2 == 0) = false := by simpa using he2
            clear HROW
            go_wp2_with fail
            refine (awake_any _).mono ?_
            rintro e w7 ⟨rfl, hb2⟩
            have hbel4 := bt hbel2 hb2
            clear hb2
            go_wp2_with fail
            go_ret
            exact ⟨rfl, hbel4⟩
        · have hnxd : decide (n ≤ x) = false := by simpa using hnx
          clear hsz HPUT
          go_wp2_with fail
          refine (put_any _ _ (by omega) (by omega)).mono ?_
          rw [hp0]
          rintro e w2 ⟨rfl, hb2⟩
          replace hb := bt hb hb2; clear hb2
          go_wp2_with fail
          obtain ⟨xs, to2, e2⟩ := G
          refine (HLAST.out _).mono ?_
          rintro e w5 ⟨a5, cap5, rfl, hd1, hd2, hr5, hb2⟩
          have HR5 := Lib.hid hr5
          have hbel2 := bt hb hb2
          clear hb2 hr5 hd1 hd2 HLAST
          by_cases he2 : e2 = 0
          · subst he2
            obtain ⟨q1, t1, hq1, rfl, hqt1, hts1, hxl, hxf, hr0, hcut1⟩ := HROW.out xs to2 rfl
            obtain rfl : q1 = q := by omega
            clear hq1
            have HXF := Lib.hid hxf
            clear hxf HROW
            go_wp2_with fail
            refine (row_any _ _ xs _ HR5.out (by omega) HXF.out).mono ?_
            rw [hr0]
            rintro e w6 ⟨rfl, hb2⟩
            have hbel3 := bt hbel2 hb2
            clear hb2
            go_wp2_with fail
            refine (awake_any _).mono ?_
            rintro e w7 ⟨rfl, hb2⟩
            have hbel4 := bt hbel3 hb2
            clear hb2
            go_wp2_with fail
            go_ret
            exact ⟨rfl, hbel4⟩
          · have he2b : (e2 == 0) = false := by simpa using he2
            clear HROW
            go_wp2_with fail
            refine (awake_any _).mono ?_
            rintro e w7 ⟨rfl, hb2⟩
            have hbel4 := bt hbel2 hb2
            clear hb2
            go_wp2_with fail
            go_ret
            exact ⟨rfl, hbel4⟩
      · have hn0d : decide ((0 : Int) ≤ n) = false := by simpa using hn0
        clear hsz HPUT
        go_wp2_with fail
        refine (put_any _ _ (by omega) (by omega)).mono ?_
        rw [hp0]
        rintro e w2 ⟨rfl, hb2⟩
        replace hb := bt hb hb2; clear hb2
        go_wp2_with fail
        obtain ⟨xs, to2, e2⟩ := G
        refine (HLAST.out _).mono ?_
        rintro e w5 ⟨a5, cap5, rfl, hd1, hd2, hr5, hb2⟩
        have HR5 := Lib.hid hr5
        have hbel2 := bt hb hb2
        clear hb2 hr5 hd1 hd2 HLAST
        by_cases he2 : e2 = 0
        · subst he2
          obtain ⟨q1, t1, hq1, rfl, hqt1, hts1, hxl, hxf, hr0, hcut1⟩ := HROW.out xs to2 rfl
          obtain rfl : q1 = q := by omega
          clear hq1
          have HXF := Lib.hid hxf
          clear hxf HROW
          go_wp2_with fail
          refine (row_any _ _ xs _ HR5.out (by omega) HXF.out).mono ?_
          rw [hr0]
          rintro e w6 ⟨rfl, hb2⟩
          have hbel3 := bt hbel2 hb2
          clear hb2
          go_wp2_with fail
          refine (awake_any _).mono ?_
          rintro e w7 ⟨rfl, hb2⟩
          have hbel4 := bt hbel3 hb2
          clear hb2
          go_wp2_with fail
          go_ret
          exact ⟨rfl, hbel4⟩
        · have he2b : (e2 == 0) = false := by simpa using he2
          clear HROW
          go_wp2_with fail
          refine (awake_any _).mono ?_
          rintro e w7 ⟨rfl, hb2⟩
          have hbel4 := bt hbel2 hb2
          clear hb2
          go_wp2_with fail
          go_ret
          exact ⟨rfl, hbel4⟩
    · have he0b : (e0 == 0) = false := by simpa using he0
      clear HPUT
      go_wp2_with fail
      obtain ⟨xs, to2, e2⟩ := G
      refine (HLAST.out _).mono ?_
      rintro e w5 ⟨a5, cap5, rfl, hd1, hd2, hr5, hb2⟩
      have HR5 := Lib.hid hr5
      have hbel2 := bt hb hb2
      clear hb2 hr5 hd1 hd2 HLAST
      by_cases he2 : e2 = 0
      · subst he2
        obtain ⟨q, t1, rfl, rfl, hqt1, hts1, hxl, hxf, hr0, hcut1⟩ := HROW.out xs to2 rfl
        have HXF := Lib.hid hxf
        clear hxf HROW
        go_wp2_with fail
        refine (row_any _ _ xs _ HR5.out (by omega) HXF.out).mono ?_
        rw [hr0]
        rintro e w6 ⟨rfl, hb2⟩
        have hbel3 := bt hbel2 hb2
        clear hb2
        go_wp2_with fail
        refine (awake_any _).mono ?_
        rintro e w7 ⟨rfl, hb2⟩
        have hbel4 := bt hbel3 hb2
        clear hb2
        go_wp2_with fail
        go_ret
        exact ⟨rfl, hbel4⟩
      · have he2b : (e2 == 0) = false := by simpa using he2
        clear HROW
        go_wp2_with fail
        refine (awake_any _).mono ?_
        rintro e w7 ⟨rfl, hb2⟩
        have hbel4 := bt hbel2 hb2
        clear hb2
        go_wp2_with fail
        go_ret
        exact ⟨rfl, hbel4⟩
end Go.Proofs.Ytlehejnhnfdgoaa
