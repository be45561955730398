/- Numbers as bytes: what is put is got, and what is got was put. -/
import Derived.Test.YtopmppnnihdnaaaNumPlain
namespace Go.Proofs.Ytopmppnnihdnaaa.NumP
set_option linter.unusedVariables false
set_option linter.unusedSimpArgs false
theorem getD_mid (h : List UInt8) (c : UInt8) (r : List UInt8) : (h ++ c :: r).getD h.length 0 = c := by
  rw [List.getD, List.getElem?_append_right (Nat.le_refl _)]; simp
/-- what is put is got -/
theorem get_put (h b : List UInt8) (x : Int) (h0 : 0 ≤ x) (h1 : x ≤ 9223372036854775807) :
    getN (h ++ ((putN x).1 ++ b)) h.length = (x, (h.length : Int) + ((putN x).1.length : Int), 0) := by
  obtain ⟨n, rfl⟩ := Int.eq_ofNat_of_zero_le h0
  by_cases h128 : (n : Int) < 128
  · have hp : putN (n : Int) = ([UInt8.ofNat n], 0) := by unfold putN; rw [if_neg (by omega), if_pos h128]; rfl
    rw [hp]
    have hl : (h ++ ([UInt8.ofNat n] ++ b)).length = h.length + 1 + b.length := by simp; omega
    have hgd : (h ++ ([UInt8.ofNat n] ++ b)).getD h.length 0 = UInt8.ofNat n := getD_mid h _ b
    have hn : (UInt8.ofNat n).toNat = n := by rw [UInt8.toNat_ofNat']; omega
    unfold getN
    rw [if_neg (by rw [hl]; omega), if_neg (by rw [hl]; omega)]
    simp only [Int.toNat_natCast, hgd, hn]
    rw [if_pos (by omega)]
    simp
  · have hp : putN (n : Int) = (UInt8.ofNat (128 + (be n).length) :: be n, 0) := by
      unfold putN; rw [if_neg (by omega), if_neg h128]; rfl
    rw [hp]
    have h8 := be_le n
    have hpos := be_pos n (by omega) (by omega)
    have hv : val (be n) = n := val_beF 8 n (by omega)
    generalize hL : (be n).length = L at *
    have hl : (h ++ (UInt8.ofNat (128 + L) :: be n ++ b)).length = h.length + 1 + L + b.length := by simp [hL]; omega
    have hgd : (h ++ (UInt8.ofNat (128 + L) :: be n ++ b)).getD h.length 0 = UInt8.ofNat (128 + L) := getD_mid h _ (be n ++ b)
    have hn : (UInt8.ofNat (128 + L)).toNat = 128 + L := by rw [UInt8.toNat_ofNat']; omega
    have hd : ((h ++ (UInt8.ofNat (128 + L) :: be n ++ b)).drop (h.length + 1)).take L = be n := by
      rw [← List.drop_drop, List.drop_left]
      show ((be n ++ b).drop 0).take L = be n
      rw [List.drop_zero, ← hL, List.take_left]
    have hgr : greatN (be n) = ((n : Int), 0) := by
      obtain ⟨c, l, e, hc⟩ := beF_head 8 n (by omega) (by omega)
      have e2 : be n = c :: l := e
      unfold greatN
      rw [hv, if_neg (by rw [e2]; simp; exact ⟨hc, by omega⟩), if_neg (by omega)]
    unfold getN
    rw [if_neg (by rw [hl]; omega), if_neg (by rw [hl]; omega)]
    simp only [Int.toNat_natCast, hgd, hn]
    rw [if_neg (by omega), if_neg (by omega), if_neg (by rw [hl]; omega)]
    simp only [show 128 + L - 128 = L by omega, hd, hgr]
    simp [hL]
    omega
theorem unrow_bytes (xs : List Int) : ∀ (h b : List UInt8) (acc : List Int), (∀ x, x ∈ xs → 0 ≤ x ∧ x ≤ 9223372036854775807) →
    unrowF (h ++ (rowBytes xs ++ b)) xs.length h.length acc = (acc ++ xs, (h.length : Int) + ((rowBytes xs).length : Int), 0) := by
  induction xs with
  | nil => intro h b acc _; simp [unrowF, rowBytes]
  | cons x xs ih =>
    intro h b acc hx
    have hx0 := hx x List.mem_cons_self
    have e : h ++ (rowBytes (x :: xs) ++ b) = h ++ ((putN x).1 ++ (rowBytes xs ++ b)) := by simp [rowBytes]
    have hg := get_put h (rowBytes xs ++ b) x hx0.1 hx0.2
    show unrowF _ (xs.length + 1) _ _ = _
    rw [unrowF, e, hg]
    simp only [ne_eq, not_true_eq_false, if_false]
    have e2 : h ++ ((putN x).1 ++ (rowBytes xs ++ b)) = (h ++ (putN x).1) ++ (rowBytes xs ++ b) := by simp
    have e3 : (h.length : Int) + ((putN x).1.length : Int) = ((h ++ (putN x).1).length : Int) := by simp
    rw [e2, e3, ih (h ++ (putN x).1) b (acc ++ [x]) (fun y hy => hx y (List.mem_cons_of_mem _ hy))]
    simp [rowBytes]
    omega
/-- a row comes back of its bytes -/
theorem unrow_row (h b : List UInt8) (xs : List Int) (hn : nneg xs = true) (hx : ∀ x, x ∈ xs → x ≤ 9223372036854775807) (hl : xs.length ≤ 1000) :
    unrowN (h ++ ((rowN xs).1 ++ b)) h.length xs.length = (xs, (h.length : Int) + ((rowN xs).1.length : Int), 0) := by
  have hr : rowN xs = ((putN xs.length).1 ++ rowBytes xs, 0) := by unfold rowN; rw [if_pos hn]
  rw [hr]
  have hp : ∀ x, x ∈ xs → 0 ≤ x ∧ x ≤ 9223372036854775807 := by
    intro x hm
    unfold nneg at hn
    rw [List.all_eq_true] at hn
    exact ⟨by simpa using hn x hm, hx x hm⟩
  have e : h ++ ((putN xs.length).1 ++ rowBytes xs ++ b) = h ++ ((putN xs.length).1 ++ (rowBytes xs ++ b)) := by simp
  have hg := get_put h (rowBytes xs ++ b) xs.length (by omega) (by omega)
  unfold unrowN
  rw [e, hg]
  simp only [ne_eq, not_true_eq_false, if_false]
  rw [if_neg (by omega), Int.toNat_natCast]
  have e2 : h ++ ((putN (xs.length : Int)).1 ++ (rowBytes xs ++ b)) = (h ++ (putN (xs.length : Int)).1) ++ (rowBytes xs ++ b) := by simp
  have e3 : (h.length : Int) + ((putN (xs.length : Int)).1.length : Int) = ((h ++ (putN (xs.length : Int)).1).length : Int) := by simp
  rw [e2, e3, unrow_bytes xs _ b [] hp]
  simp
  omega
theorem cut_join (l : List UInt8) (a b c : Nat) (h1 : a ≤ b) (h2 : b ≤ c) : (l.take c).drop a = (l.take b).drop a ++ (l.take c).drop b := by
  have e : l.take b = (l.take c).take b := by rw [List.take_take, Nat.min_eq_left h2]
  rw [e]
  generalize l.take c = m
  have e2 : m.drop a = (m.drop a).take (b - a) ++ (m.drop a).drop (b - a) := (List.take_append_drop _ _).symm
  rw [List.drop_take, List.drop_drop, show a + (b - a) = b by omega] at *
  exact e2
theorem cut_one (l : List UInt8) (p : Nat) (hp : p < l.length) : (l.take (p + 1)).drop p = [l.getD p 0] := by
  rw [List.drop_take, show p + 1 - p = 1 by omega, List.getD, List.getElem?_eq_getElem hp]
  rw [List.drop_eq_getElem_cons hp]
  rfl
/-- what is got was put so -/
theorem get_least (l : List UInt8) (p x to : Int) (h : getN l p = (x, to, 0)) :
    0 ≤ x ∧ x ≤ 9223372036854775807 ∧ 0 ≤ p ∧ p < to ∧ to ≤ l.length ∧ (l.take to.toNat).drop p.toNat = (putN x).1 := by
  unfold getN at h
  split at h
  · simp at h
  · rename_i c1
    split at h
    · simp at h
    · rename_i c2
      obtain ⟨q, rfl⟩ := Int.eq_ofNat_of_zero_le (show 0 ≤ p by omega)
      have hq : q < l.length := by omega
      simp only [Int.toNat_natCast] at h ⊢
      have hc1 := cut_one l q hq
      generalize hc : l.getD q 0 = c at h hc1
      have hcl := c.toNat_lt
      split at h
      · rename_i c3
        simp only [Prod.mk.injEq] at h
        obtain ⟨rfl, rfl, _⟩ := h
        have e : ((q : Int) + 1).toNat = q + 1 := by omega
        refine ⟨by omega, by omega, by omega, by omega, by omega, ?_⟩
        rw [e, hc1]
        unfold putN
        rw [if_neg (by omega), if_pos (by omega)]
        simp
      · rename_i c3
        split at h
        · simp at h
        · rename_i c4
          split at h
          · simp at h
          · rename_i c5
            generalize hM : (l.drop (q + 1)).take (c.toNat - 128) = M at h
            have hML : M.length = c.toNat - 128 := by rw [← hM, List.length_take, List.length_drop]; omega
            obtain ⟨d, M', rfl⟩ : ∃ d M', M = d :: M' := by
              cases M with
              | nil => simp at hML; omega
              | cons d M' => exact ⟨d, M', rfl⟩
            unfold greatN at h
            split at h
            · simp at h
            · rename_i c6
              split at h
              · simp at h
              · rename_i c7
                simp only [ne_eq, not_true_eq_false, if_false, Prod.mk.injEq] at h
                obtain ⟨rfl, rfl, _⟩ := h
                have hd : d ≠ 0 := fun e => c6 (.inl (by simpa using e))
                have h128 : 128 ≤ val (d :: M') := by
                  rcases Nat.lt_or_ge (val (d :: M')) 128 with e | e
                  · exact absurd (Or.inr e) c6
                  · exact e
                simp at hML
                have hbe : be (val (d :: M')) = d :: M' := beF_val 8 d M' hd (by omega)
                generalize val (d :: M') = V at hbe h128 c7 ⊢
                have hV : (128 : Int) ≤ (V : Int) := by omega
                have e : ((q : Int) + 1 + ((c.toNat - 128 : Nat) : Int)).toNat = q + 1 + (c.toNat - 128) := by omega
                refine ⟨by omega, by omega, by omega, by omega, by omega, ?_⟩
                rw [e, cut_join l q (q + 1) _ (by omega) (by omega), hc1]
                unfold putN
                rw [if_neg (Int.not_lt.mpr (Int.natCast_nonneg V)), if_neg (Int.not_lt.mpr hV), Int.toNat_natCast, hbe]
                have e4 : (l.take (q + 1 + (c.toNat - 128))).drop (q + 1) = d :: M' := by
                  rw [List.drop_take, Nat.add_sub_cancel_left]; exact hM
                rw [e4]
                simp only [List.length_cons, List.cons_append, List.nil_append, List.cons.injEq, and_true]
                apply UInt8.toNat_inj.1
                rw [UInt8.toNat_ofNat']; omega
theorem unrowF_least (l : List UInt8) (k : Nat) : ∀ (t : Nat) (acc xs : List Int) (to : Int), t ≤ l.length → unrowF l k t acc = (xs, to, 0) →
    ∃ ys : List Int, xs = acc ++ ys ∧ ys.length = k ∧ (∀ y, y ∈ ys → 0 ≤ y ∧ y ≤ 9223372036854775807) ∧ (t : Int) ≤ to ∧ to ≤ l.length ∧ (l.take to.toNat).drop t = rowBytes ys := by
  induction k with
  | zero =>
    intro t acc xs to ht h
    simp only [unrowF, Prod.mk.injEq] at h
    obtain ⟨rfl, rfl, _⟩ := h
    refine ⟨[], by simp, rfl, (fun y hy => by cases hy), by omega, by omega, ?_⟩
    rw [Int.toNat_natCast]
    simp [rowBytes]
  | succ k ih =>
    intro t acc xs to ht h
    rw [unrowF] at h
    split at h
    · rename_i c; simp only [Prod.mk.injEq] at h; exact absurd h.2.2 c
    · rename_i c
      generalize hg : getN l t = g at h c
      obtain ⟨x, t2, e⟩ := g
      simp only at c h
      have he : e = 0 := by simpa using c
      subst he
      obtain ⟨h0, h1, _, h3, h4, h5⟩ := get_least l t x t2 hg
      obtain ⟨u, rfl⟩ := Int.eq_ofNat_of_zero_le (show 0 ≤ t2 by omega)
      obtain ⟨ys, e1, e2, e3, e4, e5, e6⟩ := ih u _ _ _ (by omega) h
      rw [Int.toNat_natCast, Int.toNat_natCast] at h5
      refine ⟨x :: ys, by rw [e1]; simp, by simp [e2], ?_, by omega, e5, ?_⟩
      · intro y hy
        cases hy with
        | head => exact ⟨h0, h1⟩
        | tail _ hy => exact e3 y hy
      · rw [cut_join l t u _ (by omega) (by omega), h5, e6]
        simp [rowBytes]
/-- what is taken as a row was put so -/
theorem unrow_least (l : List UInt8) (p to : Int) (xs : List Int) (h : unrowN l p 1000 = (xs, to, 0)) :
    xs.length ≤ 1000 ∧ (∀ y, y ∈ xs → 0 ≤ y ∧ y ≤ 9223372036854775807) ∧ 0 ≤ p ∧ p < to ∧ to ≤ l.length ∧ rowN xs = ((l.take to.toNat).drop p.toNat, 0) := by
  unfold unrowN at h
  split at h
  · rename_i c; simp only [Prod.mk.injEq] at h; exact absurd h.2.2 c
  · rename_i c
    split at h
    · simp at h
    · rename_i c2
      generalize hg : getN l p = g at h c c2
      obtain ⟨x, t, e⟩ := g
      simp only at c c2 h
      have he : e = 0 := by simpa using c
      subst he
      obtain ⟨h0, h1, h2, h3, h4, h5⟩ := get_least l p x t hg
      obtain ⟨u, rfl⟩ := Int.eq_ofNat_of_zero_le (show 0 ≤ t by omega)
      obtain ⟨n, rfl⟩ := Int.eq_ofNat_of_zero_le h0
      rw [Int.toNat_natCast] at h h5
      obtain ⟨ys, e1, e2, e3, e4, e5, e6⟩ := unrowF_least l n u _ _ _ (by omega) h
      rw [List.nil_append] at e1
      subst e1
      refine ⟨by omega, e3, h2, by omega, e5, ?_⟩
      have hn : nneg xs = true := by
        unfold nneg; rw [List.all_eq_true]; intro y hy; simpa using (e3 y hy).1
      unfold rowN
      rw [if_pos hn, cut_join l p.toNat u _ (by omega) (by omega), h5, e6, e2]
theorem sizeN_mono (n x : Int) (h0 : 0 ≤ n) (h : n ≤ x) (hx : x ≤ 9223372036854775807) : sizeN n ≤ sizeN x := by
  unfold sizeN putN
  by_cases h1 : n < 128
  · rw [if_neg (by omega), if_pos h1]
    by_cases h2 : x < 128
    · rw [if_neg (by omega), if_pos h2]; simp
    · rw [if_neg (by omega), if_neg h2]; simp; omega
  · rw [if_neg (by omega), if_neg h1, if_neg (by omega), if_neg (by omega)]
    have := beF_mono 8 n.toNat x.toNat (by omega)
    unfold be
    simp; omega
end Go.Proofs.Ytopmppnnihdnaaa.NumP
