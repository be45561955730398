/- Numbers as bytes: the plain law. -/
import Derived.Lib.BitFns
namespace Go.Proofs.Ytopmppnnihdnaaa.NumP
set_option linter.unusedVariables false
set_option linter.unusedSimpArgs false
/-- a number's bytes, the lowest last, in at most k of them -/
def beF : Nat → Nat → List UInt8
  | 0, _ => []
  | k + 1, n => if n = 0 then [] else beF k (n / 256) ++ [UInt8.ofNat n]
def be (n : Nat) : List UInt8 := beF 8 n
def val (l : List UInt8) : Nat := l.foldl (fun a b => 256 * a + b.toNat) 0
/-- just k bytes -/
def beK : Nat → Nat → List UInt8
  | 0, _ => []
  | k + 1, n => beK k (n / 256) ++ [UInt8.ofNat n]

theorem val_snoc (l : List UInt8) (b : UInt8) : val (l ++ [b]) = 256 * val l + b.toNat := by simp [val]
theorem beF_zero (k : Nat) : beF k 0 = [] := by cases k <;> rfl
theorem beK_length (k : Nat) : ∀ n, (beK k n).length = k := by
  induction k with
  | zero => intro n; rfl
  | succ k ih => intro n; simp [beK, ih]
theorem beF_length_le (k : Nat) : ∀ n, (beF k n).length ≤ k := by
  induction k with
  | zero => intro n; simp [beF]
  | succ k ih => intro n; unfold beF; split <;> simp; exact ih _
theorem val_beF (k : Nat) : ∀ n, n < 256 ^ k → val (beF k n) = n := by
  induction k with
  | zero => intro n h; simp at h; subst h; rfl
  | succ k ih =>
    intro n h
    unfold beF
    split
    · rename_i h0; subst h0; rfl
    · rw [val_snoc, ih (n / 256) (by rw [Nat.pow_succ] at h; omega)]
      rw [UInt8.toNat_ofNat']; omega
theorem beF_eq_beK (k : Nat) : ∀ n, n < 256 ^ k → beF k n = beK (beF k n).length n := by
  induction k with
  | zero => intro n h; rfl
  | succ k ih =>
    intro n h
    by_cases h0 : n = 0
    · subst h0; rw [beF_zero]; rfl
    · have e : beF (k + 1) n = beF k (n / 256) ++ [UInt8.ofNat n] := by rw [beF, if_neg h0]
      rw [e, List.length_append]
      show _ = beK _ (n / 256) ++ [UInt8.ofNat n]
      rw [← ih (n / 256) (by rw [Nat.pow_succ] at h; omega)]
/-- the first byte of a number is not nought -/
theorem beF_head (k : Nat) : ∀ n, n < 256 ^ k → n ≠ 0 → ∃ b l, beF k n = b :: l ∧ b ≠ 0 := by
  induction k with
  | zero => intro n h h0; simp at h; omega
  | succ k ih =>
    intro n h h0
    rw [beF, if_neg h0]
    by_cases h1 : n / 256 = 0
    · rw [h1, beF_zero]
      refine ⟨UInt8.ofNat n, [], rfl, ?_⟩
      intro h2
      have := congrArg UInt8.toNat h2
      rw [UInt8.toNat_ofNat'] at this
      simp at this
      omega
    · obtain ⟨b, l, e, hb⟩ := ih (n / 256) (by rw [Nat.pow_succ] at h; omega) h1
      exact ⟨b, l ++ [UInt8.ofNat n], by rw [e]; rfl, hb⟩
theorem snocInd {α : Type} {P : List α → Prop} (h0 : P []) (h1 : ∀ l b, P l → P (l ++ [b])) (l : List α) : P l := by
  rw [← List.reverse_reverse l]
  induction l.reverse with
  | nil => exact h0
  | cons b r ih => rw [List.reverse_cons]; exact h1 _ _ ih
theorem val_lt (l : List UInt8) : val l < 256 ^ l.length := by
  induction l using snocInd with
  | h0 => simp [val]
  | h1 l b ih =>
    rw [val_snoc, List.length_append, List.length_singleton, Nat.pow_succ]
    have := b.toNat_lt
    omega

theorem val_ge (b : UInt8) (l : List UInt8) (hb : b ≠ 0) : 256 ^ l.length ≤ val (b :: l) := by
  have hb1 : 1 ≤ b.toNat := by
    rcases Nat.eq_zero_or_pos b.toNat with h | h
    · exact absurd (UInt8.toNat_inj.1 (by simpa using h)) hb
    · exact h
  induction l using snocInd with
  | h0 => simp [val]; exact hb1
  | h1 l c ih =>
    rw [← List.cons_append, val_snoc, List.length_append, List.length_singleton, Nat.pow_succ]
    omega
/-- bytes of which the first is not nought are the bytes of their number -/
theorem beF_val (k : Nat) : ∀ (b : UInt8) (l : List UInt8), b ≠ 0 → l.length < k → beF k (val (b :: l)) = b :: l := by
  induction k with
  | zero => intro b l _ h; omega
  | succ k ih =>
    intro b l hb h
    have hpos := val_ge b l hb
    have hp : 0 < 256 ^ l.length := Nat.pow_pos (by omega)
    rw [beF, if_neg (by omega)]
    rcases List.eq_nil_or_concat l with rfl | ⟨m, c, rfl⟩
    · have e : val [b] = b.toNat := by simp [val]
      have hlt := b.toNat_lt
      rw [e, show b.toNat / 256 = 0 by omega, beF_zero]
      simp
    · rw [List.concat_eq_append] at *
      rw [← List.cons_append, val_snoc]
      have hlt := c.toNat_lt
      rw [show (256 * val (b :: m) + c.toNat) / 256 = val (b :: m) by omega, ih b m hb (by simp at h; omega)]
      congr 2
      apply UInt8.toNat_inj.1
      rw [UInt8.toNat_ofNat']; omega
/-- a greater number has no fewer bytes -/
theorem beF_mono (k : Nat) : ∀ m n, m ≤ n → (beF k m).length ≤ (beF k n).length := by
  induction k with
  | zero => intro m n _; simp [beF]
  | succ k ih =>
    intro m n h
    unfold beF
    by_cases h0 : m = 0
    · rw [if_pos h0]; simp
    · rw [if_neg h0, if_neg (by omega)]
      have := ih (m / 256) (n / 256) (Nat.div_le_div_right h)
      simp; exact this
/-- so many bytes -/
theorem beF_len (k : Nat) : ∀ n j, n < 256 ^ k → j < k → 256 ^ j ≤ n → n < 256 ^ (j + 1) → (beF k n).length = j + 1 := by
  induction k with
  | zero => intro n j _ h; omega
  | succ k ih =>
    intro n j h hj h1 h2
    have hp : 0 < 256 ^ j := Nat.pow_pos (by omega)
    rw [beF, if_neg (by omega), List.length_append, List.length_singleton]
    cases j with
    | zero =>
      simp at h2
      rw [show n / 256 = 0 by omega, beF_zero]; rfl
    | succ j =>
      rw [ih (n / 256) j (by rw [Nat.pow_succ] at h; omega) (by omega) (by rw [Nat.pow_succ] at h1; omega) (by rw [Nat.pow_succ] at h2; omega)]
/-! ### how many bytes, by the number of bits -/
theorem bitLen_bounds (f : Nat) : ∀ x, x < 2 ^ f → x < 2 ^ (Go.Lib.bitLenAux f x) ∧ (x ≠ 0 → Go.Lib.bitLenAux f x ≠ 0 ∧ 2 ^ (Go.Lib.bitLenAux f x - 1) ≤ x) := by
  induction f with
  | zero => intro x h; simp at h; subst h; simp [Go.Lib.bitLenAux]
  | succ f ih =>
    intro x h
    unfold Go.Lib.bitLenAux
    by_cases h0 : x = 0
    · subst h0; simp
    · rw [if_neg h0]
      obtain ⟨h1, h2⟩ := ih (x / 2) (by rw [Nat.pow_succ] at h; omega)
      refine ⟨by rw [Nat.add_comm, Nat.pow_succ]; omega, fun _ => ⟨by omega, ?_⟩⟩
      by_cases h3 : x / 2 = 0
      · rw [h3] at h1 h2 ⊢
        have : Go.Lib.bitLenAux f 0 = 0 := by cases f <;> simp [Go.Lib.bitLenAux]
        rw [this]; simp; omega
      · obtain ⟨h4, h5⟩ := h2 h3
        rw [show 1 + Go.Lib.bitLenAux f (x / 2) - 1 = (Go.Lib.bitLenAux f (x / 2) - 1) + 1 by omega, Nat.pow_succ]
        omega
theorem be_length (n : Nat) (h0 : n ≠ 0) (h : n < 2 ^ 64) : (be n).length = (Go.Lib.bitLen n + 7) / 8 := by
  obtain ⟨h1, h2⟩ := bitLen_bounds 64 n h
  obtain ⟨h3, h4⟩ := h2 h0
  unfold be Go.Lib.bitLen
  generalize hL : Go.Lib.bitLenAux 64 n = L at *
  have hL64 : L ≤ 64 := by
    rcases Nat.lt_or_ge 64 L with h5 | h5
    · have : 2 ^ 64 ≤ 2 ^ (L - 1) := Nat.pow_le_pow_right (by omega) (by omega)
      omega
    · exact h5
  have e : ∀ j, (256 : Nat) ^ j = 2 ^ (8 * j) := fun j => by rw [Nat.pow_mul]
  rw [beF_len 8 n ((L - 1) / 8) (by rw [e]; exact h) (by omega)]
  · omega
  · rw [e]; exact Nat.le_trans (Nat.pow_le_pow_right (by omega) (by omega)) h4
  · rw [e]; exact Nat.lt_of_lt_of_le h1 (Nat.pow_le_pow_right (by omega) (by omega))
/-- a byte of a number -/
theorem beK_get (k : Nat) : ∀ n i, i < k → (beK k n).getD i 0 = UInt8.ofNat (n / 256 ^ (k - 1 - i)) := by
  induction k with
  | zero => intro n i h; omega
  | succ k ih =>
    intro n i h
    unfold beK
    have hl := beK_length k (n / 256)
    by_cases e : i = k
    · subst e
      rw [List.getD, List.getElem?_append_right (by omega), hl]
      simp
    · have h2 := ih (n / 256) i (by omega)
      rw [List.getD, List.getElem?_append_left (by omega)]
      rw [List.getD] at h2
      rw [h2, Nat.div_div_eq_div_mul, ← Nat.pow_succ']
      congr 3
      omega
theorem be_pos (n : Nat) (h0 : n ≠ 0) (h : n < 2 ^ 64) : 1 ≤ (be n).length := by
  obtain ⟨b, l, e, _⟩ := beF_head 8 n (by simpa using h) h0
  unfold be; rw [e]; simp
theorem be_le (n : Nat) : (be n).length ≤ 8 := beF_length_le 8 n

/-! ### the document's answers -/
/-- P5.1 -/
def putN (n : Int) : List UInt8 × Int :=
  if n < 0 then ([], 2) else if n < 128 then ([UInt8.ofNat n.toNat], 0) else (UInt8.ofNat (128 + (be n.toNat).length) :: be n.toNat, 0)
def sizeN (n : Int) : Int := ((putN n).1.length : Int)
/-- how a number of many bytes is taken -/
def greatN (m : List UInt8) : Int × Int :=
  if m.headD 0 = 0 ∨ val m < 128 then (0, 5) else if 9223372036854775807 < val m then (0, 3) else ((val m : Int), 0)
/-- P5.2 -/
def getN (l : List UInt8) (p : Int) : Int × Int × Int :=
  if p < 0 ∨ (l.length : Int) < p then (0, 0, 2) else if p = l.length then (0, 0, 4) else
  let b := (l.getD p.toNat 0).toNat
  if b < 128 then ((b : Int), p + 1, 0) else if b - 128 < 1 ∨ 8 < b - 128 then (0, 0, 5) else
  if (l.length : Int) - p - 1 < (b - 128 : Nat) then (0, 0, 4) else
  let g := greatN ((l.drop (p.toNat + 1)).take (b - 128))
  if g.2 ≠ 0 then (0, 0, g.2) else (g.1, p + 1 + (b - 128 : Nat), 0)
theorem val_append (a b : List UInt8) : val (a ++ b) = val a * 256 ^ b.length + val b := by
  induction b using snocInd with
  | h0 => simp [val]
  | h1 l c ih =>
    rw [← List.append_assoc, val_snoc, ih, val_snoc, List.length_append, List.length_singleton, Nat.pow_succ, Nat.mul_add]
    rw [Nat.mul_comm (256 ^ l.length) 256, ← Nat.mul_assoc, ← Nat.mul_assoc, Nat.mul_comm 256 (val a)]
    omega
theorem val_cons (b : UInt8) (l : List UInt8) : val (b :: l) = b.toNat * 256 ^ l.length + val l := by
  have := val_append [b] l
  simpa [val] using this
theorem val_take_le (m : List UInt8) (k : Nat) : val (m.take k) ≤ val m := by
  conv => rhs; rw [← List.take_append_drop k m]
  rw [val_append]
  have h : 1 ≤ 256 ^ (m.drop k).length := Nat.pow_pos (by omega)
  have h2 := Nat.mul_le_mul_left (val (m.take k)) h
  omega
/-- the same, as the document says it -/
theorem great_ref (b : UInt8) (l : List UInt8) (h8 : l.length < 8) :
    greatN (b :: l) = if b = 0 ∨ (l.length = 0 ∧ b.toNat < 128) then (0, 5) else if l.length = 7 ∧ 127 < b.toNat then (0, 3) else ((val (b :: l) : Int), 0) := by
  unfold greatN
  simp only [List.headD_cons]
  have hv := val_cons b l
  have hl := val_lt l
  by_cases h0 : b = 0
  · simp [h0]
  · have hb1 : 1 ≤ b.toNat := by
      rcases Nat.eq_zero_or_pos b.toNat with h | h
      · exact absurd (UInt8.toNat_inj.1 (by simpa using h)) h0
      · exact h
    have hb2 := b.toNat_lt
    have e1 : (val (b :: l) < 128) ↔ (l.length = 0 ∧ b.toNat < 128) := by
      by_cases hz : l.length = 0
      · rw [hz] at hv hl; simp at hv hl; omega
      · have h256 : 256 ≤ 256 ^ l.length := by
          have : 256 ^ 1 ≤ 256 ^ l.length := Nat.pow_le_pow_right (by omega) (by omega)
          omega
        have h2 := Nat.mul_le_mul_right (256 ^ l.length) hb1
        omega
    have e2 : (9223372036854775807 < val (b :: l)) ↔ (l.length = 7 ∧ 127 < b.toNat) := by
      by_cases hz : l.length = 7
      · rw [hz] at hv hl; simp at hv hl; omega
      · have h7 : 256 ^ l.length ≤ 256 ^ 6 := Nat.pow_le_pow_right (by omega) (by omega)
        have h2 := Nat.mul_le_mul_right (256 ^ l.length) (show b.toNat ≤ 255 by omega)
        omega
    simp only [h0, false_or, e1, e2]
/-! ### rows -/
def nneg (l : List Int) : Bool := l.all fun x => decide (0 ≤ x)
def rowBytes (l : List Int) : List UInt8 := l.flatMap fun x => (putN x).1
/-- P5.3 -/
def rowN (l : List Int) : List UInt8 × Int := if nneg l = true then ((putN l.length).1 ++ rowBytes l, 0) else ([], 2)
theorem putN_len (n : Int) : (putN n).1.length ≤ 9 := by
  unfold putN
  split
  · simp
  · split
    · simp
    · have := be_le n.toNat; simp; omega
theorem putN_err (n : Int) : (putN n).2 = if 0 ≤ n then 0 else 2 := by
  unfold putN
  by_cases h : n < 0
  · rw [if_pos h, if_neg (by omega)]
  · by_cases h2 : n < 128
    · rw [if_neg h, if_pos h2, if_pos (by omega)]
    · rw [if_neg h, if_neg h2, if_pos (by omega)]
theorem rowBytes_len (l : List Int) : (rowBytes l).length ≤ 9 * l.length := by
  unfold rowBytes
  induction l with
  | nil => simp
  | cons x l ih => rw [List.flatMap_cons, List.length_append, List.length_cons]; have := putN_len x; omega
theorem rowBytes_snoc (l : List Int) (x : Int) : rowBytes (l ++ [x]) = rowBytes l ++ (putN x).1 := by simp [rowBytes]
theorem nneg_snoc (l : List Int) (x : Int) : nneg (l ++ [x]) = (nneg l && decide (0 ≤ x)) := by simp [nneg]
/-- how a row is taken, from its number of numbers on -/
def unrowF (l : List UInt8) : Nat → Int → List Int → List Int × Int × Int
  | 0, to, acc => (acc, to, 0)
  | k + 1, to, acc => if (getN l to).2.2 ≠ 0 then ([], 0, (getN l to).2.2) else unrowF l k (getN l to).2.1 (acc ++ [(getN l to).1])
def unrowN (l : List UInt8) (p top : Int) : List Int × Int × Int :=
  if (getN l p).2.2 ≠ 0 then ([], 0, (getN l p).2.2) else
  if (getN l p).1 > 1000 ∨ ((getN l p).1 > top ∧ (getN l p).1 > 0) then ([], 0, 3) else unrowF l (getN l p).1.toNat (getN l p).2.1 []
end Go.Proofs.Ytopmppnnihdnaaa.NumP
