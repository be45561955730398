/- Sessions: the plain law. -/
namespace Go.Proofs.Ytjccjlflnlddpaa.SessP
set_option linter.unusedVariables false
set_option linter.unusedSimpArgs false
/-- a client's last call -/
structure Se where
  client : Int
  seq : Int
  reply : ByteArray
deriving DecidableEq
def numB (n : Int) : Bool := decide (1 ≤ n ∧ n ≤ 99999)
def may (s : Se) : Bool := numB s.client && numB s.seq && decide (s.reply.size ≤ 300)
def okFrom : Int → List Se → Bool
  | _, [] => true
  | p, x :: l => may x && decide (p < x.client) && okFrom x.client l
def ok (l : List Se) : Bool := decide (l.length ≤ 20) && okFrom 0 l
def okE (l : List Se) : Int := if ok l = true then 0 else 2
def lastId : Int → List Se → Int
  | p, [] => p
  | _, x :: l => lastId x.client l
theorem okFrom_snoc (l : List Se) (x : Se) : ∀ p, okFrom p (l ++ [x]) = (okFrom p l && (may x && decide (lastId p l < x.client))) := by
  induction l with
  | nil => intro p; simp [okFrom, lastId]; rfl
  | cons y l ih => intro p; simp only [List.cons_append, okFrom, ih, lastId, Bool.and_assoc]; rfl
theorem okFrom_prefix (l m : List Se) : ∀ p, okFrom p (l ++ m) = true → okFrom p l = true := by
  induction l with
  | nil => intro p _; rfl
  | cons y l ih =>
    intro p h
    simp only [List.cons_append, okFrom, Bool.and_eq_true] at h ⊢
    exact ⟨h.1, ih _ h.2⟩
theorem lastId_snoc (l : List Se) (x : Se) : ∀ p, lastId p (l ++ [x]) = x.client := by
  induction l with
  | nil => intro p; rfl
  | cons y l ih => intro p; exact ih y.client
theorem lastId_take (xs : List Se) (k : Nat) (h1 : 1 ≤ k) (h2 : k ≤ xs.length) : lastId 0 (xs.take k) = (xs[k - 1]'(by omega)).client := by
  obtain ⟨j, rfl⟩ : ∃ j, k = j + 1 := ⟨k - 1, by omega⟩
  rw [List.take_succ_eq_append_getElem (by omega), lastId_snoc]
  rfl
theorem okFrom_cut {xs : List Se} {k : Nat} (h : okFrom 0 (xs.take k) = false) : okFrom 0 xs = false := by
  cases h2 : okFrom 0 xs with
  | false => rfl
  | true =>
    rw [← List.take_append_drop k xs] at h2
    rw [okFrom_prefix _ _ _ h2] at h
    exact absurd h (by decide)
end Go.Proofs.Ytjccjlflnlddpaa.SessP
