/- Numbers as bytes: the contracts, for the abstract machine. -/
import Derived.Test.YtopmppnnihdnaaaNumRef
import Derived.Test.YtopmppnnihdnaaaAmBld
namespace Go.Proofs.Ytopmppnnihdnaaa
set_option linter.unusedVariables false
set_option linter.unusedSimpArgs false
open Go.RowKit
open NumP
set_option linter.unusedVariables false
set_option linter.unusedSimpArgs false
theorem put_fn (n : Int) (h : -9223372036854775808 ≤ n ∧ n ≤ 9223372036854775807) : FnP Try.prog 18 [.int .i64 n] (.tup [.str (bs (putN n).1), .int .i64 (putN n).2]) :=
  FnP.of_calls rfl (by simp) (by simp) fun w => (putAny n w h.1 h.2).mono fun e w' ⟨h1, h2⟩ => ⟨_, h1, h2, VRep.tup2 (.str _) (.int _ _)⟩
theorem VRep.tup3 {β : List Hd} {w : World} {x y z : Value} {a b c : AV} (h1 : VRep β w x a) (h2 : VRep β w y b) (h3 : VRep β w z c) : VRep β w (.tuple #[x, y, z]) (.tup [a, b, c]) := by
  refine .tup _ _ rfl fun j u y' h k => ?_
  match j with
  | 0 => simp at h k; subst h k; exact h1
  | 1 => simp at h k; subst h k; exact h2
  | 2 => simp at h k; subst h k; exact h3
  | j + 3 => simp at h
theorem get_fn (s : ByteArray) (p : Int) (hs : s.size ≤ 1000000) : FnP Try.prog 25 [.str s, .int .i64 p] (.tup [.int .i64 (getN (bl s) p).1, .int .i64 (getN (bl s) p).2.1, .int .i64 (getN (bl s) p).2.2]) :=
  FnP.of_calls rfl (by simp) (by simp) fun w => (get_any s p w hs).mono fun e w' ⟨h1, h2⟩ => ⟨_, h1, h2 ▸ Below.refl _ _, VRep.tup3 (.int _ _) (.int _ _) (.int _ _)⟩
theorem putR_fn (n : Int) (h : -9223372036854775808 ≤ n ∧ n ≤ 9223372036854775807) : FnP Try.prog 20 [.int .i64 n] (.tup [.str (bs (putN n).1), .int .i64 (putN n).2]) :=
  FnP.of_calls rfl (by simp) (by simp) fun w => (put_ref n w h.1 h.2).mono fun e w' ⟨h1, h2⟩ => ⟨_, h1, h2, VRep.tup2 (.str _) (.int _ _)⟩
theorem getR_fn (s : ByteArray) (p : Int) (hs : s.size ≤ 1000000) : FnP Try.prog 27 [.str s, .int .i64 p] (.tup [.int .i64 (getN (bl s) p).1, .int .i64 (getN (bl s) p).2.1, .int .i64 (getN (bl s) p).2.2]) :=
  FnP.of_calls rfl (by simp) (by simp) fun w => (get_ref s p w hs).mono fun e w' ⟨h1, h2⟩ => ⟨_, h1, h2 ▸ Below.refl _ _, VRep.tup3 (.int _ _) (.int _ _) (.int _ _)⟩
/-! ### rows, step by step -/
def rowStep (a : List UInt8 × Int) (x : Int) : List UInt8 × Int := if a.2 = 0 then (a.1 ++ (putN x).1, (putN x).2) else a
def rowS (l : List Int) (k : Nat) : List UInt8 × Int := (l.take k).foldl rowStep ((putN l.length).1, 0)
theorem rowS_succ (l : List Int) (k : Nat) (h : k < l.length) : rowS l (k + 1) = rowStep (rowS l k) (l.getD k default) := by
  unfold rowS
  rw [List.take_succ_eq_append_getElem h, List.foldl_append]
  simp [List.getD, h]
theorem foldl_row (xs : List Int) : ∀ (b : List UInt8), (nneg xs = true → xs.foldl rowStep (b, 0) = (b ++ rowBytes xs, 0)) ∧ (nneg xs = false → (xs.foldl rowStep (b, 0)).2 = 2) := by
  have stuck : ∀ (xs : List Int) (a : List UInt8 × Int), a.2 ≠ 0 → xs.foldl rowStep a = a := by
    intro xs
    induction xs with
    | nil => intro a _; rfl
    | cons x xs ih => intro a ha; rw [List.foldl_cons, show rowStep a x = a from if_neg ha]; exact ih a ha
  induction xs with
  | nil => intro b; exact ⟨fun _ => by simp [rowBytes], fun h => by simp [nneg] at h⟩
  | cons x xs ih =>
    intro b
    rw [List.foldl_cons, show rowStep (b, 0) x = (b ++ (putN x).1, (putN x).2) from if_pos rfl]
    have hn : nneg (x :: xs) = (decide (0 ≤ x) && nneg xs) := rfl
    have hb : rowBytes (x :: xs) = (putN x).1 ++ rowBytes xs := rfl
    rw [putN_err]
    by_cases h : 0 ≤ x
    · rw [if_pos h, hn, decide_eq_true h, Bool.true_and, hb, ← List.append_assoc]
      exact ih (b ++ (putN x).1)
    · rw [if_neg h, hn, decide_eq_false h, Bool.false_and, stuck _ _ (by simp)]
      exact ⟨(fun h => by cases h), (fun _ => rfl)⟩
theorem rowS_all (l : List Int) : (if (rowS l l.length).2 = 0 then ((rowS l l.length).1, (0 : Int)) else ([], (rowS l l.length).2)) = rowN l := by
  have := foldl_row l (putN l.length).1
  unfold rowS rowN
  rw [List.take_length]
  cases h : nneg l with
  | true => rw [this.1 h]; simp
  | false => rw [if_neg (by rw [this.2 h]; decide), this.2 h]; simp
theorem rowS_len (l : List Int) (k : Nat) : (rowS l k).1.length ≤ 9 * (k + 1) := by
  have gen : ∀ (xs : List Int) (a : List UInt8 × Int), (xs.foldl rowStep a).1.length ≤ a.1.length + 9 * xs.length := by
    intro xs
    induction xs with
    | nil => intro a; simp
    | cons x xs ih =>
      intro a
      rw [List.foldl_cons]
      refine Nat.le_trans (ih _) ?_
      have : (rowStep a x).1.length ≤ a.1.length + 9 := by
        unfold rowStep
        split
        · simp; exact putN_len x
        · omega
      simp; omega
  have h1 := gen (l.take k) ((putN l.length).1, 0)
  have h2 := putN_len l.length
  have h3 : (l.take k).length ≤ k := by rw [List.length_take]; omega
  unfold rowS
  simp only at h1
  omega
theorem rowN_len (l : List Int) : (rowN l).1.length ≤ 9 * (l.length + 1) := by
  have := rowS_len l l.length
  rw [← rowS_all]
  split
  · exact this
  · simp
theorem rowN_err (l : List Int) : (rowN l).2 = 0 ∨ (rowN l).2 = 2 := by unfold rowN; split <;> simp
/-! ### what is got lies within -/
theorem getN_bd (l : List UInt8) (p : Int) (h : l.length ≤ 1000000) : 0 ≤ (getN l p).1 ∧ (getN l p).1 ≤ 9223372036854775807 ∧ 0 ≤ (getN l p).2.1 ∧ (getN l p).2.1 ≤ l.length := by
  unfold getN
  by_cases h0 : p < 0 ∨ (l.length : Int) < p
  · rw [if_pos h0]; dsimp only; omega
  rw [if_neg h0]
  by_cases h1 : p = l.length
  · rw [if_pos h1]; dsimp only; omega
  rw [if_neg h1]
  dsimp only
  have hb := (l.getD p.toNat 0).toNat_lt
  by_cases h2 : (l.getD p.toNat 0).toNat < 128
  · rw [if_pos h2]; dsimp only; omega
  rw [if_neg h2]
  by_cases h3 : (l.getD p.toNat 0).toNat - 128 < 1 ∨ 8 < (l.getD p.toNat 0).toNat - 128
  · rw [if_pos h3]; dsimp only; omega
  rw [if_neg h3]
  by_cases h4 : (l.length : Int) - p - 1 < ((l.getD p.toNat 0).toNat - 128 : Nat)
  · rw [if_pos h4]; dsimp only; omega
  rw [if_neg h4]
  have hg : ∀ m : List UInt8, 0 ≤ (greatN m).1 ∧ (greatN m).1 ≤ 9223372036854775807 := by
    intro m; unfold greatN
    split
    · simp
    · split
      · simp
      · dsimp only; omega
  by_cases h5 : (greatN ((l.drop (p.toNat + 1)).take ((l.getD p.toNat 0).toNat - 128))).2 ≠ 0
  · rw [if_pos h5]; dsimp only; omega
  · rw [if_neg h5]; have := hg ((l.drop (p.toNat + 1)).take ((l.getD p.toNat 0).toNat - 128)); dsimp only; omega
theorem greatN_err (m : List UInt8) : (greatN m).2 = 0 ∨ (greatN m).2 = 5 ∨ (greatN m).2 = 3 := by
  unfold greatN
  split
  · simp
  · split <;> simp
theorem getN_err (l : List UInt8) (p : Int) : (getN l p).2.2 = 0 ∨ (getN l p).2.2 = 2 ∨ (getN l p).2.2 = 3 ∨ (getN l p).2.2 = 4 ∨ (getN l p).2.2 = 5 := by
  unfold getN
  by_cases h0 : p < 0 ∨ (l.length : Int) < p
  · rw [if_pos h0]; simp
  rw [if_neg h0]
  by_cases h1 : p = l.length
  · rw [if_pos h1]; simp
  rw [if_neg h1]
  dsimp only
  by_cases h2 : (l.getD p.toNat 0).toNat < 128
  · rw [if_pos h2]; simp
  rw [if_neg h2]
  by_cases h3 : (l.getD p.toNat 0).toNat - 128 < 1 ∨ 8 < (l.getD p.toNat 0).toNat - 128
  · rw [if_pos h3]; simp
  rw [if_neg h3]
  by_cases h4 : (l.length : Int) - p - 1 < ((l.getD p.toNat 0).toNat - 128 : Nat)
  · rw [if_pos h4]; simp
  rw [if_neg h4]
  have hg := greatN_err ((l.drop (p.toNat + 1)).take ((l.getD p.toNat 0).toNat - 128))
  generalize greatN ((l.drop (p.toNat + 1)).take ((l.getD p.toNat 0).toNat - 128)) = g at hg ⊢
  by_cases h5 : g.2 ≠ 0
  · rw [if_pos h5]; rcases hg with h | h | h <;> simp [h]
  · rw [if_neg h5]; simp
theorem unrow_step (l : List UInt8) (k : Nat) (to : Int) (acc : List Int) : unrowF l (k + 1) to acc = if (getN l to).2.2 ≠ 0 then ([], 0, (getN l to).2.2) else unrowF l k (getN l to).2.1 (acc ++ [(getN l to).1]) := rfl
end Go.Proofs.Ytopmppnnihdnaaa
