/- The basket: the plain law. -/
import Derived.Test.YtfnmaemeofkagaaStockPlain
namespace Go.Proofs.Ytfnmaemeofkagaa.StockP
/-- lines one behind the other, their items growing from p on -/
def okLFrom : Int → List Ln → Bool
  | _, [] => true
  | p, x :: l => decide (p < x.item ∧ x.item ≤ 99999 ∧ 1 ≤ x.qty ∧ x.qty ≤ 1000000) && okLFrom x.item l
def okL (l : List Ln) : Bool := decide (1 ≤ l.length ∧ l.length ≤ 5) && okLFrom 0 l
def okLE (l : List Ln) : Int := if okL l = true then 0 else 2
def lastL : Int → List Ln → Int
  | p, [] => p
  | _, x :: l => lastL x.item l
theorem okLFrom_snoc (l : List Ln) (x : Ln) : ∀ p, okLFrom p (l ++ [x]) = (okLFrom p l && decide (lastL p l < x.item ∧ x.item ≤ 99999 ∧ 1 ≤ x.qty ∧ x.qty ≤ 1000000)) := by
  induction l with
  | nil => intro p; simp only [List.nil_append, okLFrom, lastL, Bool.and_true, Bool.true_and]; rfl
  | cons y l ih => intro p; simp only [List.cons_append, okLFrom, ih, lastL, Bool.and_assoc]; rfl
theorem okLFrom_prefix (l m : List Ln) : ∀ p, okLFrom p (l ++ m) = true → okLFrom p l = true := by
  induction l with
  | nil => intro p _; rfl
  | cons y l ih =>
    intro p h
    simp only [List.cons_append, okLFrom, Bool.and_eq_true] at h ⊢
    exact ⟨h.1, ih _ h.2⟩
theorem lastL_snoc (l : List Ln) (x : Ln) : ∀ p, lastL p (l ++ [x]) = x.item := by
  induction l with
  | nil => intro p; rfl
  | cons y l ih => intro p; exact ih y.item
theorem okLFrom_cut {xs : List Ln} {k : Nat} (h : okLFrom 0 (xs.take k) = false) : okLFrom 0 xs = false := by
  cases h2 : okLFrom 0 xs with
  | false => rfl
  | true =>
    rw [← List.take_append_drop k xs] at h2
    rw [okLFrom_prefix _ _ _ h2] at h
    exact absurd h (by decide)
theorem okLFrom_mem {l : List Ln} : ∀ {p : Int}, okLFrom p l = true → ∀ x, x ∈ l → p < x.item ∧ x.item ≤ 99999 ∧ 1 ≤ x.qty ∧ x.qty ≤ 1000000 := by
  induction l with
  | nil => intro p _ x hx; cases hx
  | cons y l ih =>
    intro p h x hx
    simp only [okLFrom, Bool.and_eq_true, decide_eq_true_eq] at h
    cases hx with
    | head => exact h.1
    | tail _ hx => have := ih h.2 x hx; omega
/-- something done with one line behind the other -/
def goesP (f : List It → Int → Int → List It × Int) : Int → List It → List Ln → List It × Int × Int
  | i, items, [] => (items, i, 0)
  | i, items, x :: l => if (f items x.item x.qty).2 ≠ 0 then ([], i, (f items x.item x.qty).2) else goesP f (i + 1) (f items x.item x.qty).1 l
theorem goesP_nil (f : List It → Int → Int → List It × Int) (i : Int) (items : List It) : goesP f i items [] = (items, i, 0) := rfl
theorem goesP_cons (f : List It → Int → Int → List It × Int) (i : Int) (items : List It) (x : Ln) (l : List Ln) : goesP f i items (x :: l) = if (f items x.item x.qty).2 ≠ 0 then ([], i, (f items x.item x.qty).2) else goesP f (i + 1) (f items x.item x.qty).1 l := rfl
def allP (f : List It → Int → Int → List It × Int) (items : List It) (l : List Ln) : List It × Int × Int :=
  if ok items = true ∧ okL l = true then goesP f 0 items l else ([], 0, 2)
/-- what lacks -/
def lacksF (items : List It) : List Ln → List Ln
  | [] => []
  | x :: l => if (findT items x.item).1.free ≥ x.qty then lacksF items l else ⟨x.item, x.qty - (findT items x.item).1.free⟩ :: lacksF items l
def lacksP (items : List It) (l : List Ln) : List Ln := if ok items = true ∧ okL l = true then lacksF items l else []
theorem lacksF_snoc (items : List It) (l : List Ln) (x : Ln) : lacksF items (l ++ [x]) = lacksF items l ++ lacksF items [x] := by
  induction l with
  | nil => rfl
  | cons y l ih => simp only [List.cons_append, lacksF]; split <;> simp [ih, lacksF]
theorem lacksF_one (items : List It) (l : List Ln) (x : Ln) : lacksF items (l ++ [x]) = lacksF items l ++ if (findT items x.item).1.free ≥ x.qty then [] else [⟨x.item, x.qty - (findT items x.item).1.free⟩] := by
  rw [lacksF_snoc]; simp only [lacksF]
theorem lacksF_len (items : List It) (l : List Ln) : (lacksF items l).length ≤ l.length := by
  induction l with
  | nil => exact Nat.le_refl _
  | cons y l ih => simp only [lacksF]; split <;> simp <;> omega
def fitsP (items : List It) (l : List Ln) : Bool := ok items && okL l && (lacksP items l).isEmpty && !l.any fun x => !(findT items x.item).2
def sumF : List Ln → Int
  | [] => 0
  | x :: l => x.qty + sumF l
theorem sumF_snoc (l : List Ln) (x : Ln) : sumF (l ++ [x]) = sumF l + x.qty := by
  induction l with
  | nil => simp [sumF]
  | cons y l ih => simp only [List.cons_append, sumF, ih]; omega
def totalP (l : List Ln) : Int := if okL l = true then sumF l else 0
theorem findT_bd {items : List It} (h : ok items = true) (id : Int) : 0 ≤ (findT items id).1.free ∧ (findT items id).1.free ≤ 1000000 := by
  unfold findT
  cases hf : find items id with
  | none => simp
  | some x =>
    have hm : may x = true := by
      unfold ok at h; simp at h
      exact okFrom_may h.2 x (List.mem_of_find?_eq_some hf)
    unfold may at hm; simp at hm ⊢; omega
end Go.Proofs.Ytfnmaemeofkagaa.StockP
