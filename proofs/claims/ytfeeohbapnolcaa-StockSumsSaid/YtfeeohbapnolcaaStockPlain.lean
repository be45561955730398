/- The stock: the plain law. -/
namespace Go.Proofs.Ytfeeohbapnolcaa.StockP
set_option linter.unusedVariables false
set_option linter.unusedSimpArgs false
/-- an item -/
structure It where
  id : Int
  free : Int
  held : Int
  gone : Int
deriving DecidableEq
/-- a line of an order -/
structure Ln where
  item : Int
  qty : Int
deriving DecidableEq
/-- may an item be? -/
def may (x : It) : Bool := decide (1 ≤ x.id ∧ x.id ≤ 99999 ∧ 0 ≤ x.free ∧ 0 ≤ x.held ∧ 0 ≤ x.gone ∧ x.free + x.held + x.gone ≤ 1000000)
/-- items one behind the other, their numbers growing from p on -/
def okFrom : Int → List It → Bool
  | _, [] => true
  | p, x :: l => may x && decide (p < x.id) && okFrom x.id l
def ok (l : List It) : Bool := decide (l.length ≤ 20) && okFrom 0 l
def find (l : List It) (id : Int) : Option It := l.find? fun x => x.id == id
/-- items with another one in its place -/
def put (l : List It) (x : It) : List It := (l.takeWhile fun y => decide (y.id < x.id)) ++ x :: l.filter fun y => decide (x.id < y.id)
theorem okFrom_lt {p : Int} {l : List It} (h : okFrom p l = true) : ∀ x, x ∈ l → p < x.id := by
  induction l generalizing p with
  | nil => intro x hx; cases hx
  | cons y l ih =>
    simp only [okFrom, Bool.and_eq_true, decide_eq_true_eq] at h
    intro x hx
    cases hx with
    | head => exact h.1.2
    | tail _ hx => have := ih h.2 x hx; omega
theorem okFrom_may {p : Int} {l : List It} (h : okFrom p l = true) : ∀ x, x ∈ l → may x = true := by
  induction l generalizing p with
  | nil => intro x hx; cases hx
  | cons y l ih =>
    simp only [okFrom, Bool.and_eq_true, decide_eq_true_eq] at h
    intro x hx
    cases hx with
    | head => exact h.1.1
    | tail _ hx => exact ih h.2 x hx
/-- the place of the first one that is so -/
def place (q : It → Bool) : List It → Nat
  | [] => 0
  | x :: l => if q x then 0 else place q l + 1
theorem place_cons (q : It → Bool) (x : It) (l : List It) : place q (x :: l) = if q x then 0 else place q l + 1 := rfl
theorem place_le (q : It → Bool) (l : List It) : place q l ≤ l.length := by
  induction l with
  | nil => exact Nat.le_refl _
  | cons x l ih => unfold place; split <;> simp; exact ih
/-- an item in the place of the one of its number: as the document says -/
theorem put_set {p : Int} {l : List It} (h : okFrom p l = true) (x : It) (hx : place (fun y => y.id == x.id) l < l.length) :
    put l x = l.set (place (fun y => y.id == x.id) l) x := by
  induction l generalizing p with
  | nil => simp at hx
  | cons y l ih =>
    simp only [okFrom, Bool.and_eq_true, decide_eq_true_eq] at h
    have hlt := okFrom_lt h.2
    rw [place_cons] at hx ⊢
    by_cases e : y.id = x.id
    · have e2 : (y.id == x.id) = true := by simpa using e
      simp only [e2, if_true]
      unfold put
      rw [List.takeWhile_cons_of_neg (by simp; omega), List.filter_cons_of_neg (by simp; omega)]
      rw [List.filter_eq_self.2 (by intro z hz; have := hlt z hz; simp; omega)]
      rfl
    · have e2 : (y.id == x.id) = false := by simpa using e
      simp only [e2, Bool.false_eq_true, if_false, List.length_cons] at hx ⊢
      have ih' := ih h.2 (by omega)
      have hyx : y.id < x.id := by
        have hpl : place (fun y => y.id == x.id) l < l.length := by omega
        have : ∃ z, z ∈ l ∧ z.id = x.id := by
          clear ih ih' hlt hx h
          induction l with
          | nil => simp at hpl
          | cons z l ih =>
            rw [place_cons] at hpl
            by_cases e3 : z.id = x.id
            · exact ⟨z, List.mem_cons_self, e3⟩
            · have e4 : (z.id == x.id) = false := by simpa using e3
              simp only [e4, Bool.false_eq_true, if_false, List.length_cons] at hpl
              obtain ⟨u, hu, hu2⟩ := ih (by omega)
              exact ⟨u, List.mem_cons_of_mem _ hu, hu2⟩
        obtain ⟨z, hz, hz2⟩ := this
        have := hlt z hz
        omega
      show put (y :: l) x = y :: l.set (place _ l) x
      rw [← ih']
      unfold put
      rw [List.takeWhile_cons_of_pos (by simpa using hyx), List.filter_cons_of_neg (by simp; omega)]
      rfl
/-- an item of a new number, ahead of the first greater one -/
theorem put_insert {p : Int} {l : List It} (h : okFrom p l = true) (x : It) (hx : ∀ y, y ∈ l → y.id ≠ x.id) :
    put l x = l.take (place (fun y => decide (x.id < y.id)) l) ++ x :: l.drop (place (fun y => decide (x.id < y.id)) l) := by
  induction l generalizing p with
  | nil => rfl
  | cons y l ih =>
    simp only [okFrom, Bool.and_eq_true, decide_eq_true_eq] at h
    have hlt := okFrom_lt h.2
    have hne := hx y List.mem_cons_self
    unfold place
    by_cases e : x.id < y.id
    · have e2 : decide (x.id < y.id) = true := by simpa using e
      simp only [e2, if_true]
      unfold put
      rw [List.takeWhile_cons_of_neg (by simp; omega), List.filter_eq_self.2]
      · rfl
      · intro z hz
        cases hz with
        | head => simpa using e
        | tail _ hz => have := hlt z hz; simp; omega
    · have e2 : decide (x.id < y.id) = false := by simpa using e
      simp only [e2, Bool.false_eq_true, if_false]
      rw [List.take_succ_cons, List.drop_succ_cons, List.cons_append, ← ih h.2 (fun z hz => hx z (List.mem_cons_of_mem _ hz))]
      unfold put
      rw [List.takeWhile_cons_of_pos (by simp; omega), List.filter_cons_of_neg (by simp; omega)]
      rfl
theorem place_is (q : It → Bool) (l : List It) (k : Nat) (hk : k < l.length) (hb : ∀ j, (hj : j < l.length) → j < k → q l[j] = false) (h : q l[k] = true) : place q l = k := by
  induction l generalizing k with
  | nil => simp at hk
  | cons x l ih =>
    rw [place_cons]
    cases k with
    | zero => rw [if_pos (by simpa using h)]
    | succ k =>
      have h0 := hb 0 (by simp) (by omega)
      rw [if_neg (by simp at h0; simp [h0])]
      rw [ih k (by simpa using hk) (fun j hj hjk => by have := hb (j + 1) (by simpa using hj) (by omega); simpa using this) (by simpa using h)]
theorem place_none (q : It → Bool) (l : List It) (hb : ∀ j, (hj : j < l.length) → q l[j] = false) : place q l = l.length := by
  induction l with
  | nil => rfl
  | cons x l ih =>
    rw [place_cons]
    have h0 := hb 0 (by simp)
    rw [if_neg (by simp at h0; simp [h0])]
    rw [ih (fun j hj => by have := hb (j + 1) (by simpa using hj); simpa using this)]
    rfl
/-- the place, or below 0 -/
def idx (q : It → Bool) (l : List It) : Int := if place q l < l.length then (place q l : Int) else -1
theorem place_at (q : It → Bool) (l : List It) (h : place q l < l.length) : q l[place q l] = true := by
  induction l with
  | nil => simp at h
  | cons x l ih =>
    by_cases e : q x = true
    · have : place q (x :: l) = 0 := by rw [place_cons, if_pos e]
      simp only [this, List.getElem_cons_zero]; exact e
    · have e2 : place q (x :: l) = place q l + 1 := by rw [place_cons, if_neg e]
      simp only [e2, List.getElem_cons_succ]
      exact ih (by rw [e2] at h; simpa using h)
theorem find_place (id : Int) (l : List It) : find l id = if h : place (fun x => x.id == id) l < l.length then some l[place (fun x => x.id == id) l] else none := by
  induction l with
  | nil => rfl
  | cons x l ih =>
    unfold find at *
    by_cases e : (x.id == id) = true
    · have e2 : place (fun x => x.id == id) (x :: l) = 0 := by rw [place_cons, if_pos e]
      rw [List.find?_cons, e]
      simp [e2]
    · have e2 : place (fun x => x.id == id) (x :: l) = place (fun x => x.id == id) l + 1 := by rw [place_cons, if_neg e]
      have e3 : (x.id == id) = false := by simpa using e
      rw [List.find?_cons, e3]
      simp only [ih]
      by_cases h : place (fun x => x.id == id) l < l.length
      · rw [dif_pos h, dif_pos (by rw [e2]; simpa using h)]
        simp only [e2, List.getElem_cons_succ]
      · rw [dif_neg h, dif_neg (by rw [e2]; simpa using h)]
/-- what Find tells -/
def findT (l : List It) (id : Int) : It × Bool := match find l id with | some x => (x, true) | none => (⟨0, 0, 0, 0⟩, false)
/-- may a stock be asked for so many? -/
def askedB (l : List It) (q : Int) : Bool := ok l && decide (1 ≤ q ∧ q ≤ 1000000)
/-- something done with an item -/
def withP (g : It → It × Int) (l : List It) (id q : Int) : List It × Int :=
  if askedB l q = true then
    if h : place (fun x => x.id == id) l < l.length then
      if (g l[place (fun x => x.id == id) l]).2 = 0 then (l.set (place (fun x => x.id == id) l) (g l[place (fun x => x.id == id) l]).1, 0) else ([], (g l[place (fun x => x.id == id) l]).2)
    else ([], 40)
  else ([], 2)
/-- the last number, or p -/
def lastId : Int → List It → Int
  | p, [] => p
  | _, x :: l => lastId x.id l
theorem okFrom_snoc (l : List It) (x : It) : ∀ p, okFrom p (l ++ [x]) = (okFrom p l && (may x && decide (lastId p l < x.id))) := by
  induction l with
  | nil => intro p; simp [okFrom, lastId]; rfl
  | cons y l ih => intro p; simp only [List.cons_append, okFrom, ih, lastId, Bool.and_assoc]; rfl
theorem okFrom_prefix (l m : List It) : ∀ p, okFrom p (l ++ m) = true → okFrom p l = true := by
  induction l with
  | nil => intro p _; rfl
  | cons y l ih =>
    intro p h
    simp only [List.cons_append, okFrom, Bool.and_eq_true] at h ⊢
    exact ⟨h.1, ih _ h.2⟩
theorem lastId_snoc (l : List It) (x : It) : ∀ p, lastId p (l ++ [x]) = x.id := by
  induction l with
  | nil => intro p; rfl
  | cons y l ih => intro p; exact ih y.id
theorem lastId_take (xs : List It) (k : Nat) (h1 : 1 ≤ k) (h2 : k ≤ xs.length) : lastId 0 (xs.take k) = (xs[k - 1]'(by omega)).id := by
  obtain ⟨j, rfl⟩ : ∃ j, k = j + 1 := ⟨k - 1, by omega⟩
  rw [List.take_succ_eq_append_getElem (by omega), lastId_snoc]
  rfl
theorem okFrom_cut {xs : List It} {k : Nat} (h : okFrom 0 (xs.take k) = false) : okFrom 0 xs = false := by
  cases h2 : okFrom 0 xs with
  | false => rfl
  | true =>
    rw [← List.take_append_drop k xs] at h2
    rw [okFrom_prefix _ _ _ h2] at h
    exact absurd h (by decide)
end Go.Proofs.Ytfeeohbapnolcaa.StockP
