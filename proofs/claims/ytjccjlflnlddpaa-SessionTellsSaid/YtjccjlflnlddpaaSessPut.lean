/- Sessions: where a session is put; the plain law. -/
import Derived.Test.YtjccjlflnlddpaaAmSessB
namespace Go.Proofs.Ytjccjlflnlddpaa
set_option linter.unusedVariables false
set_option linter.unusedSimpArgs false
open SessP
theorem idxOf_nil {α : Type} (p : α → Bool) : idxOf p [] = -1 := by simp [idxOf]
theorem idxOf_cons {α : Type} (p : α → Bool) (x : α) (l : List α) : idxOf p (x :: l) = if p x = true then 0 else if 0 ≤ idxOf p l then idxOf p l + 1 else -1 := by
  unfold idxOf
  rw [List.findIdx?_cons]
  by_cases h : p x = true
  · simp [h]
  · rw [if_neg h, if_neg h]
    cases l.findIdx? p with
    | none => simp
    | some i => simp
theorem idxOf_hit {α : Type} {p : α → Bool} {x : α} (l : List α) (h : p x = true) : idxOf p (x :: l) = 0 := by rw [idxOf_cons, if_pos h]
theorem idxOf_far {α : Type} {p : α → Bool} {x : α} {l : List α} (h : p x = false) (h2 : 0 ≤ idxOf p l) : idxOf p (x :: l) = idxOf p l + 1 := by rw [idxOf_cons, if_neg (by simp [h]), if_pos h2]
theorem idxOf_mis {α : Type} {p : α → Bool} {x : α} {l : List α} (h : p x = false) (h2 : ¬ 0 ≤ idxOf p l) : idxOf p (x :: l) = -1 := by rw [idxOf_cons, if_neg (by simp [h]), if_neg h2]
theorem idxOf_ge {α : Type} (p : α → Bool) (l : List α) : -1 ≤ idxOf p l := (idx_range p l).1
/-- each is later than p, and than those before it -/
def asc : Int → List Se → Prop
  | _, [] => True
  | p, x :: l => p < x.client ∧ asc x.client l
theorem asc_of_ok : ∀ (l : List Se) (p : Int), okFrom p l = true → asc p l := by
  intro l
  induction l with
  | nil => intro p _; trivial
  | cons x l ih =>
    intro p h
    simp only [okFrom, Bool.and_eq_true, decide_eq_true_eq] at h
    exact ⟨h.1.2, ih _ h.2⟩
theorem asc_all : ∀ (l : List Se) (p : Int), asc p l → ∀ x, x ∈ l → p < x.client := by
  intro l
  induction l with
  | nil => intro p _ x hx; cases hx
  | cons y l ih =>
    intro p h x hx
    rcases List.mem_cons.1 hx with rfl | hx
    · exact h.1
    · exact Int.lt_trans h.1 (ih _ h.2 x hx)
theorem idxOf_no {α : Type} (p : α → Bool) (l : List α) (h : ∀ x, x ∈ l → p x = false) : idxOf p l = -1 := by
  unfold idxOf
  rw [List.findIdx?_eq_none_iff.2 (fun x hx => by simp [h x hx])]
/-- put, from the front -/
def putR : List Se → Se → List Se
  | [], s => [s]
  | x :: t, s => if x.client < s.client then x :: putR t s else if x.client = s.client then s :: t else s :: x :: t
theorem putP_eq : ∀ (l : List Se) (s : Se) (p : Int), asc p l → putP l s = putR l s := by
  intro l
  induction l with
  | nil => intro s p _; simp [putP, putR, idxOf_nil]
  | cons x l ih =>
    intro s p h
    have hr1 := idxOf_ge (fun x : Se => decide (x.client = s.client)) l
    have hr2 := idxOf_ge (fun x : Se => decide (s.client < x.client)) l
    unfold putR
    by_cases h1 : x.client < s.client
    · rw [if_pos h1, ← ih s _ h.2]
      have n1 : (fun x : Se => decide (x.client = s.client)) x = false := by simp; omega
      have n2 : (fun x : Se => decide (s.client < x.client)) x = false := by simp; omega
      unfold putP
      by_cases c1 : 0 ≤ idxOf (fun x : Se => decide (x.client = s.client)) l
      · rw [idxOf_far (p := fun x : Se => decide (x.client = s.client)) (x := x) (l := l) n1 c1, if_pos (by omega), if_pos c1, show (idxOf (fun x : Se => decide (x.client = s.client)) l + 1).toNat = (idxOf (fun x : Se => decide (x.client = s.client)) l).toNat + 1 by omega]
        rfl
      · rw [idxOf_mis (p := fun x : Se => decide (x.client = s.client)) (x := x) (l := l) n1 c1, if_neg (by omega), if_neg c1]
        by_cases c2 : 0 ≤ idxOf (fun x : Se => decide (s.client < x.client)) l
        · rw [idxOf_far (p := fun x : Se => decide (s.client < x.client)) (x := x) (l := l) n2 c2, if_neg (by omega), if_neg (by omega), show (idxOf (fun x : Se => decide (s.client < x.client)) l + 1).toNat = (idxOf (fun x : Se => decide (s.client < x.client)) l).toNat + 1 by omega]
          rfl
        · rw [idxOf_mis (p := fun x : Se => decide (s.client < x.client)) (x := x) (l := l) n2 c2, if_pos (by omega), if_pos (by omega)]
          rfl
    · rw [if_neg h1]
      by_cases h2 : x.client = s.client
      · rw [if_pos h2]
        unfold putP
        rw [idxOf_hit l (p := fun x : Se => decide (x.client = s.client)) (by simpa using h2), if_pos (by omega)]
        rfl
      · rw [if_neg h2]
        have hn := asc_all l _ h.2
        have n1 : (fun x : Se => decide (x.client = s.client)) x = false := by simpa using h2
        have n2 : (fun x : Se => decide (s.client < x.client)) x = true := by simp; omega
        unfold putP
        rw [idxOf_mis (p := fun x : Se => decide (x.client = s.client)) (x := x) (l := l) n1 (by rw [idxOf_no _ l (fun y hy => by have := hn y hy; simp; omega)]; omega), if_neg (by omega), idxOf_hit (p := fun x : Se => decide (s.client < x.client)) (x := x) l n2, if_neg (by omega)]
        rfl
theorem flt_none (l : List Se) (q : Se → Bool) (h : ∀ x, x ∈ l → q x = false) : l.filter q = [] := List.filter_eq_nil_iff.2 fun x hx => by simp [h x hx]
theorem flt_all (l : List Se) (q : Se → Bool) (h : ∀ x, x ∈ l → q x = true) : l.filter q = l := List.filter_eq_self.2 h
theorem putR_eq : ∀ (l : List Se) (s : Se) (p : Int), asc p l → putR l s = l.filter (fun x => decide (x.client < s.client)) ++ [s] ++ l.filter (fun x => decide (s.client < x.client)) := by
  intro l
  induction l with
  | nil => intro s p _; rfl
  | cons x l ih =>
    intro s p h
    have hn := asc_all l _ h.2
    unfold putR
    by_cases h1 : x.client < s.client
    · rw [if_pos h1, ih s _ h.2, List.filter_cons_of_pos (by simpa using h1), List.filter_cons_of_neg (by simp; omega)]; rfl
    · rw [if_neg h1, List.filter_cons_of_neg (by simpa using h1), flt_none l (fun x => decide (x.client < s.client)) (fun y hy => by have := hn y hy; simp; omega)]
      by_cases h2 : x.client = s.client
      · rw [if_pos h2, List.filter_cons_of_neg (by simp; omega), flt_all l _ (fun y hy => by have := hn y hy; simp; omega)]; rfl
      · rw [if_neg h2, List.filter_cons_of_pos (by simp; omega), flt_all l _ (fun y hy => by have := hn y hy; simp; omega)]; rfl
theorem okE_ok {l : List Se} (h : okE l = 0) : l.length ≤ 20 ∧ okFrom 0 l = true := by
  unfold okE ok at h
  split at h
  · rename_i h2; simpa using h2
  · cases h
theorem askP_ok {l : List Se} {c q : Int} (h : (askP l c q).2.2 = 0) : okE l = 0 ∧ numB c = true ∧ numB q = true := by
  unfold askP at h
  split at h
  · assumption
  · cases h
theorem put_filter {l : List Se} {s : Se} (h : (askP l s.client s.seq).2.2 = 0) : putP l s = l.filter (fun x => decide (x.client < s.client)) ++ [s] ++ l.filter (fun x => decide (s.client < x.client)) := by
  have ha := asc_of_ok l 0 (okE_ok (askP_ok h).1).2
  rw [putP_eq l s 0 ha, putR_eq l s 0 ha]
theorem may_of_ask {l : List Se} {s : Se} (h : (askP l s.client s.seq).2.2 = 0) : may s = decide (s.reply.size ≤ 300) := by
  obtain ⟨_, h1, h2⟩ := askP_ok h
  unfold may; rw [h1, h2]; rfl
theorem numB_iff (n : Int) : numB n = true ↔ 1 ≤ n ∧ n ≤ 99999 := by unfold numB; simp
theorem map_snoc {α β : Type} (f : α → β) (l : List α) (x : α) : l.map f ++ [f x] = (l ++ [x]).map f := by simp
theorem flt_yes {q : Se → Bool} {l : List Se} {k : Nat} (hk : k < l.length) (h : q (l.getD k default) = true) : (l.take k).filter q ++ [l.getD k default] = (l.take (k + 1)).filter q := by
  rw [List.take_succ_eq_append_getElem hk, List.filter_append, ← Se_idx hk]; congr 1; simp only [List.filter, h]
theorem flt_no {q : Se → Bool} {l : List Se} {k : Nat} (hk : k < l.length) (h : q (l.getD k default) = false) : (l.take k).filter q = (l.take (k + 1)).filter q := by
  rw [List.take_succ_eq_append_getElem hk, List.filter_append, ← Se_idx hk]; simp only [List.filter, h, List.append_nil]
/-! ### what the laws ask -/
theorem okFrom_iff : ∀ (l : List Se) (p : Int), okFrom p l = true ↔ (∀ x, x ∈ l → may x = true) ∧ asc p l := by
  intro l
  induction l with
  | nil => intro p; simp [okFrom, asc]
  | cons x l ih =>
    intro p
    simp only [okFrom, Bool.and_eq_true, decide_eq_true_eq, ih, asc, List.mem_cons, forall_eq_or_imp]
    constructor
    · rintro ⟨⟨a, b⟩, c, d⟩; exact ⟨⟨a, c⟩, b, d⟩
    · rintro ⟨⟨a, c⟩, b, d⟩; exact ⟨⟨a, b⟩, c, d⟩
theorem putR_asc : ∀ (l : List Se) (s : Se) (p : Int), asc p l → p < s.client → asc p (putR l s) := by
  intro l
  induction l with
  | nil => intro s p _ h; exact ⟨h, trivial⟩
  | cons x l ih =>
    intro s p h hp
    unfold putR
    split
    · rename_i h1; exact ⟨h.1, ih s _ h.2 h1⟩
    · split
      · rename_i h1 h2; exact ⟨hp, h2 ▸ h.2⟩
      · rename_i h1 h2; exact ⟨hp, by omega, h.2⟩
theorem putR_mem : ∀ (l : List Se) (s x : Se), x ∈ putR l s → x = s ∨ x ∈ l := by
  intro l
  induction l with
  | nil => intro s x h; simpa [putR] using h
  | cons y l ih =>
    intro s x h
    unfold putR at h
    split at h
    · rcases List.mem_cons.1 h with rfl | h
      · exact .inr List.mem_cons_self
      · rcases ih s x h with h | h
        · exact .inl h
        · exact .inr (List.mem_cons_of_mem _ h)
    · split at h
      · rcases List.mem_cons.1 h with rfl | h
        · exact .inl rfl
        · exact .inr (List.mem_cons_of_mem _ h)
      · rcases List.mem_cons.1 h with rfl | h
        · exact .inl rfl
        · exact .inr h
theorem findP_nil (c : Int) : findP [] c = (default, false) := by unfold findP; rw [idxOf_nil, if_neg (by omega)]
theorem findP_cons (x : Se) (l : List Se) (c : Int) : findP (x :: l) c = if x.client = c then (x, true) else findP l c := by
  by_cases h : x.client = c
  · rw [if_pos h]
    unfold findP
    rw [idxOf_hit l (p := fun x : Se => decide (x.client = c)) (by simpa using h), if_pos (by omega)]; rfl
  · rw [if_neg h]
    have n1 : (fun x : Se => decide (x.client = c)) x = false := by simpa using h
    unfold findP
    by_cases h2 : 0 ≤ idxOf (fun x : Se => decide (x.client = c)) l
    · rw [idxOf_far (p := fun x : Se => decide (x.client = c)) (x := x) (l := l) n1 h2, if_pos h2, if_pos (by omega), show (idxOf (fun x : Se => decide (x.client = c)) l + 1).toNat = (idxOf (fun x : Se => decide (x.client = c)) l).toNat + 1 by omega]; rfl
    · rw [idxOf_mis (p := fun x : Se => decide (x.client = c)) (x := x) (l := l) n1 h2, if_neg h2, if_neg (by omega)]
theorem findP_no {l : List Se} {c : Int} (h : ∀ x, x ∈ l → x.client ≠ c) : findP l c = (default, false) := by
  unfold findP
  rw [idxOf_no _ l (fun x hx => by simpa using h x hx), if_neg (by omega)]
theorem findP_putR : ∀ (l : List Se) (s : Se) (c : Int), findP (putR l s) c = if c = s.client then (s, true) else findP l c := by
  intro l
  induction l with
  | nil => intro s c; unfold putR; rw [findP_cons, findP_nil]; by_cases h : c = s.client <;> simp [h]; intro h2; exact absurd h2.symm h
  | cons x l ih =>
    intro s c
    unfold putR
    split
    · rename_i h1
      rw [findP_cons, ih, findP_cons]
      by_cases h : c = s.client
      · rw [if_pos h, if_neg (by omega), if_pos h]
      · rw [if_neg h, if_neg h]
    · split
      · rename_i h1 h2
        rw [findP_cons, findP_cons]
        by_cases h : c = s.client
        · rw [if_pos h, if_pos h.symm]
        · rw [if_neg h, if_neg (fun e => h e.symm), if_neg (by omega)]
      · rename_i h1 h2
        rw [findP_cons]
        by_cases h : c = s.client
        · rw [if_pos h, if_pos h.symm]
        · rw [if_neg h, if_neg (fun e => h e.symm)]
theorem putR_len : ∀ (l : List Se) (s : Se) (p : Int), asc p l → (putR l s).length ≤ l.length + 1 ∧ ((findP l s.client).2 = true → (putR l s).length = l.length) := by
  intro l
  induction l with
  | nil => intro s p _; simp [putR, findP_nil]
  | cons x l ih =>
    intro s p h
    obtain ⟨h1, h2⟩ := ih s _ h.2
    have hn := asc_all l _ h.2
    unfold putR
    rw [findP_cons]
    split
    · rename_i hx
      rw [if_neg (by omega)]
      simp only [List.length_cons]
      exact ⟨by omega, fun h => by rw [h2 h]⟩
    · split
      · simp
      · rename_i a b
        rw [findP_no (fun y hy => by have := hn y hy; omega)]
        simp
end Go.Proofs.Ytjccjlflnlddpaa
