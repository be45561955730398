/- The stock: the reference's plain law. -/
import Derived.Test.YtfeeohbapnolcaaStockPlain
namespace Go.Proofs.Ytfeeohbapnolcaa.StockP
set_option linter.unusedVariables false
set_option linter.unusedSimpArgs false
def lentE (b c : Int) : Int := if b < 0 ∨ c < 0 then 42 else 0
def holdG (n : Int) (x : It) : It × Int := (⟨x.id, x.free - n, x.held + n, x.gone⟩, lentE (x.free - n) (x.held + n))
def freeG (n : Int) (x : It) : It × Int := (⟨x.id, x.free + n, x.held - n, x.gone⟩, lentE (x.free + n) (x.held - n))
def shipG (n : Int) (x : It) : It × Int := (⟨x.id, x.free, x.held - n, x.gone + n⟩, lentE x.free (x.held - n))
def outG (n : Int) (x : It) : It × Int := (⟨x.id, x.free - n, x.held, x.gone⟩, lentE (x.free - n) x.held)
def inG (n : Int) (x : It) : It × Int := if may ⟨x.id, x.free + n, x.held, x.gone⟩ = true then (⟨x.id, x.free + n, x.held, x.gone⟩, 0) else (⟨0, 0, 0, 0⟩, 43)
theorem may_bd {x : It} (h : may x = true) : 1 ≤ x.id ∧ x.id ≤ 99999 ∧ 0 ≤ x.free ∧ x.free ≤ 1000000 ∧ 0 ≤ x.held ∧ x.held ≤ 1000000 ∧ 0 ≤ x.gone ∧ x.gone ≤ 1000000 := by
  unfold may at h; simp at h; omega
theorem askedB_ok {l : List It} {q : Int} (h : askedB l q = true) : ok l = true ∧ 1 ≤ q ∧ q ≤ 1000000 := by
  unfold askedB at h; simp at h; exact h
theorem ok_may {l : List It} (h : ok l = true) : ∀ x, x ∈ l → may x = true := by
  unfold ok at h; simp at h; exact okFrom_may h.2
theorem ok_len {l : List It} (h : ok l = true) : l.length ≤ 20 := by unfold ok at h; simp at h; exact h.1
theorem ok_from {l : List It} (h : ok l = true) : okFrom 0 l = true := by unfold ok at h; simp at h; exact h.2
/-- the item that is asked for -/
def itemP (l : List It) (id q : Int) : It × Int := if askedB l q = true then ((findT l id).1, if (findT l id).2 = true then 0 else 40) else (⟨0, 0, 0, 0⟩, 2)
theorem findT_place (l : List It) (id : Int) : findT l id = if h : place (fun x => x.id == id) l < l.length then (l[place (fun x => x.id == id) l], true) else (⟨0, 0, 0, 0⟩, false) := by
  unfold findT; rw [find_place]
  by_cases h : place (fun x => x.id == id) l < l.length
  · rw [dif_pos h, dif_pos h]
  · rw [dif_neg h, dif_neg h]
/-- what is done with the item, the document's way: bad tells when there are too few, go what it becomes -/
def goesP' (bad : It → Prop) [DecidablePred bad] (go : It → It) (l : List It) (id q : Int) : List It × Int :=
  if (itemP l id q).2 ≠ 0 then ([], (itemP l id q).2) else if bad (itemP l id q).1 then ([], 42) else (put l (go (itemP l id q).1), 0)
theorem goesP'_with (bad : It → Prop) [DecidablePred bad] (go : It → It) (g : It → It × Int) (l : List It) (id q : Int) (hid : ∀ x, (go x).id = x.id)
    (hg : ∀ x, may x = true → 1 ≤ q → q ≤ 1000000 → (bad x → (g x).2 = 42) ∧ (¬ bad x → g x = (go x, 0))) : goesP' bad go l id q = withP g l id q := by
  unfold goesP' withP itemP
  by_cases ha : askedB l q = true
  · rw [if_pos ha, if_pos ha, findT_place]
    by_cases hp : place (fun x => x.id == id) l < l.length
    · rw [dif_pos hp, dif_pos hp]
      have hm := ok_may (askedB_ok ha).1 _ (List.getElem_mem hp)
      have h2 := hg _ hm (askedB_ok ha).2.1 (askedB_ok ha).2.2
      have hi : (l[place (fun x => x.id == id) l]).id = id := by have := place_at (fun x => x.id == id) l hp; simpa using this
      simp only [if_true, ne_eq, not_true_eq_false, if_false]
      by_cases hb : bad l[place (fun x => x.id == id) l]
      · rw [if_pos hb, if_neg (by rw [h2.1 hb]; decide), h2.1 hb]
      · rw [if_neg hb, h2.2 hb, if_pos rfl]
        have hgi : (go l[place (fun x => x.id == id) l]).id = id := by rw [hid]; exact hi
        rw [put_set (ok_from (askedB_ok ha).1) _ (by rw [hgi]; exact hp), hgi]
    · rw [dif_neg hp, dif_neg hp]; rfl
  · rw [if_neg ha, if_neg ha]; rfl
theorem goes_hold (l : List It) (id q : Int) : goesP' (fun x => x.free < q) (fun x => ⟨x.id, x.free - q, x.held + q, x.gone⟩) l id q = withP (holdG q) l id q := by
  refine goesP'_with _ _ _ l id q (fun _ => rfl) fun x hm h1 h2 => ?_
  have := may_bd hm
  unfold holdG lentE
  refine ⟨fun h => ?_, fun h => ?_⟩
  · simp only; rw [if_pos (by omega)]
  · rw [if_neg (by omega)]
theorem goes_free (l : List It) (id q : Int) : goesP' (fun x => x.held < q) (fun x => ⟨x.id, x.free + q, x.held - q, x.gone⟩) l id q = withP (freeG q) l id q := by
  refine goesP'_with _ _ _ l id q (fun _ => rfl) fun x hm h1 h2 => ?_
  have := may_bd hm
  unfold freeG lentE
  refine ⟨fun h => ?_, fun h => ?_⟩
  · simp only; rw [if_pos (by omega)]
  · rw [if_neg (by omega)]
theorem goes_ship (l : List It) (id q : Int) : goesP' (fun x => x.held < q) (fun x => ⟨x.id, x.free, x.held - q, x.gone + q⟩) l id q = withP (shipG q) l id q := by
  refine goesP'_with _ _ _ l id q (fun _ => rfl) fun x hm h1 h2 => ?_
  have := may_bd hm
  unfold shipG lentE
  refine ⟨fun h => ?_, fun h => ?_⟩
  · simp only; rw [if_pos (by omega)]
  · rw [if_neg (by omega)]
theorem takeWhile_take (p : It → Bool) (l : List It) (k : Nat) (h1 : ∀ j, (hj : j < l.length) → j < k → p l[j] = true) (hk : k ≤ l.length) (h2 : ∀ h : k < l.length, p l[k] = false) : l.takeWhile p = l.take k := by
  induction l generalizing k with
  | nil => simp
  | cons x l ih =>
    cases k with
    | zero =>
      have := h2 (by simp)
      rw [List.takeWhile_cons_of_neg (by simpa using this)]; rfl
    | succ k =>
      have h0 := h1 0 (by simp) (by omega)
      rw [List.takeWhile_cons_of_pos (by simpa using h0), List.take_succ_cons]
      rw [ih k (fun j hj hjk => by have := h1 (j + 1) (by simpa using hj) (by omega); simpa using this) (by simpa using hk) (fun h => by have := h2 (by simpa using h); simpa using this)]
theorem filter_take (p : It → Bool) (l : List It) (k : Nat) (hk : k < l.length) : (l.take (k + 1)).filter p = (l.take k).filter p ++ if p l[k] = true then [l[k]] else [] := by
  rw [List.take_succ_eq_append_getElem hk, List.filter_append]
  congr 1
  rw [List.filter_cons]
  split <;> rfl
end Go.Proofs.Ytfeeohbapnolcaa.StockP
