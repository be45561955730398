/- The stock: the plain law, what the statements ask. -/
import Derived.Test.YtfeeohbapnolcaaAmStockB
namespace Go.Proofs.Ytfeeohbapnolcaa
set_option linter.unusedVariables false
set_option linter.unusedSimpArgs false
open StockP
theorem insP_put {l : List It} (h : ok l = true) (x : It) (hx : ∀ y, y ∈ l → y.id ≠ x.id) : insP l x = put l x := by
  rw [put_insert (ok_from h) x hx]
  unfold insP
  by_cases h2 : idx (fun y => decide (x.id < y.id)) l < 0
  · have h3 := idx_neg.1 h2
    have h4 := place_le (fun y => decide (x.id < y.id)) l
    rw [if_pos h2, show place (fun y => decide (x.id < y.id)) l = l.length by omega]; simp
  · rw [if_neg h2, (idx_pos h2).2, Int.toNat_natCast]; simp
theorem find_none_ids {l : List It} {id : Int} (h : (findT l id).2 = false) : ∀ y, y ∈ l → y.id ≠ id := by
  intro y hy e
  rw [findT_place] at h
  split at h
  · cases h
  · rename_i hp
    obtain ⟨j, hj, rfl⟩ := List.mem_iff_getElem.1 hy
    have : place (fun x => x.id == id) l < l.length := by
      clear h hy
      induction l generalizing j with
      | nil => simp at hj
      | cons x l ih =>
        rw [place_cons] at hp ⊢
        by_cases e2 : (x.id == id) = true
        · rw [if_pos e2]; simp
        · rw [if_neg e2] at hp ⊢
          cases j with
          | zero => simp at e; exact absurd (by simpa using e) e2
          | succ j =>
            have := ih (by simpa using hp) j (by simpa using hj) (by simpa using e)
            simp; omega
    exact hp this
theorem found_idx {l : List It} {id : Int} : (findT l id).2 = true ↔ ¬ idx (fun x => x.id == id) l < 0 := by
  constructor
  · intro h h2; rw [find_no h2] at h; cases h
  · intro h; rw [find_yes h]
theorem found_id {l : List It} {id : Int} (h : (findT l id).2 = true) : (findT l id).1.id = id := by
  rw [findT_place] at h ⊢
  split at h
  · rename_i hp
    have := place_at (fun x => x.id == id) l hp
    rw [dif_pos hp]; simpa using this
  · cases h
theorem found_may {l : List It} {id q : Int} (ha : askedB l q = true) (h : (findT l id).2 = true) : may (findT l id).1 = true := by
  rw [findT_place] at h ⊢
  split at h
  · rename_i hp
    rw [dif_pos hp]; exact ok_may (askedB_ok ha).1 _ (List.getElem_mem hp)
  · cases h
theorem with_put {g : It → It × Int} {l : List It} {id q : Int} (ha : askedB l q = true) (hf : (findT l id).2 = true) (hid : (g (findT l id).1).1.id = id) (h0 : (g (findT l id).1).2 = 0) : withP g l id q = (put l (g (findT l id).1).1, 0) := by
  unfold withP
  rw [findT_place] at hf hid h0 ⊢
  split at hf
  · rename_i hp
    rw [dif_pos hp] at hid h0 ⊢
    rw [if_pos ha, dif_pos hp, if_pos h0, put_set (ok_from (askedB_ok ha).1) _ (by rw [hid]; exact hp), hid]
  · cases hf
theorem with_err {g : It → It × Int} {l : List It} {id q : Int} (ha : askedB l q = true) (hf : (findT l id).2 = true) (h0 : ¬ (g (findT l id).1).2 = 0) : withP g l id q = ([], (g (findT l id).1).2) := by
  unfold withP
  rw [findT_place] at hf h0 ⊢
  split at hf
  · rename_i hp
    rw [dif_pos hp] at h0 ⊢
    rw [if_pos ha, dif_pos hp, if_neg h0]
  · cases hf
theorem with_none {g : It → It × Int} {l : List It} {id q : Int} (ha : askedB l q = true) (hf : (findT l id).2 = false) : withP g l id q = ([], 40) := by
  refine with_no ha ?_
  by_cases h : idx (fun x => x.id == id) l < 0
  · exact h
  · rw [found_idx.2 h] at hf; cases hf
theorem with_arg {g : It → It × Int} {l : List It} {id q : Int} (ha : askedB l q = false) : withP g l id q = ([], 2) := by
  unfold withP; rw [if_neg (by simp [ha])]
theorem itemP_cases (l : List It) (id q : Int) : (askedB l q = false ∧ itemP l id q = (default, 2)) ∨ (askedB l q = true ∧ (findT l id).2 = false ∧ itemP l id q = (default, 40)) ∨ (askedB l q = true ∧ (findT l id).2 = true ∧ itemP l id q = ((findT l id).1, 0)) := by
  unfold itemP
  cases ha : askedB l q with
  | false => left; simp; rfl
  | true =>
    right
    cases hf : (findT l id).2 with
    | false =>
      left
      refine ⟨rfl, rfl, ?_⟩
      have h2 : (findT l id).1 = default := by
        by_cases h : idx (fun x => x.id == id) l < 0
        · rw [find_no h]
        · rw [found_idx.2 h] at hf; cases hf
      simp [h2]
    | true => right; simp
theorem set_ok {id : Int} {x : It} (hm : may x = true) (hid : x.id = id) : ∀ (l : List It) (p : Int), okFrom p l = true → okFrom p (l.set (place (fun y => y.id == id) l) x) = true := by
  intro l
  induction l with
  | nil => intro p h; exact h
  | cons y l ih =>
    intro p h
    simp only [okFrom, Bool.and_eq_true, decide_eq_true_eq] at h
    rw [place_cons]
    by_cases e : (y.id == id) = true
    · rw [if_pos e]
      have e2 : y.id = id := by simpa using e
      rw [List.set_cons_zero, okFrom, hm, hid, ← e2, h.2]
      simp [h.1.2]
    · rw [if_neg e, List.set_cons_succ, okFrom, h.1.1, ih _ h.2]
      simp [h.1.2]
theorem set_find {id b : Int} {x : It} (hid : x.id = id) (hb : b ≠ id) : ∀ (l : List It), find (l.set (place (fun y => y.id == id) l) x) b = find l b := by
  intro l
  unfold find
  induction l with
  | nil => rfl
  | cons y l ih =>
    rw [place_cons]
    by_cases e : (y.id == id) = true
    · rw [if_pos e]
      have e2 : y.id = id := by simpa using e
      rw [List.set_cons_zero, List.find?_cons, List.find?_cons]
      have n1 : (x.id == b) = false := by simp; omega
      have n2 : (y.id == b) = false := by simp; omega
      rw [n1, n2]
    · rw [if_neg e, List.set_cons_succ, List.find?_cons, List.find?_cons, ih]
theorem findT_of {l m : List It} {b : Int} (h : find l b = find m b) : findT l b = findT m b := by unfold findT; rw [h]
theorem with_keeps {g : It → It × Int} {l : List It} {id q : Int} (h : (withP g l id q).2 = 0) (hg : ∀ x, may x = true → 1 ≤ q → q ≤ 1000000 → (g x).2 = 0 → may (g x).1 = true ∧ (g x).1.id = x.id) :
    askedB l q = true ∧ (findT l id).2 = true ∧ (g (findT l id).1).2 = 0 ∧ (withP g l id q).1 = put l (g (findT l id).1).1 ∧ askedB (withP g l id q).1 q = true ∧ ∀ b, b ≠ id → findT (withP g l id q).1 b = findT l b := by
  cases ha : askedB l q with
  | false => rw [with_arg ha] at h; cases h
  | true =>
    cases hf : (findT l id).2 with
    | false => rw [with_none ha hf] at h; cases h
    | true =>
      by_cases h0 : (g (findT l id).1).2 = 0
      · have hm := hg _ (found_may ha hf) (askedB_ok ha).2.1 (askedB_ok ha).2.2 h0
        have hid : (g (findT l id).1).1.id = id := by rw [hm.2]; exact found_id hf
        have hok := (askedB_ok ha).1
        have hp : place (fun y => y.id == id) l < l.length := (idx_pos (found_idx.1 hf)).1
        have hs := put_set (ok_from hok) (g (findT l id).1).1 (by rw [hid]; exact hp)
        rw [hid] at hs
        rw [with_put ha hf hid h0]
        refine ⟨rfl, rfl, h0, rfl, ?_, fun b hb => ?_⟩
        · rw [hs]
          have h1 := set_ok (id := id) hm.1 hid l 0 (ok_from hok)
          have h2 := ok_len hok
          have h3 := askedB_ok ha
          unfold askedB ok
          rw [h1, List.length_set]
          simp [h2, h3.2.1, h3.2.2]
        · rw [hs]
          exact findT_of (set_find hid hb l)
      · rw [with_err ha hf h0] at h; exact absurd h h0
theorem outG_ok (q : Int) (x : It) (hm : may x = true) (h1 : 1 ≤ q) (_h2 : q ≤ 1000000) (h0 : (outG q x).2 = 0) : may (outG q x).1 = true ∧ (outG q x).1.id = x.id := by
  have := may_iff.1 hm
  unfold outG lentE at *
  simp only at h0 ⊢
  split at h0
  · cases h0
  · exact ⟨may_iff.2 (by simp only; omega), by trivial⟩
theorem item_ok {l : List It} {id q : Int} (h : (itemP l id q).2 = 0) : askedB l q = true ∧ (findT l id).2 = true ∧ (itemP l id q).1 = (findT l id).1 := by
  rcases itemP_cases l id q with ⟨_, hi⟩ | ⟨_, _, hi⟩ | ⟨ha, hf, hi⟩
  · rw [hi] at h; cases h
  · rw [hi] at h; cases h
  · rw [hi]; exact ⟨ha, hf, rfl⟩
theorem item_bd {l : List It} {id q : Int} (h : (itemP l id q).2 = 0) : (1 ≤ q ∧ q ≤ 1000000) ∧ l.length ≤ 20 ∧ 0 ≤ (itemP l id q).1.free ∧ 0 ≤ (itemP l id q).1.held ∧ 0 ≤ (itemP l id q).1.gone ∧ (itemP l id q).1.free + (itemP l id q).1.held + (itemP l id q).1.gone ≤ 1000000 := by
  obtain ⟨ha, hf, hi⟩ := item_ok h
  have hm := may_iff.1 (found_may ha hf)
  rw [hi]
  exact ⟨(askedB_ok ha).2, ok_len (askedB_ok ha).1, by omega, by omega, by omega, by omega⟩
theorem item_bad {l : List It} {id q : Int} (h : ¬ (itemP l id q).2 = 0) (g : It → It × Int) : withP g l id q = ([], (itemP l id q).2) := by
  rcases itemP_cases l id q with ⟨ha, hi⟩ | ⟨ha, hf, hi⟩ | ⟨ha, hf, hi⟩
  · rw [hi, with_arg ha]
  · rw [hi, with_none ha hf]
  · rw [hi] at h; exact absurd rfl h
def goesM (l : List It) (id q how : Int) : List It × Int := if how = 1 then withP (holdG q) l id q else if how = 2 then withP (freeG q) l id q else withP (shipG q) l id q
theorem goes_none {l : List It} {id q how : Int} (h : ¬ (itemP l id q).2 = 0) : goesM l id q how = ([], (itemP l id q).2) := by
  unfold goesM; rw [item_bad h, item_bad h, item_bad h]; split <;> (try split) <;> rfl
theorem goes_bad {l : List It} {id q how : Int} (h : (itemP l id q).2 = 0) (h2 : (how = 1 ∧ (itemP l id q).1.free < q) ∨ (how ≠ 1 ∧ (itemP l id q).1.held < q)) : goesM l id q how = ([], 42) := by
  obtain ⟨ha, hf, hi⟩ := item_ok h
  rw [hi] at h2
  unfold goesM
  rcases h2 with ⟨rfl, h2⟩ | ⟨h1, h2⟩
  · rw [if_pos rfl]
    have e : (holdG q (findT l id).1).2 = 42 := by unfold holdG lentE; simp only; rw [if_pos (by omega)]
    rw [with_err ha hf (by rw [e]; decide), e]
  · rw [if_neg h1]
    have e : (freeG q (findT l id).1).2 = 42 := by unfold freeG lentE; simp only; rw [if_pos (by omega)]
    have e2 : (shipG q (findT l id).1).2 = 42 := by unfold shipG lentE; simp only; rw [if_pos (by omega)]
    rw [with_err ha hf (by rw [e]; decide), e, with_err ha hf (by rw [e2]; decide), e2]
    split <;> rfl
theorem goes_1 {l : List It} {id q how : Int} (h : (itemP l id q).2 = 0) (h1 : how = 1) (h2 : q ≤ (itemP l id q).1.free) : goesM l id q how = (put l ⟨(itemP l id q).1.id, (itemP l id q).1.free - q, (itemP l id q).1.held + q, (itemP l id q).1.gone⟩, 0) := by
  have hb := item_bd h
  obtain ⟨ha, hf, hi⟩ := item_ok h
  rw [hi] at h2 hb ⊢
  unfold goesM
  rw [if_pos h1, with_put ha hf (found_id hf) (by unfold holdG lentE; simp only; rw [if_neg (by omega)])]
  rfl
theorem goes_2 {l : List It} {id q how : Int} (h : (itemP l id q).2 = 0) (h1 : how = 2) (h2 : q ≤ (itemP l id q).1.held) : goesM l id q how = (put l ⟨(itemP l id q).1.id, (itemP l id q).1.free + q, (itemP l id q).1.held - q, (itemP l id q).1.gone⟩, 0) := by
  have hb := item_bd h
  obtain ⟨ha, hf, hi⟩ := item_ok h
  rw [hi] at h2 hb ⊢
  unfold goesM
  rw [if_neg (by omega), if_pos h1, with_put ha hf (found_id hf) (by unfold freeG lentE; simp only; rw [if_neg (by omega)])]
  rfl
theorem goes_3 {l : List It} {id q how : Int} (h : (itemP l id q).2 = 0) (h1 : how ≠ 1) (h3 : how ≠ 2) (h2 : q ≤ (itemP l id q).1.held) : goesM l id q how = (put l ⟨(itemP l id q).1.id, (itemP l id q).1.free, (itemP l id q).1.held - q, (itemP l id q).1.gone + q⟩, 0) := by
  have hb := item_bd h
  obtain ⟨ha, hf, hi⟩ := item_ok h
  rw [hi] at h2 hb ⊢
  unfold goesM
  rw [if_neg h1, if_neg h3, with_put ha hf (found_id hf) (by unfold shipG lentE; simp only; rw [if_neg (by omega)])]
  rfl
theorem restock_bad {l : List It} {id q : Int} (h : (itemP l id q).2 = 0) (h2 : 1000000 - (itemP l id q).1.free - (itemP l id q).1.held - (itemP l id q).1.gone < q) : withP (inG q) l id q = ([], 43) := by
  obtain ⟨ha, hf, hi⟩ := item_ok h
  rw [hi] at h2
  have e : (inG q (findT l id).1).2 = 43 := by
    unfold inG
    rw [if_neg]
    intro e2
    have := may_iff.1 e2
    simp only at this
    omega
  rw [with_err ha hf (by rw [e]; decide), e]
theorem restock_good {l : List It} {id q : Int} (h : (itemP l id q).2 = 0) (h2 : q ≤ 1000000 - (itemP l id q).1.free - (itemP l id q).1.held - (itemP l id q).1.gone) : withP (inG q) l id q = (put l ⟨(itemP l id q).1.id, (itemP l id q).1.free + q, (itemP l id q).1.held, (itemP l id q).1.gone⟩, 0) := by
  obtain ⟨ha, hf, hi⟩ := item_ok h
  have hm := may_iff.1 (found_may ha hf)
  have hq := (askedB_ok ha).2
  rw [hi] at h2 ⊢
  have e : inG q (findT l id).1 = (⟨(findT l id).1.id, (findT l id).1.free + q, (findT l id).1.held, (findT l id).1.gone⟩, 0) := by
    unfold inG
    rw [if_pos]
    exact may_iff.2 (by simp only; omega)
  rw [with_put ha hf (by rw [e]; exact found_id hf) (by rw [e]), e]
theorem asked_iff (l : List It) (q : Int) : askedB l q = true ↔ okE l = 0 ∧ 1 ≤ q ∧ q ≤ 1000000 := by
  unfold askedB; rw [okE_ok]; simp
theorem find_no2 {l : List It} {id : Int} (h : (findT l id).2 = false) : findT l id = (default, false) := by
  by_cases h2 : idx (fun x => x.id == id) l < 0
  · exact find_no h2
  · rw [found_idx.2 h2] at h; cases h
theorem map_snoc {α β : Type} (f : α → β) (l : List α) (x : α) : l.map f ++ [f x] = (l ++ [x]).map f := by simp
theorem take_snoc2 {l : List It} {k : Nat} (hk : k < l.length) : l.take k ++ [l.getD k default] = l.take (k + 1) := by
  rw [List.take_succ_eq_append_getElem hk, It_idx hk]
theorem take_snoc {l : List It} {k : Nat} (hk : k < l.length) : (l.take k).map aIt ++ [aIt (l.getD k default)] = (l.take (k + 1)).map aIt := by
  rw [List.take_succ_eq_append_getElem hk, It_idx hk, List.map_append]; rfl
theorem flt_yes {q : It → Bool} {l : List It} {k : Nat} (hk : k < l.length) (h : q (l.getD k default) = true) : (l.take k).filter q ++ [l.getD k default] = (l.take (k + 1)).filter q := by
  rw [List.take_succ_eq_append_getElem hk, List.filter_append, ← It_idx hk]; congr 1; simp only [List.filter, h]
theorem flt_no {q : It → Bool} {l : List It} {k : Nat} (hk : k < l.length) (h : q (l.getD k default) = false) : (l.take k).filter q = (l.take (k + 1)).filter q := by
  rw [List.take_succ_eq_append_getElem hk, List.filter_append, ← It_idx hk]; simp only [List.filter, h, List.append_nil]
theorem tw_is {l : List It} {k : Nat} {i : Int} (hk : k ≤ l.length) (h : ∀ j, j < k → (l.getD j default).id < i) (h2 : k < l.length → i ≤ (l.getD k default).id) : l.takeWhile (fun y => decide (y.id < i)) = l.take k := by
  refine takeWhile_take _ l k (fun j hj hjk => ?_) hk (fun hh => ?_)
  · have := h j hjk; rw [It_idx hj] at this; simpa using this
  · have := h2 hh; rw [It_idx hh] at this; simpa using this
/-- moving, the document's way -/
theorem move_put {l : List It} {a b q : Int} (ha : askedB l q = true) (hab : a ≠ b) (h1 : (findT l a).2 = true) (h2 : (findT l b).2 = true) :
    ((findT l a).1.free < q → moveP l a b q = ([], 42)) ∧ (q ≤ (findT l a).1.free → 1000000 - (findT l b).1.free - (findT l b).1.held - (findT l b).1.gone < q → moveP l a b q = ([], 43)) ∧
    (q ≤ (findT l a).1.free → q ≤ 1000000 - (findT l b).1.free - (findT l b).1.held - (findT l b).1.gone → moveP l a b q = (put (put l ⟨(findT l a).1.id, (findT l a).1.free - q, (findT l a).1.held, (findT l a).1.gone⟩) ⟨(findT l b).1.id, (findT l b).1.free + q, (findT l b).1.held, (findT l b).1.gone⟩, 0)) := by
  have hm1 := may_iff.1 (found_may ha h1)
  have hm2 := may_iff.1 (found_may ha h2)
  have hq := (askedB_ok ha).2
  have i1 := found_idx.1 h1
  have i2 := found_idx.1 h2
  unfold moveP
  rw [if_pos ⟨ha, hab⟩, if_neg (by omega)]
  have go : q ≤ (findT l a).1.free → (withP (outG q) l a q).2 = 0 := fun h => by
    rw [with_put ha h1 (found_id h1) (by unfold outG lentE; simp only; rw [if_neg (by omega)])]
  refine ⟨fun h => ?_, fun h h3 => ?_, fun h h3 => ?_⟩
  · have e : (outG q (findT l a).1).2 = 42 := by unfold outG lentE; simp only; rw [if_pos (by omega)]
    rw [with_err ha h1 (by rw [e]; decide), e]; simp
  all_goals
    have hk := with_keeps (go h) (fun x a b c d => outG_ok q x a b c d)
    rw [if_pos (go h)]
    obtain ⟨_, _, _, k4, k5, k6⟩ := hk
    have k7 := k6 b (Ne.symm hab)
  · have e : (inG q (findT l b).1).2 = 43 := by
      unfold inG
      rw [if_neg]
      intro e2
      have := may_iff.1 e2
      simp only at this
      omega
    rw [with_err k5 (by rw [k7]; exact h2) (by rw [k7, e]; decide), k7, e]
  · have e : inG q (findT l b).1 = (⟨(findT l b).1.id, (findT l b).1.free + q, (findT l b).1.held, (findT l b).1.gone⟩, 0) := by
      unfold inG
      rw [if_pos]
      exact may_iff.2 (by simp only; omega)
    rw [with_put k5 (by rw [k7]; exact h2) (by rw [k7, e]; exact found_id h2) (by rw [k7, e]), k7, e, k4]
    rfl
theorem move_item {l : List It} {a b q : Int} (h1 : (itemP l a q).2 = 0) (h2 : (itemP l b q).2 = 0) (hab : a ≠ b) :
    ((itemP l a q).1.free < q → moveP l a b q = ([], 42)) ∧ (q ≤ (itemP l a q).1.free → 1000000 - (itemP l b q).1.free - (itemP l b q).1.held - (itemP l b q).1.gone < q → moveP l a b q = ([], 43)) ∧
    (q ≤ (itemP l a q).1.free → q ≤ 1000000 - (itemP l b q).1.free - (itemP l b q).1.held - (itemP l b q).1.gone → moveP l a b q = (put (put l ⟨(itemP l a q).1.id, (itemP l a q).1.free - q, (itemP l a q).1.held, (itemP l a q).1.gone⟩) ⟨(itemP l b q).1.id, (itemP l b q).1.free + q, (itemP l b q).1.held, (itemP l b q).1.gone⟩, 0)) := by
  obtain ⟨ha, f1, e1⟩ := item_ok h1
  obtain ⟨_, f2, e2⟩ := item_ok h2
  rw [e1, e2]
  exact move_put ha hab f1 f2
theorem move_arg {l : List It} {a b q : Int} (h : (itemP l a q).2 = 2 ∨ a = b) : moveP l a b q = ([], 2) := by
  unfold moveP
  rw [if_neg]
  rintro ⟨ha, hab⟩
  rcases h with h | h
  · rcases itemP_cases l a q with ⟨h2, _⟩ | ⟨_, _, h2⟩ | ⟨_, _, h2⟩
    · rw [ha] at h2; cases h2
    · rw [h2] at h; cases h
    · rw [h2] at h; cases h
  · exact hab h
theorem move_none {l : List It} {a b q : Int} (h0 : (itemP l a q).2 ≠ 2 ∧ a ≠ b) (h : ¬ (itemP l a q).2 = 0 ∨ ¬ (itemP l b q).2 = 0) : moveP l a b q = ([], 40) := by
  have ha : askedB l q = true := by
    rcases itemP_cases l a q with ⟨h2, e⟩ | ⟨h2, _⟩ | ⟨h2, _⟩
    · rw [e] at h0; exact absurd rfl h0.1
    · exact h2
    · exact h2
  have key : ∀ c, ¬ (itemP l c q).2 = 0 → idx (fun x => x.id == c) l < 0 := by
    intro c hc
    rcases itemP_cases l c q with ⟨h2, _⟩ | ⟨_, hf, _⟩ | ⟨_, _, e⟩
    · rw [ha] at h2; cases h2
    · by_cases h3 : idx (fun x => x.id == c) l < 0
      · exact h3
      · rw [found_idx.2 h3] at hf; cases hf
    · rw [e] at hc; exact absurd rfl hc
  unfold moveP
  rw [if_pos ⟨ha, h0.2⟩, if_pos (h.imp (key a) (key b))]
theorem put_len (l : List It) (x : It) : (put l x).length ≤ 2 * l.length + 1 := by
  unfold put
  have h1 := (List.takeWhile_sublist (l := l) (fun y : It => decide (y.id < x.id))).length_le
  have h2 := List.length_filter_le (fun y : It => decide (x.id < y.id)) l
  simp only [List.length_append, List.length_cons]; omega
theorem create_ok {l : List It} {id q : Int} (h : okE l = 0) (h1 : 1 ≤ id ∧ id ≤ 99999) (h2 : 0 ≤ q ∧ q ≤ 1000000) : createP l id q = if (findT l id).2 = true then ([], 41) else if 20 ≤ l.length then ([], 8) else (put l ⟨id, q, 0, 0⟩, 0) := by
  unfold createP
  rw [if_pos ⟨h, may_iff.2 (by simp only; omega)⟩]
  cases hf : (findT l id).2 with
  | true => rw [if_pos (by have := found_idx.1 hf; omega)]; rfl
  | false =>
    rw [if_neg (fun h3 => by rw [found_idx.2 (by omega)] at hf; cases hf), insP_put (okE_ok.1 h) _ (find_none_ids hf)]; rfl
theorem create_arg {l : List It} {id q : Int} (h : okE l ≠ 0 ∨ ¬ (1 ≤ id ∧ id ≤ 99999 ∧ 0 ≤ q ∧ q ≤ 1000000)) : createP l id q = ([], 2) := by
  unfold createP
  rw [if_neg]
  rintro ⟨h1, h2⟩
  have := may_iff.1 h2
  simp only at this
  omega
theorem create_len (l : List It) (id q : Int) : (createP l id q).1.length ≤ l.length + 1 := by
  unfold createP
  split
  · split
    · simp
    · split
      · simp
      · unfold insP; split <;> simp <;> omega
  · simp
theorem move_len (l : List It) (a b q : Int) : (moveP l a b q).1.length ≤ l.length := by
  unfold moveP
  split
  · split
    · simp
    · split
      · exact Nat.le_trans (with_len _ _ _ _) (with_len _ _ _ _)
      · simp
  · simp
theorem flat_ok (l : List It) : ((l.map aIt).all fun y => Nat.beq y.cells.length 4 && y.cells.all AV.one) = true := by simp [aIt, AV.cells, AV.one]
/-! ### what is held, and freed again -/
theorem place_set {id : Int} {x : It} (hid : x.id = id) : ∀ (l : List It), place (fun y => y.id == id) (l.set (place (fun y => y.id == id) l) x) = place (fun y => y.id == id) l := by
  intro l
  induction l with
  | nil => rfl
  | cons y l ih =>
    rw [place_cons]
    by_cases e : (y.id == id) = true
    · rw [if_pos e, List.set_cons_zero, place_cons, if_pos (by simpa using hid)]
    · rw [if_neg e, List.set_cons_succ, place_cons, if_neg e, ih]
theorem hold_bad {l : List It} {id q : Int} (h : ¬ (withP (holdG q) l id q).2 = 0) : okE l ≠ 0 ∨ q < 1 ∨ 1000000 < q ∨ (findT l id).2 = false ∨ (findT l id).1.free < q := by
  cases ha : askedB l q with
  | false =>
    have h2 : ¬ (okE l = 0 ∧ 1 ≤ q ∧ q ≤ 1000000) := fun e => by rw [(asked_iff l q).2 e] at ha; cases ha
    omega
  | true =>
    cases hf : (findT l id).2 with
    | false => right; right; right; left; rfl
    | true =>
      right; right; right; right
      have hm := may_iff.1 (found_may ha hf)
      have hq := (askedB_ok ha).2
      refine Int.not_le.1 fun h3 => h ?_
      rw [with_put ha hf (found_id hf) (by unfold holdG lentE; simp only; rw [if_neg (by omega)])]
theorem free_hold (x : It) (q : Int) (h1 : 0 ≤ x.free) (h2 : 0 ≤ x.held) : freeG q (holdG q x).1 = (x, 0) := by
  obtain ⟨a, b, c, d⟩ := x
  simp only at h1 h2
  simp only [freeG, holdG, lentE, Prod.mk.injEq, It.mk.injEq]
  exact ⟨⟨by trivial, by omega, by omega, by trivial⟩, if_neg (by omega)⟩
theorem hold_good {l : List It} {id q : Int} (h : (withP (holdG q) l id q).2 = 0) : withP (freeG q) (withP (holdG q) l id q).1 id q = (l, 0) ∧ (findT (withP (holdG q) l id q).1 id).2 = true ∧ 0 ≤ (findT (withP (holdG q) l id q).1 id).1.free ∧ q ≤ (findT (withP (holdG q) l id q).1 id).1.held := by
  have hgk : ∀ x, may x = true → 1 ≤ q → q ≤ 1000000 → (holdG q x).2 = 0 → may (holdG q x).1 = true ∧ (holdG q x).1.id = x.id := by
    intro x hm h1 h2 h0
    have := may_iff.1 hm
    unfold holdG lentE at *
    simp only at h0 ⊢
    split at h0
    · cases h0
    · exact ⟨may_iff.2 (by simp only; omega), by trivial⟩
  obtain ⟨ha, hf, h0, _, ha2, _⟩ := with_keeps h hgk
  have hp := (idx_pos (found_idx.1 hf)).1
  have hm := may_iff.1 (found_may ha hf)
  have hq := (askedB_ok ha).2
  have hx : findT l id = (l[place (fun y => y.id == id) l], true) := by rw [findT_place, dif_pos hp]
  rw [hx] at h0 hm
  simp only at h0 hm
  have hid : (l[place (fun y => y.id == id) l]).id = id := by have := found_id hf; rw [hx] at this; exact this
  have hw : withP (holdG q) l id q = (l.set (place (fun y => y.id == id) l) (holdG q l[place (fun y => y.id == id) l]).1, 0) := by
    unfold withP; rw [if_pos ha, dif_pos hp, if_pos h0]
  rw [hw] at ha2 ⊢
  simp only at ha2 ⊢
  have hps := place_set (id := id) (x := (holdG q l[place (fun y => y.id == id) l]).1) hid l
  have hlt : place (fun y => y.id == id) (l.set (place (fun y => y.id == id) l) (holdG q l[place (fun y => y.id == id) l]).1) < (l.set (place (fun y => y.id == id) l) (holdG q l[place (fun y => y.id == id) l]).1).length := by rw [hps, List.length_set]; exact hp
  have hget : (l.set (place (fun y => y.id == id) l) (holdG q l[place (fun y => y.id == id) l]).1)[place (fun y => y.id == id) (l.set (place (fun y => y.id == id) l) (holdG q l[place (fun y => y.id == id) l]).1)] = (holdG q l[place (fun y => y.id == id) l]).1 := by
    simp only [hps, List.getElem_set_self]
  have hfr : 0 ≤ (holdG q l[place (fun y => y.id == id) l]).1.free ∧ q ≤ (holdG q l[place (fun y => y.id == id) l]).1.held := by
    unfold holdG lentE at *
    simp only at h0 ⊢
    split at h0
    · cases h0
    · omega
  have hback : freeG q (holdG q l[place (fun y => y.id == id) l]).1 = (l[place (fun y => y.id == id) l], 0) := by
    exact free_hold _ q (by omega) (by omega)
  refine ⟨?_, ?_⟩
  · unfold withP
    rw [if_pos ha2, dif_pos hlt, hget, hback, if_pos rfl, hps, List.set_set, List.set_getElem_self]
  · rw [findT_place, dif_pos hlt, hget]
    exact ⟨rfl, hfr⟩
end Go.Proofs.Ytfeeohbapnolcaa
