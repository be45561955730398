/- A book stays one. -/
import Derived.Test.YthogpkmidffdeaaDoorClientLaw
namespace Go.Proofs.YthogpkmidffdeaaDoor
set_option linter.unusedVariables false
set_option linter.unusedSimpArgs false
open NumP
set_option linter.unusedVariables false
set_option linter.unusedSimpArgs false
theorem okO_of {l : List Co} {i : Nat} (h1 : mayO (l.getD i default) = true) (h2 : 0 < i → (l.getD (i - 1) default).start < (l.getD i default).start) (h3 : ∀ k, k < i → apartP (l.getD k default) (l.getD i default) = true) : okO l i = true := by
  unfold okO
  rw [h1, List.all_eq_true.2 fun k hk => h3 k (List.mem_range.1 hk)]
  simp only [Bool.true_and, Bool.and_true, Bool.or_eq_true, decide_eq_true_eq]
  by_cases e : i = 0
  · exact .inl e
  · exact .inr (h2 (by omega))
theorem app_lt {l : List Co} {x : Co} {i : Nat} (h : i < l.length) : (l ++ [x]).getD i default = l.getD i default := by
  simp [List.getD, List.getElem?_append_left h]
theorem app_at (l : List Co) (x : Co) : (l ++ [x]).getD l.length default = x := by simp [List.getD]
theorem mem_getD {l : List Co} {i : Nat} (h : i < l.length) : l.getD i default ∈ l := by rw [Co_idx h]; exact List.getElem_mem h
theorem begin_keeps {l : List Co} {n : Int} {p : ByteArray} (h : beginE l n p = 0) : checkO (l ++ [newO n p]) = 0 := by
  obtain ⟨h1, h2, h3, h4, h5⟩ := beginE_zero h
  obtain ⟨hn, hlt⟩ := late_at h4
  refine check_good (by simp; omega) fun i hi => ?_
  simp at hi
  by_cases e : i < l.length
  · obtain ⟨q1, q2, q3⟩ := okO_parts (check_at h1 i e)
    refine okO_of (by rw [app_lt e]; exact q1) (fun h0 => by rw [app_lt e, app_lt (by omega)]; exact q2 h0) fun k hk => ?_
    rw [app_lt e, app_lt (by omega)]; exact q3 k hk
  · obtain rfl : i = l.length := by omega
    have hx := app_at l (newO n p)
    refine okO_of ?_ (fun h0 => ?_) fun k hk => ?_
    · rw [hx]
      exact may_of ⟨h2, rfl, rfl, hn, fun _ => rfl, fun e => absurd rfl e⟩
    · rw [hx, app_lt (by omega)]
      exact (hlt _ (mem_getD (by omega))).1
    · rw [hx, app_lt hk]
      have hm := mem_getD hk
      exact apart_mk fun hc => ⟨⟨(h3 _ hm hc).1, (hlt _ hm).2⟩, (h3 _ hm hc).2⟩
theorem endE_zero {l : List Co} {n c s : Int} (h : endE l n c s = 0) : checkO l = 0 ∧ l.any (isO c s) = true ∧ lateP l n = true := by
  unfold endE at h
  split at h
  · cases h
  · rename_i h0
    split at h
    · cases h
    · rename_i h1
      split at h
      · cases h
      · rename_i h2; exact ⟨by omega, by simpa using h1, by simpa using h2⟩
theorem endO_same (n c s : Int) (r : ByteArray) (o : Co) : (endO n c s r o).client = o.client ∧ (endO n c s r o).seq = o.seq ∧ (endO n c s r o).start = o.start ∧ (endO n c s r o).payload = o.payload := by
  unfold endO; split <;> exact ⟨rfl, rfl, rfl, rfl⟩
theorem map_getD {l : List Co} {i : Nat} (f : Co → Co) (h : i < l.length) : (l.map f).getD i default = f (l.getD i default) := by
  rw [Co_idx h, Co_idx (by simpa using h), List.getElem_map]
theorem end_keeps {l : List Co} {n c s : Int} (h : endE l n c s = 0) (r : ByteArray) : checkO (l.map (endO n c s r)) = 0 := by
  obtain ⟨h1, _, h4⟩ := endE_zero h
  obtain ⟨hn, hlt⟩ := late_at h4
  refine check_good (by rw [List.length_map]; exact check_len h1) fun i hi => ?_
  rw [List.length_map] at hi
  obtain ⟨q1, q2, q3⟩ := okO_parts (check_at h1 i hi)
  have hs := endO_same n c s r
  refine okO_of ?_ (fun h0 => ?_) fun k hk => ?_
  · rw [map_getD _ hi]
    unfold endO
    split
    · obtain ⟨m1, m2, m3, m4, m5, m6⟩ := may_parts q1
      exact may_of ⟨m1, m2, m3, m4, fun e => by have : n = 0 := e; omega, fun _ => ⟨(hlt _ (mem_getD hi)).1, hn.2⟩⟩
    · exact q1
  · rw [map_getD _ hi, map_getD _ (by omega), (hs _).2.2.1, (hs _).2.2.1]; exact q2 h0
  · rw [map_getD _ hi, map_getD _ (by omega)]
    refine apart_mk fun hc => ?_
    rw [(hs _).1, (hs _).1] at hc
    have ha := apart_same (q3 k hk) hc
    rw [(hs _).2.1, (hs _).2.1, (hs _).2.2.1]
    have hno : endO n c s r (l.getD k default) = l.getD k default := by
      unfold endO; rw [if_neg]; intro h9
      unfold isO at h9
      simp only [Bool.and_eq_true, decide_eq_true_eq] at h9
      exact ha.1.1 h9.1.1
    rw [hno]; exact ha
theorem open_sum {n : Int} (hn : n ≠ 0) (c s : Int) (r : ByteArray) (l : List Co) : (openP (l.map (endO n c s r))).length + (l.filter (isO c s)).length = (openP l).length := by
  induction l with
  | nil => rfl
  | cons x l ih =>
    unfold openP at ih ⊢
    rw [List.map_cons, List.filter_cons, List.filter_cons, List.filter_cons]
    by_cases h : isO c s x = true
    · have hx : x.end_ = 0 := by
        unfold isO at h
        simp only [Bool.and_eq_true, decide_eq_true_eq] at h
        exact h.1.1
      have e1 : (endO n c s r x).end_ = n := by unfold endO; rw [if_pos h]
      rw [if_pos h, if_neg (by rw [e1]; simpa using hn), if_pos (by simpa using hx)]
      simp only [List.length_cons]; omega
    · have e1 : endO n c s r x = x := by unfold endO; rw [if_neg h]
      rw [if_neg h, e1]
      by_cases hx : decide (x.end_ = 0) = true
      · rw [if_pos hx, if_pos hx]; simp only [List.length_cons]; omega
      · rw [if_neg hx, if_neg hx]; exact ih
theorem isO_one {l : List Co} (h : checkO l = 0) {c s : Int} (ha : l.any (isO c s) = true) : (l.filter (isO c s)).length = 1 := by
  have h1 : 0 < (l.filter (isO c s)).length := by
    obtain ⟨x, hx, hq⟩ := List.any_eq_true.1 ha
    exact List.length_pos_of_mem (List.mem_filter.2 ⟨hx, hq⟩)
  by_cases h2 : (l.filter (isO c s)).length ≤ 1
  · omega
  · exfalso
    have hp := List.pairwise_iff_getElem.1 ((pair_check h).filter (isO c s)) 0 1 (by omega) (by omega) (by omega)
    have hm : ∀ j (hj : j < (l.filter (isO c s)).length), (l.filter (isO c s))[j].end_ = 0 ∧ (l.filter (isO c s))[j].client = c := fun j hj => by
      have h1 := (List.mem_filter.1 (List.getElem_mem hj)).2
      unfold isO at h1
      simp only [Bool.and_eq_true, decide_eq_true_eq] at h1
      exact h1.1
    exact (apart_same hp (((hm 0 (by omega)).2).trans (hm 1 (by omega)).2.symm)).1.1 (hm 0 (by omega)).1
theorem open_less {l : List Co} {n c s : Int} (h : endE l n c s = 0) (r : ByteArray) : (openP (l.map (endO n c s r))).length + 1 = (openP l).length := by
  obtain ⟨h1, h2, h4⟩ := endE_zero h
  have := open_sum (n := n) (by have := (late_at h4).1; omega) c s r l
  rw [isO_one h1 h2] at this; exact this
/-- which of them changes -/
theorem end_at {l : List Co} {n c s : Int} (h : endE l n c s = 0) (r : ByteArray) : ∃ m, m < l.length ∧ ∀ k, k < l.length → (endO n c s r (l.getD k default) = l.getD k default ↔ k ≠ m) := by
  obtain ⟨h1, h2, h4⟩ := endE_zero h
  obtain ⟨x, hx, hq⟩ := List.any_eq_true.1 h2
  obtain ⟨m, hm, rfl⟩ := List.mem_iff_getElem.1 hx
  refine ⟨m, hm, fun k hk => ?_⟩
  have hn := (late_at h4).1
  constructor
  · intro he e
    subst e
    have e0 : (l.getD k default).end_ = 0 := by
      rw [Co_idx hm]
      unfold isO at hq
      simp only [Bool.and_eq_true, decide_eq_true_eq] at hq
      exact hq.1.1
    have e1 : (endO n c s r (l.getD k default)).end_ = n := by unfold endO; rw [if_pos (by rw [Co_idx hm]; exact hq)]
    rw [he, e0] at e1; omega
  · intro e
    unfold endO
    rw [if_neg]
    intro h9
    exact e (one_only h1 hk hm h9 (by rw [Co_idx hm]; exact hq))
end Go.Proofs.YthogpkmidffdeaaDoor
