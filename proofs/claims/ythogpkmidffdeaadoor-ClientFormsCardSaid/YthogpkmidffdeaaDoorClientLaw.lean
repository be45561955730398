/- What clients asked and were told: the laws, plainly. -/
import Derived.Test.YthogpkmidffdeaaDoorAmCiR
namespace Go.Proofs.YthogpkmidffdeaaDoor
set_option linter.unusedVariables false
set_option linter.unusedSimpArgs false
open NumP
set_option linter.unusedVariables false
set_option linter.unusedSimpArgs false
theorem start_mono {l : List Co} (h : checkO l = 0) {i : Nat} : ∀ j, i < j → j < l.length → (l.getD i default).start < (l.getD j default).start := by
  intro j
  induction j with
  | zero => intro h1; omega
  | succ j ih =>
    intro h1 h2
    have h3 := (okO_parts (check_at h (j + 1) h2)).2.1 (by omega)
    rw [Nat.add_sub_cancel] at h3
    by_cases e : i = j
    · subst e; exact h3
    · have := ih (by omega) (by omega); omega
theorem ahead_iff {a b : Co} : aheadP a b = true ↔ a.end_ ≠ 0 ∧ a.end_ < b.start := by
  unfold aheadP; simp
theorem ahead_lt {l : List Co} (h : checkO l = 0) {i j : Nat} (hi : i < l.length) (hj : j < l.length) (ha : aheadP (l.getD i default) (l.getD j default) = true) : i < j := by
  obtain ⟨a1, a2⟩ := ahead_iff.1 ha
  have hm := mayO_end (okO_parts (check_at h i hi)).1 a1
  rcases Nat.lt_trichotomy i j with h1 | h1 | h1
  · exact h1
  · subst h1; omega
  · have := start_mono h i h1 hi; omega
theorem ahead_trans {l : List Co} (h : checkO l = 0) {i j k : Nat} (hj : j < l.length) (ha : aheadP (l.getD i default) (l.getD j default) = true) (hb : aheadP (l.getD j default) (l.getD k default) = true) : aheadP (l.getD i default) (l.getD k default) = true := by
  obtain ⟨a1, a2⟩ := ahead_iff.1 ha
  obtain ⟨b1, b2⟩ := ahead_iff.1 hb
  have hm := mayO_end (okO_parts (check_at h j hj)).1 b1
  exact ahead_iff.2 ⟨a1, by omega⟩
theorem pair_check {l : List Co} (h : checkO l = 0) : l.Pairwise fun a b => apartP a b = true := by
  rw [List.pairwise_iff_getElem]
  intro i j hi hj hij
  have := (okO_parts (check_at h j hj)).2.2 i hij
  rwa [Co_idx hi, Co_idx hj] at this
theorem own_next {l : List Co} (h : checkO l = 0) (c : Int) {m : Nat} (h0 : 0 < m) (hm : m < (ofP l c).length) : aheadP ((ofP l c).getD (m - 1) default) ((ofP l c).getD m default) = true ∧ ((ofP l c).getD (m - 1) default).seq < ((ofP l c).getD m default).seq := by
  have hp := List.pairwise_iff_getElem.1 ((pair_check h).filter fun o => decide (o.client = c)) (m - 1) m (by show m - 1 < (ofP l c).length; omega) hm (by omega)
  have hc : ∀ j (hj : j < (ofP l c).length), (ofP l c)[j].client = c := fun j hj => by
    have := (List.mem_filter.1 (List.getElem_mem hj)).2
    simpa using this
  have := apart_same hp ((hc (m - 1) (by omega)).trans (hc m hm).symm)
  rw [Co_idx (show m - 1 < (ofP l c).length by omega), Co_idx hm]
  exact ⟨ahead_iff.2 this.1, this.2⟩
theorem open_one {l : List Co} (h : checkO l = 0) (c : Int) : (openP (ofP l c)).length ≤ 1 := by
  by_cases h2 : (openP (ofP l c)).length ≤ 1
  · exact h2
  · exfalso
    have hp := List.pairwise_iff_getElem.1 (((pair_check h).filter fun o => decide (o.client = c)).filter fun o => decide (o.end_ = 0)) 0 1 (by show 0 < (openP (ofP l c)).length; omega) (by show 1 < (openP (ofP l c)).length; omega) (by omega)
    have hm : ∀ j (hj : j < (openP (ofP l c)).length), (openP (ofP l c))[j].end_ = 0 ∧ (openP (ofP l c))[j].client = c := fun j hj => by
      have h1 := List.mem_filter.1 (List.getElem_mem hj)
      have h2 := List.mem_filter.1 h1.1
      exact ⟨by simpa using h1.2, by simpa using h2.2⟩
    have := apart_same hp (((hm 0 (by omega)).2).trans (hm 1 (by omega)).2.symm)
    exact this.1.1 (hm 0 (by omega)).1
/-! ### a book stays one -/
theorem beginE_zero {l : List Co} {n : Int} {p : ByteArray} (h : beginE l n p = 0) : checkO l = 0 ∧ takeE p = 0 ∧ (∀ o, o ∈ l → o.client = (takeC p).client → o.end_ ≠ 0 ∧ o.seq < (takeC p).seq) ∧ lateP l n = true ∧ l.length < 100 := by
  unfold beginE at h
  split at h
  · cases h
  · rename_i h0
    split at h
    · rename_i h1; exact absurd h h1
    · rename_i h1
      split at h
      · cases h
      · rename_i h2
        split at h
        · cases h
        · rename_i h3
          split at h
          · cases h
          · rename_i h4
            split at h
            · cases h
            · rename_i h5
              refine ⟨by omega, by omega, fun o ho hc => ?_, by simpa using h4, by omega⟩
              have q1 := fun hh => h2 (List.any_eq_true.2 ⟨o, ho, hh⟩)
              have q2 := fun hh => h3 (List.any_eq_true.2 ⟨o, ho, hh⟩)
              simp only [Bool.and_eq_true, decide_eq_true_eq] at q1 q2
              exact ⟨fun e => q1 ⟨hc, e⟩, by have q3 : ¬ (takeC p).seq ≤ o.seq := fun hh => q2 ⟨hc, hh⟩; omega⟩
theorem late_at {l : List Co} {n : Int} (h : lateP l n = true) : (1 ≤ n ∧ n ≤ 1000000) ∧ ∀ o, o ∈ l → o.start < n ∧ o.end_ < n := by
  unfold lateP momentP at h
  simp only [Bool.and_eq_true, decide_eq_true_eq, Bool.not_eq_true'] at h
  refine ⟨h.1, fun o ho => ?_⟩
  have := List.any_eq_false.1 h.2 o ho
  simp only [Bool.or_eq_true, decide_eq_true_eq] at this
  omega
end Go.Proofs.YthogpkmidffdeaaDoor
