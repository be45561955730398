/- Sessions: the plain law, what the statements ask. -/
import Derived.Test.YtjccjlflnlddpaaAmSessC
namespace Go.Proofs.Ytjccjlflnlddpaa
set_option linter.unusedVariables false
set_option linter.unusedSimpArgs false
open SessP
theorem few_facts {l : List Se} (h : fewB l = true) : l.length ≤ 60 := by
  unfold fewB at h; simp at h; exact h.1
theorem askP_rng (l : List Se) (c q : Int) : 0 ≤ (askP l c q).2.2 ∧ (askP l c q).2.2 ≤ 45 := by
  unfold askP
  split
  · split
    · split
      · exact ⟨by simp, by simp⟩
      · split <;> exact ⟨by simp, by simp⟩
    · split <;> exact ⟨by simp, by simp⟩
  · exact ⟨by simp, by simp⟩
theorem noteP_rng (l : List Se) (s : Se) : 0 ≤ (noteP l s).2 ∧ (noteP l s).2 ≤ 45 := by
  unfold noteP
  split
  · split
    · split <;> exact ⟨by simp, by simp⟩
    · exact ⟨by simp, by simp⟩
  · exact askP_rng _ _ _
theorem noteP_len (l : List Se) (s : Se) : (noteP l s).1.length ≤ 2 * l.length + 1 := by
  unfold noteP
  split
  · rename_i h
    split
    · split
      · simp
      · rw [put_filter h]
        have h1 := List.length_filter_le (fun x : Se => decide (x.client < s.client)) l
        have h2 := List.length_filter_le (fun x : Se => decide (s.client < x.client)) l
        simp; omega
    · simp
  · simp
/-- a call that was noted -/
theorem note_good {l : List Se} {s : Se} (h : (noteP l s).2 = 0) : (askP l s.client s.seq).2.2 = 0 ∧ may s = true ∧ (askP l s.client s.seq).2.1 = false ∧ (noteP l s).1 = putR l s := by
  unfold noteP at h ⊢
  by_cases h1 : (askP l s.client s.seq).2.2 = 0
  · rw [if_pos h1] at h ⊢
    by_cases h2 : may s = true
    · rw [if_pos h2] at h ⊢
      by_cases h3 : (askP l s.client s.seq).2.1 = true
      · rw [if_pos h3] at h; cases h
      · rw [if_neg h3]
        exact ⟨h1, h2, by simpa using h3, putP_eq l s 0 (asc_of_ok l 0 (okE_ok (askP_ok h1).1).2)⟩
    · rw [if_neg h2] at h; cases h
  · rw [if_neg h1] at h; exact absurd h h1
theorem note_bad {l : List Se} {s : Se} (h : (noteP l s).2 ≠ 0) : (noteP l s).1 = [] := by
  unfold noteP at h ⊢
  by_cases h1 : (askP l s.client s.seq).2.2 = 0
  · rw [if_pos h1] at h ⊢
    by_cases h2 : may s = true
    · rw [if_pos h2] at h ⊢
      by_cases h3 : (askP l s.client s.seq).2.1 = true
      · rw [if_pos h3]
      · rw [if_neg h3] at h; exact absurd rfl h
    · rw [if_neg h2]
  · rw [if_neg h1]
theorem ask_room {l : List Se} {c q : Int} (h : (askP l c q).2.2 = 0) (hf : (findP l c).2 = false) : l.length < 20 := by
  have h1 := askP_ok h
  unfold askP at h
  rw [if_pos h1, if_neg (by simp [hf])] at h
  split at h
  · cases h
  · omega
theorem note_ok {l : List Se} {s : Se} (h : (noteP l s).2 = 0) : okE (noteP l s).1 = 0 := by
  obtain ⟨h1, h2, h3, h4⟩ := note_good h
  obtain ⟨hl, ho⟩ := okE_ok (askP_ok h1).1
  have ha := (okFrom_iff l 0).1 ho
  have hlen := putR_len l s 0 ha.2
  rw [h4]
  refine okE_good ?_ ((okFrom_iff _ _).2 ⟨fun x hx => ?_, putR_asc l s 0 ha.2 (may_pos h2)⟩)
  · cases hf : (findP l s.client).2 with
    | true => rw [hlen.2 hf]; exact hl
    | false => have := ask_room h1 hf; omega
  · rcases putR_mem l s x hx with rfl | hx
    · exact h2
    · exact ha.1 x hx
theorem find_note {l : List Se} {s : Se} (h : (noteP l s).2 = 0) (c : Int) : findP (noteP l s).1 c = if c = s.client then (s, true) else findP l c := by
  rw [(note_good h).2.2.2, findP_putR]
theorem ask_after {l : List Se} {s : Se} (h : (noteP l s).2 = 0) (n : Int) : askP (noteP l s).1 s.client n = if numB n = true then (if s.seq = n then (s.reply, true, 0) else if n < s.seq then (⟨#[]⟩, false, 45) else (⟨#[]⟩, false, 0)) else (⟨#[]⟩, false, 2) := by
  have h1 := (askP_ok (note_good h).1).2.1
  have h2 := note_ok h
  have h3 : findP (noteP l s).1 s.client = (s, true) := by rw [find_note h, if_pos rfl]
  unfold askP
  by_cases hn : numB n = true
  · rw [if_pos ⟨h2, h1, hn⟩, if_pos hn, h3, if_pos rfl]
  · rw [if_neg (fun e => hn e.2.2), if_neg hn]
theorem note_again {l : List Se} {s : Se} (h : (noteP l s).2 = 0) : noteP (noteP l s).1 s = ([], 41) := by
  have h1 := (askP_ok (note_good h).1).2.2
  have h2 := ask_after h s.seq
  rw [if_pos h1, if_pos rfl] at h2
  generalize (noteP l s).1 = m at *
  unfold noteP
  rw [h2, if_pos rfl, if_pos (note_good h).2.1, if_pos rfl]
theorem find_mem : ∀ (l : List Se) (p : Int) (x : Se), asc p l → x ∈ l → findP l x.client = (x, true) := by
  intro l
  induction l with
  | nil => intro p x _ hx; cases hx
  | cons y l ih =>
    intro p x h hx
    rw [findP_cons]
    rcases List.mem_cons.1 hx with rfl | hx
    · rw [if_pos rfl]
    · have := asc_all l _ h.2 x hx
      rw [if_neg (by omega)]; exact ih _ _ h.2 hx
/-- nobody's call goes back, nobody else's is touched -/
theorem note_keeps {l : List Se} {s : Se} (h : (noteP l s).2 = 0) (k : Nat) (hk : k < l.length) :
    (findP (noteP l s).1 (l.getD k default).client).2 = true ∧ ((findP (noteP l s).1 (l.getD k default).client).1.client ≠ s.client → (findP (noteP l s).1 (l.getD k default).client).1 = l.getD k default) ∧ (l.getD k default).seq ≤ (findP (noteP l s).1 (l.getD k default).client).1.seq := by
  obtain ⟨h1, h2, h3, h4⟩ := note_good h
  have ha := asc_of_ok l 0 (okE_ok (askP_ok h1).1).2
  have hm : l.getD k default ∈ l := by rw [Se_idx hk]; exact List.getElem_mem hk
  have hf := find_mem l 0 _ ha hm
  rw [find_note h]
  by_cases e : (l.getD k default).client = s.client
  · rw [if_pos e]
    refine ⟨rfl, fun he => absurd rfl he, ?_⟩
    rw [e] at hf
    have h5 := askP_ok h1
    unfold askP at h1 h3
    rw [if_pos h5, hf, if_pos rfl] at h1 h3
    by_cases q1 : (l.getD k default).seq = s.seq
    · exact Int.le_of_eq q1
    · rw [if_neg q1] at h1
      by_cases q2 : s.seq < (l.getD k default).seq
      · rw [if_pos q2] at h1; cases h1
      · simp only; omega
  · rw [if_neg e, hf]
    exact ⟨rfl, fun _ => rfl, Int.le_refl _⟩
theorem flat_ok (l : List Se) : ((l.map aSe).all fun y => Nat.beq y.cells.length 3 && y.cells.all AV.one) = true := by simp [aSe, AV.cells, AV.one]
theorem note_len {l : List Se} {s : Se} (h : (noteP l s).2 = 0) : (noteP l s).1.length ≤ l.length + 1 := by
  obtain ⟨h1, h2, h3, h4⟩ := note_good h
  rw [h4]
  exact (putR_len l s 0 (asc_of_ok l 0 (okE_ok (askP_ok h1).1).2)).1
end Go.Proofs.Ytjccjlflnlddpaa
