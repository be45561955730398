/- Frames of bytes: the laws, in plain words. -/
import Derived.Test.YtopmppnnihdnaaaAmFrB
namespace Go.Proofs.Ytopmppnnihdnaaa
set_option linter.unusedVariables false
set_option linter.unusedSimpArgs false
open NumP
set_option linter.unusedVariables false
set_option linter.unusedSimpArgs false
abbrev fm (l : List ByteArray) : List UInt8 := l.flatMap fun b => frm (bl b)
theorem fm_cons (b : ByteArray) (l : List ByteArray) : fm (b :: l) = frm (bl b) ++ fm l := List.flatMap_cons ..
/-- bodies, with the place behind each -/
def posX (p : Int) : List ByteArray → List (Int × ByteArray)
  | [] => []
  | b :: l => (p + ((frm (bl b)).length : Int), b) :: posX (p + ((frm (bl b)).length : Int)) l
def lastFrom (p : Int) (xs : List (Int × ByteArray)) : Int := xs.foldl (fun _ x => x.1) p
theorem posX_snd (l : List ByteArray) : ∀ p, (posX p l).map (·.2) = l := by
  induction l with
  | nil => intro p; rfl
  | cons b l ih => intro p; simp [posX, ih]
theorem posX_last (l : List ByteArray) : ∀ p, lastFrom p (posX p l) = p + ((fm l).length : Int) := by
  induction l with
  | nil => intro p; simp [posX, lastFrom]
  | cons b l ih =>
    intro p
    show lastFrom (p + ((frm (bl b)).length : Int)) (posX _ l) = _
    rw [ih, fm_cons, List.length_append]; omega
theorem fm_ge (l : List ByteArray) : 5 * l.length ≤ (fm l).length := by
  induction l with
  | nil => simp
  | cons b l ih => rw [fm_cons, List.length_append, List.length_cons]; have := frm_ge (bl b); omega
/-- frames that stand so are taken -/
theorem frs_join (s : ByteArray) (l : List ByteArray) (h : ∀ b, b ∈ l → b.size ≤ 20000) : ∀ (p : Nat) (r : List UInt8), p ≤ s.size → (bl s).drop p = fm l ++ r → ∀ k, frs s (l.length + k) p = posX p l ++ frs s k (p + ((fm l).length : Int)) := by
  induction l with
  | nil => intro p r hp hd k; simp [posX]
  | cons b l ih =>
    intro p r hp hd k
    rw [fm_cons, List.append_assoc] at hd
    have hg := getF_mk (s := s) (p := p) (b := b) (r := fm l ++ r) (by omega) (by omega) (h b (List.mem_cons_self ..)) (by rw [Int.toNat_natCast]; exact hd)
    have hz : (getF s p).2.2 = 0 := by rw [hg]
    have hlt := getF_lt hz
    rw [List.length_cons, show l.length + 1 + k = (l.length + k) + 1 by omega, frs_step hz, hg]
    rw [hg] at hlt
    dsimp only at hlt ⊢
    have := ih (fun x hx => h x (List.mem_cons_of_mem _ hx)) (p + (frm (bl b)).length) r (by omega) (by rw [← List.drop_drop, hd, List.drop_left]) k
    rw [Int.natCast_add] at this
    rw [this, fm_cons, List.length_append, Int.natCast_add, ← Int.add_assoc]; rfl
theorem frs_enough {s : ByteArray} {p : Int} (h0 : 0 ≤ p) {j k : Nat} (hj : (s.size : Int) < p + 5 * j) (hk : (s.size : Int) < p + 5 * k) : frs s j p = frs s k p := by
  by_cases e : j ≤ k
  · have := frs_more (s := s) j (k - j) p h0 hj
    rw [show j + (k - j) = k by omega] at this; exact this.symm
  · have := frs_more (s := s) k (j - k) p h0 hk
    rw [show k + (j - k) = j by omega] at this; exact this
/-- a text that is frames, and then what is none -/
theorem all_of {s : ByteArray} {l : List ByteArray} {r : List UInt8} (h : ∀ b, b ∈ l → b.size ≤ 20000) (hs : bl s = fm l ++ r) (hr : (getF s ((fm l).length : Int)).2.2 ≠ 0) : allP s = (l, ((fm l).length : Int)) := by
  have hl := bl_len s
  have hge := fm_ge l
  have hlen : (fm l).length ≤ s.size := by rw [← hl, hs, List.length_append]; omega
  have hj := frs_join s l h 0 r (by omega) (by rw [List.drop_zero]; exact hs) (s.size + 1 - l.length)
  rw [show l.length + (s.size + 1 - l.length) = s.size + 1 by omega] at hj
  have hx : allX s = posX 0 l := by
    show frs s (s.size + 1) 0 = _
    rw [show ((0 : Nat) : Int) = 0 from rfl] at hj
    rw [hj, frs_stop (by rw [Int.zero_add]; exact hr), List.append_nil]
  unfold allP
  rw [hx, posX_snd]
  refine Prod.ext rfl ?_
  have := posX_last l 0
  rw [Int.zero_add] at this; exact this
theorem getF_end {s : ByteArray} {p : Int} (h : (s.size : Int) < p + 5) : (getF s p).2.2 ≠ 0 := fun e => by have := getF_lt e; omega
theorem all_join {l : List ByteArray} (h : ∀ b, b ∈ l → b.size ≤ 20000) : allP (bs (fm l)) = (l, ((fm l).length : Int)) :=
  all_of (r := []) h (by rw [bl_bs, List.append_nil]) (getF_end (by show ((fm l).length : Int) < _; omega))
theorem frm_one {b c : ByteArray} {r t : List UInt8} (hb : b.size ≤ 20000) (hc : c.size ≤ 20000) (h : frm (bl b) ++ r = frm (bl c) ++ t) : b = c := by
  have h1 := getF_mk (s := bs (frm (bl b) ++ r)) (p := 0) (b := b) (r := r) (by omega) (by omega) hb rfl
  have h2 := getF_mk (s := bs (frm (bl b) ++ r)) (p := 0) (b := c) (r := t) (by omega) (by omega) hc h
  rw [h1] at h2
  exact congrArg Prod.fst h2
/-- what is taken, and what is left -/
theorem frs_spec (s : ByteArray) : ∀ (k : Nat) (p : Nat), p ≤ s.size → (s.size : Int) < p + 5 * k → ∃ (l : List ByteArray) (r : List UInt8), frs s k p = posX p l ∧ (∀ b, b ∈ l → b.size ≤ 20000) ∧ (bl s).drop p = fm l ++ r ∧ (getF s (p + ((fm l).length : Int))).2.2 ≠ 0 := by
  intro k
  induction k with
  | zero => intro p hp h; omega
  | succ k ih =>
    intro p hp h
    by_cases e : (getF s p).2.2 = 0
    · obtain ⟨g1, g2, g3, g4, r, g5⟩ := getF_ok e
      have hlt := getF_lt e
      rw [Int.toNat_natCast] at g5
      obtain ⟨l, r', q1, q2, q3, q4⟩ := ih (p + (frm (bl (getF s p).1)).length) (by omega) (by omega)
      have e1 : (((p + (frm (bl (getF s p).1)).length : Nat)) : Int) = (getF s p).2.1 := by rw [g3]; omega
      rw [e1] at q1 q4
      refine ⟨(getF s p).1 :: l, r', ?_, ?_, ?_, ?_⟩
      · rw [frs_step e, q1]
        show _ = (_ :: posX _ l)
        rw [← g3]
      · intro b hb
        rcases List.mem_cons.1 hb with rfl | hb
        · exact g2
        · exact q2 b hb
      · rw [← List.drop_drop, g5, List.drop_left] at q3
        rw [g5, q3, fm_cons, List.append_assoc]
      · rw [fm_cons, List.length_append, Int.natCast_add, ← Int.add_assoc, ← g3]; exact q4
    · exact ⟨[], (bl s).drop p, by rw [frs_stop e]; rfl, by simp, rfl, by simpa using e⟩
theorem all_spec (s : ByteArray) : (∀ b, b ∈ (allP s).1 → b.size ≤ 20000) ∧ (allP s).2 = ((fm (allP s).1).length : Int) ∧ ∃ r, bl s = fm (allP s).1 ++ r := by
  obtain ⟨l, r, h1, h2, h3, h4⟩ := frs_spec s (s.size + 1) 0 (by omega) (by omega)
  rw [List.drop_zero] at h3
  have := all_of h2 h3 (by simpa using h4)
  rw [this]
  exact ⟨h2, rfl, r, h3⟩
theorem all_to (s : ByteArray) : 0 ≤ (allP s).2 ∧ (allP s).2 ≤ s.size := by
  obtain ⟨_, h2, r, h3⟩ := all_spec s
  have := bl_len s
  rw [h3, List.length_append] at this
  omega
theorem all_cut (s : ByteArray) : s.extract 0 (allP s).2.toNat = bs (fm (allP s).1) := by
  obtain ⟨_, h2, r, h3⟩ := all_spec s
  apply bl_inj
  rw [bl_extract0, bl_bs, bl_bs, h2, Int.toNat_natCast]
  conv => lhs; rw [h3]
  rw [List.take_left]
/-- what was taken is taken again of so much -/
theorem all_again (s : ByteArray) : allP (s.extract 0 (allP s).2.toNat) = allP s := by
  obtain ⟨h1, h2, _⟩ := all_spec s
  rw [all_cut, all_join h1, ← h2]
/-- and of no fewer -/
theorem all_fewer (s : ByteArray) (h : 0 < (allP s).2) : ((allP (s.extract 0 ((allP s).2 - 1).toNat)).1.length : Int) = ((allP s).1.length : Int) - 1 := by
  obtain ⟨h1, h2, r, h3⟩ := all_spec s
  generalize (allP s).1 = l at *
  generalize (allP s).2 = t at *
  have hne : l ≠ [] := by rintro rfl; simp at h2; omega
  obtain ⟨m, b, rfl⟩ : ∃ m b, l = m ++ [b] := ⟨l.dropLast, l.getLast hne, (List.dropLast_concat_getLast hne).symm⟩
  have hb := h1 b (by simp)
  have hm : ∀ x, x ∈ m → x.size ≤ 20000 := fun x hx => h1 x (by simp [hx])
  have hfm : fm (m ++ [b]) = fm m ++ frm (bl b) := by simp [fm]
  have hgb := frm_ge (bl b)
  rw [hfm, List.length_append] at h2
  have hcut : bl (s.extract 0 (t - 1).toNat) = fm m ++ (frm (bl b)).dropLast := by
    rw [bl_extract0, bl_bs, h3, hfm, show (t - 1).toNat = (fm m).length + ((frm (bl b)).length - 1) by omega, List.append_assoc, List.take_append, List.take_of_length_le (by omega), Nat.add_sub_cancel_left, List.take_append_of_le_length (by omega), List.dropLast_eq_take]
  have hsz : (s.extract 0 (t - 1).toNat).size = (fm m).length + ((frm (bl b)).length - 1) := by rw [← bl_len, hcut, List.length_append, List.length_dropLast]
  have hno : (getF (s.extract 0 (t - 1).toNat) ((fm m).length : Int)).2.2 ≠ 0 := by
    intro e
    obtain ⟨_, g2, g3, g4, r', g5⟩ := getF_ok e
    rw [Int.toNat_natCast, hcut, List.drop_left] at g5
    have hfull : frm (bl b) ++ [] = frm (bl (getF (s.extract 0 (t - 1).toNat) ((fm m).length : Int)).1) ++ (r' ++ [(frm (bl b)).getLast (by intro h0; rw [h0] at hgb; simp at hgb)]) := by
      rw [← List.append_assoc, ← g5, List.dropLast_concat_getLast, List.append_nil]
    have := frm_one hb g2 hfull
    have hl := congrArg List.length g5
    rw [List.length_dropLast, List.length_append, ← this] at hl
    omega
  rw [all_of hm hcut hno]
  simp
/-- the same, further behind -/
theorem getF_shift {s b : ByteArray} {h : Nat} (hd : (bl s).drop h = bl b) (hs : s.size = h + b.size) {p : Int} (h0 : 0 ≤ p) (h1 : p ≤ b.size) : ((getF b p).2.2 = 0 → getF s (h + p) = ((getF b p).1, h + (getF b p).2.1, 0)) ∧ ((getF b p).2.2 ≠ 0 → (getF s (h + p)).2.2 ≠ 0) := by
  have hdp : (bl s).drop ((h : Int) + p).toNat = (bl b).drop p.toNat := by rw [show ((h : Int) + p).toNat = h + p.toNat by omega, ← List.drop_drop, hd]
  constructor
  · intro e
    obtain ⟨g1, g2, g3, g4, r, g5⟩ := getF_ok e
    rw [getF_mk (s := s) (p := h + p) (b := (getF b p).1) (r := r) (by omega) (by omega) g2 (by rw [hdp]; exact g5), g3]
    rw [Int.add_assoc]
  · intro e k
    obtain ⟨g1, g2, g3, g4, r, g5⟩ := getF_ok k
    rw [hdp] at g5
    rw [getF_mk (s := b) h0 h1 g2 g5] at e
    exact e rfl
theorem frs_shift {s b : ByteArray} {h : Nat} (hd : (bl s).drop h = bl b) (hs : s.size = h + b.size) : ∀ (k : Nat) (p : Int), 0 ≤ p → p ≤ b.size → frs s k (h + p) = (frs b k p).map fun x => ((h : Int) + x.1, x.2) := by
  intro k
  induction k with
  | zero => intro p _ _; rfl
  | succ k ih =>
    intro p h0 h1
    have hsh := getF_shift hd hs h0 h1
    by_cases e : (getF b p).2.2 = 0
    · have hlt := getF_lt e
      have e2 := hsh.1 e
      rw [frs_step e, frs_step (by rw [e2]), e2, List.map_cons]
      dsimp only
      rw [ih _ (by omega) (by omega)]
    · rw [frs_stop e, frs_stop (hsh.2 e)]; rfl
theorem lastFrom_shift (h : Int) (xs : List (Int × ByteArray)) : ∀ p, lastFrom (h + p) (xs.map fun x => (h + x.1, x.2)) = h + lastFrom p xs := by
  induction xs with
  | nil => intro p; rfl
  | cons x xs ih => intro p; exact ih x.1
/-- what is behind changes nothing -/
theorem all_behind (s c : ByteArray) : allP (s.extract 0 (allP s).2.toNat ++ c) = ((allP s).1 ++ (allP c).1, (allP s).2 + (allP c).2) := by
  obtain ⟨h1, h2, _⟩ := all_spec s
  rw [all_cut]
  generalize (allP s).1 = l at *
  generalize (allP s).2 = t at *
  have hge := fm_ge l
  have hbl : bl (bs (fm l) ++ c) = fm l ++ bl c := by rw [bl_append, bl_bs]
  have hsz : (bs (fm l) ++ c).size = (fm l).length + c.size := by rw [← bl_len, hbl, List.length_append, bl_len]
  have hj := frs_join (bs (fm l) ++ c) l h1 0 (bl c) (by omega) (by rw [List.drop_zero]; exact hbl) ((bs (fm l) ++ c).size + 1 - l.length)
  rw [show l.length + ((bs (fm l) ++ c).size + 1 - l.length) = (bs (fm l) ++ c).size + 1 by omega, show ((0 : Nat) : Int) = 0 from rfl, Int.zero_add] at hj
  have hsh := frs_shift (s := bs (fm l) ++ c) (b := c) (h := (fm l).length) (by rw [hbl, List.drop_left]) hsz ((bs (fm l) ++ c).size + 1 - l.length) 0 (by omega) (by omega)
  rw [Int.add_zero] at hsh
  rw [hsh, frs_enough (s := c) (p := 0) (by omega) (k := c.size + 1) (by omega) (by omega)] at hj
  have hx : allX (bs (fm l) ++ c) = posX 0 l ++ (allX c).map fun x => (((fm l).length : Int) + x.1, x.2) := hj
  unfold allP
  rw [hx]
  refine Prod.ext ?_ ?_
  · show (posX 0 l ++ _).map (·.2) = _
    rw [List.map_append, posX_snd, List.map_map]; rfl
  · show lastFrom 0 (posX 0 l ++ _) = _
    unfold lastFrom
    rw [List.foldl_append]
    show lastFrom (lastFrom 0 (posX 0 l)) _ = _
    rw [posX_last, Int.zero_add, h2]
    have := lastFrom_shift ((fm l).length : Int) (allX c) 0
    rw [Int.add_zero] at this
    rw [this]; rfl
/-! ### what comes back -/
theorem size_sum {l : List ByteArray} {x : ByteArray} (h : x ∈ l) : x.size ≤ szS l l.length := by
  unfold szS
  rw [List.take_length]
  induction l with
  | nil => cases h
  | cons y l ih =>
    rw [List.map_cons, List.sum_cons]
    rcases List.mem_cons.1 h with rfl | h
    · omega
    · have := ih h; omega
theorem join_ok {l : List ByteArray} (h : szS l l.length ≤ 20000) : joinP l = (bs (fm l), 0) ∧ ∀ b, b ∈ l → b.size ≤ 20000 := by
  have h2 : ∀ b, b ∈ l → b.size ≤ 20000 := fun b hb => by have := size_sum hb; omega
  refine ⟨?_, h2⟩
  unfold joinP
  rw [if_pos (List.all_eq_true.2 fun b hb => decide_eq_true (h2 b hb))]
theorem get_put_frame (h b : ByteArray) (c : ByteArray) (hb : b.size ≤ 20000) : getF (h ++ bs (frm (bl b)) ++ c) h.size = (b, (h.size : Int) + ((frm (bl b)).length : Int), 0) := by
  refine getF_mk (r := bl c) (by omega) ?_ hb ?_
  · rw [ByteArray.size_append, ByteArray.size_append]; omega
  · rw [Int.toNat_natCast, bl_append, bl_append, bl_bs, ← bl_len, List.append_assoc, List.drop_left]
theorem got_put {s : ByteArray} {p : Int} (h : (getF s p).2.2 = 0) : (putF (getF s p).1).2 = 0 ∧ s.extract p.toNat (getF s p).2.1.toNat = (putF (getF s p).1).1 := by
  obtain ⟨g1, g2, g3, g4, r, g5⟩ := getF_ok h
  rw [putF_ok (by omega)]
  refine ⟨rfl, ?_⟩
  apply bl_inj
  rw [bl_extract, List.drop_take, g5, show (getF s p).2.1.toNat - p.toNat = (frm (bl (getF s p).1)).length by omega, List.take_left]; rfl
end Go.Proofs.Ytopmppnnihdnaaa
