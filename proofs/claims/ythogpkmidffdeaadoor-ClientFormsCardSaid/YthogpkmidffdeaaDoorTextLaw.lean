/- Pieces of bytes: what was laid is read; what was read, laid again, is the bytes. -/
import Derived.Test.YthogpkmidffdeaaDoorTextPlain
namespace Go.Proofs.YthogpkmidffdeaaDoor
set_option linter.unusedVariables false
set_option linter.unusedSimpArgs false
open NumP
set_option linter.unusedVariables false
set_option linter.unusedSimpArgs false
structure Pc where
  kind : Int
  n : Int
  s : ByteArray
  l : List Int
instance : Inhabited Pc := ⟨⟨0, 0, ⟨#[]⟩, []⟩⟩
def fewP (l : List Pc) : Bool := decide (l.length ≤ 40) && l.all fun x => decide (x.s.size ≤ 500) && decide (x.l.length ≤ 100)
def pcW (w : WrS) (p : Pc) : WrS :=
  if p.kind = 0 then wrNum w p.n else if p.kind = 1 then wrText w p.s else if p.kind = 2 then wrRow w p.l else if p.kind = 3 then wrFlag w (decide (0 < p.n)) else w
def layP (l : List Pc) : WrS := l.foldl pcW WrS.new
theorem layP_snoc (l : List Pc) (p : Pc) : layP (l ++ [p]) = pcW (layP l) p := by simp [layP]
theorem layP_succ (l : List Pc) (k : Nat) (h : k < l.length) : layP (l.take (k + 1)) = pcW (layP (l.take k)) (l.getD k default) := by
  rw [List.take_succ_eq_append_getElem h, layP_snoc]; simp [List.getD, h]
theorem pcW_len (w : WrS) (p : Pc) (h : p.s.size ≤ 500) (h2 : p.l.length ≤ 100) : (pcW w p).s.length ≤ w.s.length + 1000 := by
  unfold pcW
  split
  · have := wrNum_len w p.n; omega
  · split
    · have := wrText_len w p.s; omega
    · split
      · have := wrRow_len w p.l; omega
      · split
        · have := wrFlag_len w (decide (0 < p.n)); omega
        · omega
theorem few_len {l : List Pc} (h : fewP l = true) : l.length ≤ 40 := by unfold fewP at h; simp at h; exact h.1
theorem few_at {l : List Pc} (h : fewP l = true) {k : Nat} (hk : k < l.length) : (l.getD k default).s.size ≤ 500 ∧ (l.getD k default).l.length ≤ 100 := by
  unfold fewP at h; simp at h
  have := h.2 l[k] (List.getElem_mem hk)
  simpa [List.getD, hk] using this
theorem few_no {l : List Pc} {k : Nat} (hk : k < l.length) (h : 500 < (l.getD k default).s.size ∨ 100 < (l.getD k default).l.length) : fewP l = false := by
  have : (l.all fun x => decide (x.s.size ≤ 500) && decide (x.l.length ≤ 100)) = false := by
    rw [List.all_eq_false]
    refine ⟨l[k], List.getElem_mem hk, ?_⟩
    simp [List.getD, hk] at h
    simp; omega
  unfold fewP; rw [this, Bool.and_false]
theorem few_yes {l : List Pc} (h0 : l.length ≤ 40) (h : ∀ j, j < l.length → (l.getD j default).s.size ≤ 500 ∧ (l.getD j default).l.length ≤ 100) : fewP l = true := by
  unfold fewP
  rw [decide_eq_true h0, Bool.true_and, List.all_eq_true]
  intro x hx
  obtain ⟨j, hj, rfl⟩ := List.mem_iff_getElem.1 hx
  have := h j hj
  simp [List.getD, hj] at this
  simpa using this
theorem layP_len {l : List Pc} (h : fewP l = true) : ∀ k, k ≤ l.length → (layP (l.take k)).s.length ≤ 1000 * k := by
  intro k
  induction k with
  | zero => intro _; simp [layP, WrS.new]
  | succ k ih =>
    intro hk
    rw [layP_succ l k (by omega)]
    have := few_at h (k := k) (by omega)
    have := pcW_len (layP (l.take k)) (l.getD k default) this.1 this.2
    have := ih (by omega)
    omega
/-! ### what was laid is read -/
def pcB (p : Pc) : List UInt8 :=
  if p.kind = 0 then (putN p.n).1 else if p.kind = 1 then (putN p.s.size).1 ++ bl p.s else if p.kind = 2 then (rowN p.l).1 else if p.kind = 3 then bl (flagB (decide (0 < p.n))) else []
def pcE (p : Pc) : Int := if p.kind = 0 then (putN p.n).2 else if p.kind = 2 then (rowN p.l).2 else 0
theorem pcW_ok {w : WrS} {p : Pc} (h : (pcW w p).e = 0) : w.e = 0 ∧ pcE p = 0 ∧ (pcW w p).s = w.s ++ pcB p := by
  have key : ∀ (t : ByteArray) (u : List UInt8) (e : Int), (wrPut w t u e).e = 0 → w.e = 0 ∧ e = 0 ∧ (wrPut w t u e).s = w.s ++ u := by
    intro t u e h
    unfold wrPut at h ⊢
    split at h
    · rename_i h1; exact absurd h h1
    · rename_i h1
      split at h
      · rename_i h2; exact absurd h h2
      · rename_i h2; rw [if_neg h1, if_neg h2]; exact ⟨by omega, by omega, rfl⟩
  unfold pcW pcE pcB at *
  split at h
  · rename_i h0; simp only [if_pos h0]; exact key _ _ _ h
  · rename_i h0
    simp only [if_neg h0]
    split at h
    · rename_i h1
      have := key _ _ _ h
      simp only [if_pos h1, show ¬ p.kind = 2 by omega, if_false]
      exact ⟨this.1, trivial, this.2.2⟩
    · rename_i h1
      simp only [if_neg h1]
      split at h
      · rename_i h2; simp only [if_pos h2]; exact key _ _ _ h
      · rename_i h2
        simp only [if_neg h2]
        split at h
        · rename_i h3
          have := key _ _ _ h
          simp only [if_pos h3]
          exact ⟨this.1, trivial, this.2.2⟩
        · rename_i h3; simp only [if_neg h3]; exact ⟨h, trivial, by simp⟩
theorem layP_ok (l : List Pc) (h : (layP l).e = 0) : ∀ k, k ≤ l.length → (layP (l.take k)).e = 0 ∧ (layP (l.take k)).s = (l.take k).flatMap pcB ∧ ∀ j, j < k → pcE (l.getD j default) = 0 := by
  have back : ∀ i, i ≤ l.length → (layP (l.take (l.length - i))).e = 0 := by
    intro i
    induction i with
    | zero => intro _; simpa using h
    | succ i ih =>
      intro hi
      have h1 := ih (by omega)
      rw [show l.length - i = (l.length - (i + 1)) + 1 by omega, layP_succ l _ (by omega)] at h1
      exact (pcW_ok h1).1
  intro k
  induction k with
  | zero => intro _; exact ⟨rfl, rfl, fun j hj => by omega⟩
  | succ k ih =>
    intro hk
    obtain ⟨i1, i2, i3⟩ := ih (by omega)
    have e1 := back (l.length - (k + 1)) (by omega)
    rw [show l.length - (l.length - (k + 1)) = k + 1 by omega] at e1
    have e2 := e1
    rw [layP_succ l k (by omega)] at e2
    obtain ⟨a, b, c⟩ := pcW_ok e2
    refine ⟨e1, ?_, fun j hj => ?_⟩
    · rw [layP_succ l k (by omega), c, i2, List.take_succ_eq_append_getElem (by omega), List.flatMap_append]
      simp [List.getD, show k < l.length by omega]
    · by_cases e : j = k
      · subst e; exact b
      · exact i3 j (by omega)
theorem layP_cut (l : List Pc) (h : (layP l).e = 0) (k : Nat) (hk : k < l.length) : (layP l).s = (layP (l.take k)).s ++ (pcB (l.getD k default) ++ (l.drop (k + 1)).flatMap pcB) ∧ (layP (l.take (k + 1))).s = (layP (l.take k)).s ++ pcB (l.getD k default) := by
  have h1 := (layP_ok l h l.length (Nat.le_refl _)).2.1
  rw [List.take_length] at h1
  have h2 := (layP_ok l h k (by omega)).2.1
  have h3 := (layP_ok l h (k + 1) (by omega)).2.1
  have e1 : l.take (k + 1) = l.take k ++ [l.getD k default] := by rw [List.take_succ_eq_append_getElem hk]; simp [List.getD, hk]
  refine ⟨?_, ?_⟩
  · rw [h1, h2]
    conv => lhs; rw [← List.take_append_drop (k + 1) l, e1]
    simp
  · rw [h3, h2, e1]; simp
def pcR (r : RdS) (p : Pc) : RdS :=
  if p.kind = 0 then (rdNum r p.n).1 else if p.kind = 1 then (rdText r p.s.size).1 else if p.kind = 2 then (rdRow r p.l.length).1 else if p.kind = 3 then (rdFlag r).1 else r
theorem back_num {n : Int} (h b : List UInt8) (s : ByteArray) (hs : bl s = h ++ ((putN n).1 ++ b)) (h0 : (putN n).2 = 0) (h1 : n ≤ 9223372036854775807) (p : ByteArray) :
    rdNum ⟨s, h.length, p, 0⟩ n = (⟨s, (h.length : Int) + ((putN n).1.length : Int), p, 0⟩, n) := by
  have hn : 0 ≤ n := by rw [putN_err] at h0; split at h0 <;> omega
  have hg := get_put h b n hn h1
  unfold rdNum numE
  dsimp only
  rw [hs, hg]
  simp [RdS.moved]
theorem back_text (h b : List UInt8) (s t : ByteArray) (hs : bl s = h ++ (((putN t.size).1 ++ bl t) ++ b)) (h1 : t.size ≤ 1000000) (p : ByteArray) :
    rdText ⟨s, h.length, p, 0⟩ t.size = (⟨s, (h.length : Int) + (((putN t.size).1 ++ bl t).length : Int), p, 0⟩, t) := by
  rw [List.append_assoc] at hs
  have hg := get_put h (bl t ++ b) t.size (by omega) (by omega)
  have hsz : (s.size : Int) = h.length + (putN t.size).1.length + t.size + b.length := by
    rw [← bl_len s, hs]; simp [bl_len]; omega
  have he : textE ⟨s, h.length, p, 0⟩ t.size = 0 := by
    unfold textE
    dsimp only
    rw [hs, hg]
    dsimp only
    rw [if_neg (by simp), if_neg (by omega), if_neg (by omega)]
  unfold rdText
  rw [he]
  dsimp only
  rw [hs, hg]
  simp only [ne_eq, not_true_eq_false, if_false, RdS.moved]
  refine Prod.ext (by simp [bl_len]; omega) ?_
  apply bl_inj
  dsimp only
  rw [bl_extract, hs]
  rw [show ((h.length : Int) + ((putN t.size).1.length : Int) + (t.size : Int)).toNat = (h ++ (putN t.size).1).length + (bl t).length by rw [bl_len]; simp; omega]
  rw [show ((h.length : Int) + ((putN t.size).1.length : Int)).toNat = (h ++ (putN t.size).1).length by simp; omega]
  rw [← List.append_assoc, ← List.append_assoc]
  rw [List.take_append_of_le_length (by simp; omega), List.take_of_length_le (by simp; omega)]
  simp
theorem back_row (h b : List UInt8) (s : ByteArray) (l : List Int) (hs : bl s = h ++ ((rowN l).1 ++ b)) (h0 : (rowN l).2 = 0) (h1 : ∀ x, x ∈ l → x ≤ 9223372036854775807) (hl : l.length ≤ 1000) (p : ByteArray) :
    rdRow ⟨s, h.length, p, 0⟩ l.length = (⟨s, (h.length : Int) + ((rowN l).1.length : Int), p, 0⟩, l) := by
  have hn : nneg l = true := by unfold rowN at h0; split at h0 <;> simp_all
  have hg := unrow_row h b l hn h1 hl
  unfold rdRow
  dsimp only
  rw [hs, hg]
  simp [RdS.moved]
theorem back_flag (h b : List UInt8) (s : ByteArray) (f : Bool) (hs : bl s = h ++ (bl (flagB f) ++ b)) (p : ByteArray) :
    rdFlag ⟨s, h.length, p, 0⟩ = (⟨s, (h.length : Int) + ((bl (flagB f)).length : Int), p, 0⟩, f) := by
  have hsz : (s.size : Int) = h.length + 1 + b.length := by
    rw [← bl_len s, hs]; cases f <;> simp [flagB, bl] <;> omega
  have hget : (bl s).getD h.length 0 = if f then 1 else 0 := by
    rw [hs]
    cases f <;> exact getD_mid _ _ _
  unfold rdFlag
  dsimp only
  rw [if_neg (by simp), if_neg (by omega), Int.toNat_natCast, hget]
  cases f <;> simp [RdS.moved, flagB, bl]
/-! ### what was read, laid again -/
theorem moved_zero {r : RdS} {p : ByteArray} {to e : Int} (h : (r.moved p to e).e = 0) (h0 : r.e = 0) : e = 0 ∧ r.moved p to e = { r with at_ := to } := by
  rw [moved_e _ _ _ _ h0] at h
  subst h
  exact ⟨rfl, by simp [RdS.moved]⟩
/-- bytes up to the place -/
def Upto (r : RdS) (w : WrS) : Prop := r.e = 0 → w.e = 0 ∧ w.s = (bl r.s).take r.at_.toNat
theorem wrPut_ok {w : WrS} (h : w.e = 0) (p : ByteArray) (t : List UInt8) : wrPut w p t 0 = { w with s := w.s ++ t } := by
  unfold wrPut; rw [if_neg (by omega), if_neg (by omega)]
theorem upto_put {r : RdS} {w : WrS} {p : ByteArray} {t : List UInt8} {to : Int} (hU : Upto r w) (h0 : r.e = 0) (hr : 0 ≤ r.at_ ∧ r.at_ ≤ to) (ht : ((bl r.s).take to.toNat).drop r.at_.toNat = t) :
    (wrPut w p t 0).e = 0 ∧ (wrPut w p t 0).s = (bl r.s).take to.toNat := by
  obtain ⟨h1, h2⟩ := hU h0
  rw [wrPut_ok h1]
  refine ⟨h1, ?_⟩
  show w.s ++ t = _
  rw [h2, ← ht]
  have := cut_join (bl r.s) 0 r.at_.toNat to.toNat (by omega) (by omega)
  simp only [List.drop_zero] at this
  exact this.symm
theorem first_num {r : RdS} (hr : r.ok) (w : WrS) (most : Int) (hU : Upto r w) : Upto (rdNum r most).1 (wrNum w (rdNum r most).2) := by
  intro h
  unfold rdNum at h ⊢
  by_cases he : r.e = 0
  · rw [if_neg (by omega)] at h ⊢
    obtain ⟨h1, h2⟩ := moved_zero h he
    rw [h2, h1]
    have h3 : (getN (bl r.s) r.at_).2.2 = 0 := by
      unfold numE at h1; split at h1 <;> omega
    have hg : getN (bl r.s) r.at_ = ((getN (bl r.s) r.at_).1, (getN (bl r.s) r.at_).2.1, 0) := by rw [← h3]
    obtain ⟨g1, g2, g3, g4, g5, g6⟩ := get_least _ _ _ _ hg
    have := upto_put (p := tNum) hU he ⟨hr.1, by omega⟩ g6
    have e0 : (putN (getN (bl r.s) r.at_).1).2 = 0 := by rw [putN_err, if_pos g1]
    simp only [ne_eq, not_true_eq_false, if_false]
    unfold wrNum
    rw [e0]; exact this
  · rw [if_pos he] at h; exact absurd h he
theorem first_text {r : RdS} (hr : r.ok) (w : WrS) (most : Int) (hU : Upto r w) : Upto (rdText r most).1 (wrText w (rdText r most).2) := by
  intro h
  unfold rdText at h ⊢
  by_cases he : r.e = 0
  · rw [if_neg (by omega)] at h ⊢
    obtain ⟨h1, h2⟩ := moved_zero h he
    rw [h2, h1]
    obtain ⟨h3, h4, h5⟩ := textE_zero h1
    have hg : getN (bl r.s) r.at_ = ((getN (bl r.s) r.at_).1, (getN (bl r.s) r.at_).2.1, 0) := by rw [← h3]
    obtain ⟨g1, g2, g3, g4, g5, g6⟩ := get_least _ _ _ _ hg
    simp only [ne_eq, not_true_eq_false, if_false]
    generalize hN : (getN (bl r.s) r.at_).1 = N at *
    generalize hT : (getN (bl r.s) r.at_).2.1 = T at *
    have hsz : (r.s.extract T.toNat (T + N).toNat).size = N.toNat := by
      rw [ByteArray.size_extract]; omega
    unfold wrText
    rw [hsz, Int.toNat_of_nonneg g1, bl_extract]
    refine upto_put (to := T + N) hU he ⟨hr.1, by omega⟩ ?_
    rw [cut_join (bl r.s) r.at_.toNat T.toNat (T + N).toNat (by omega) (by omega), g6]
  · rw [if_pos he] at h; exact absurd h he
theorem unrowN_least (l : List UInt8) (p top to : Int) (xs : List Int) (h : unrowN l p top = (xs, to, 0)) : unrowN l p 1000 = (xs, to, 0) := by
  unfold unrowN at h ⊢
  split at h
  · rename_i h1; simp at h; exact absurd h.2.2 h1
  · rename_i h1
    rw [if_neg h1]
    split at h
    · simp at h
    · rename_i h2
      rw [if_neg (by omega)]; exact h
theorem first_row {r : RdS} (hr : r.ok) (w : WrS) (most : Int) (hU : Upto r w) : Upto (rdRow r most).1 (wrRow w (rdRow r most).2) := by
  intro h
  unfold rdRow at h ⊢
  by_cases he : r.e = 0
  · rw [if_neg (by omega)] at h ⊢
    obtain ⟨h1, h2⟩ := moved_zero h he
    rw [h2]
    have hg : unrowN (bl r.s) r.at_ most = ((unrowN (bl r.s) r.at_ most).1, (unrowN (bl r.s) r.at_ most).2.1, 0) := by rw [← h1]
    obtain ⟨g1, g2, g3, g4, g5, g6⟩ := unrow_least _ _ _ _ (unrowN_least _ _ _ _ _ hg)
    have := upto_put (p := tRow) (to := (unrowN (bl r.s) r.at_ most).2.1) hU he ⟨hr.1, by omega⟩ rfl
    unfold wrRow
    rw [g6]; exact this
  · rw [if_pos he] at h; exact absurd h he
theorem first_flag {r : RdS} (hr : r.ok) (w : WrS) (hU : Upto r w) : Upto (rdFlag r).1 (wrFlag w (rdFlag r).2) := by
  intro h
  unfold rdFlag at h ⊢
  by_cases he : r.e = 0
  · rw [if_neg (by omega)] at h ⊢
    by_cases h1 : r.at_ ≥ r.s.size
    · rw [if_pos h1] at h; rw [moved_e _ _ _ _ he] at h; cases h
    · rw [if_neg h1] at h ⊢
      by_cases h2 : ((bl r.s).getD r.at_.toNat 0).toNat > 1
      · rw [if_pos h2] at h; rw [moved_e _ _ _ _ he] at h; cases h
      · rw [if_neg h2] at h ⊢
        obtain ⟨_, h4⟩ := moved_zero h he
        rw [h4]
        have hr0 := hr.1
        dsimp only
        refine upto_put (r := r) (to := r.at_ + 1) hU he ⟨hr.1, by omega⟩ ?_
        rw [show (r.at_ + 1).toNat = r.at_.toNat + 1 by omega, cut_one _ _ (by rw [bl_len]; omega)]
        generalize (bl r.s).getD r.at_.toNat 0 = b at h2 ⊢
        have hb : b = 0 ∨ b = 1 := by
          rcases Nat.lt_or_ge b.toNat 1 with h | h
          · left; apply UInt8.toNat_inj.1; show b.toNat = 0; omega
          · right; apply UInt8.toNat_inj.1; show b.toNat = 1; omega
        rcases hb with rfl | rfl <;> rfl
  · rw [if_pos he] at h; exact absurd h he
theorem unrowF_len (l : List UInt8) (k : Nat) : ∀ (to : Int) (acc : List Int), (unrowF l k to acc).1.length ≤ acc.length + k := by
  induction k with
  | zero => intro to acc; exact Nat.le_refl _
  | succ k ih =>
    intro to acc
    rw [unrow_step]
    split
    · simp
    · have := ih (getN l to).2.1 (acc ++ [(getN l to).1]); simp at this; omega
theorem unrowN_len (l : List UInt8) (p top : Int) : (unrowN l p top).1.length ≤ 1000 := by
  unfold unrowN
  split
  · exact Nat.zero_le _
  · split
    · exact Nat.zero_le _
    · have := unrowF_len l (getN l p).1.toNat (getN l p).2.1 []
      simp at this; omega
theorem rdRow_len (r : RdS) (most : Int) : (rdRow r most).2.length ≤ 1000 := by
  unfold rdRow
  split
  · exact Nat.zero_le _
  · exact unrowN_len _ _ _
theorem rdText_len {r : RdS} (most : Int) : (rdText r most).2.size ≤ r.s.size := by
  unfold rdText
  split
  · exact Nat.zero_le _
  · dsimp only
    split
    · exact Nat.zero_le _
    · rw [ByteArray.size_extract]; omega
/-- a piece is read, and laid again -/
def pcRW (x : RdS × WrS) (p : Pc) : RdS × WrS :=
  if p.kind = 0 then ((rdNum x.1 p.n).1, wrNum x.2 (rdNum x.1 p.n).2) else if p.kind = 1 then ((rdText x.1 p.n).1, wrText x.2 (rdText x.1 p.n).2) else
  if p.kind = 2 then ((rdRow x.1 p.n).1, wrRow x.2 (rdRow x.1 p.n).2) else if p.kind = 3 then ((rdFlag x.1).1, wrFlag x.2 (rdFlag x.1).2) else x
theorem pcRW_inv {x : RdS × WrS} {p : Pc} {s : ByteArray} (hs : s.size ≤ 3000) (h1 : x.1.ok) (h2 : Upto x.1 x.2) (h3 : x.1.s = s) :
    (pcRW x p).1.ok ∧ Upto (pcRW x p).1 (pcRW x p).2 ∧ (pcRW x p).1.s = s ∧ (pcRW x p).2.s.length ≤ x.2.s.length + 10000 := by
  subst h3
  unfold pcRW
  split
  · exact ⟨rdNum_ok h1 _, first_num h1 _ _ h2, rdNum_s _ _, by have := wrNum_len x.2 (rdNum x.1 p.n).2; dsimp only; omega⟩
  · split
    · exact ⟨rdText_ok h1 _, first_text h1 _ _ h2, rdText_s _ _, by have := wrText_len x.2 (rdText x.1 p.n).2; have := rdText_len (r := x.1) p.n; dsimp only; omega⟩
    · split
      · exact ⟨rdRow_ok h1 _, first_row h1 _ _ h2, rdRow_s _ _, by have := wrRow_len x.2 (rdRow x.1 p.n).2; have := rdRow_len x.1 p.n; dsimp only; omega⟩
      · split
        · exact ⟨rdFlag_ok h1, first_flag h1 _ h2, rdFlag_s _, by have := wrFlag_len x.2 (rdFlag x.1).2; dsimp only; omega⟩
        · exact ⟨h1, h2, rfl, by omega⟩
theorem rd_new_ok {s : ByteArray} (h : s.size ≤ 1000000) : (RdS.new s).ok := ⟨Int.le_refl 0, by show (0 : Int) ≤ s.size; omega, h⟩
theorem upto_new (s : ByteArray) : Upto (RdS.new s) WrS.new := fun _ => ⟨rfl, by simp [RdS.new, WrS.new]⟩
theorem upto_end {r : RdS} {w : WrS} (hr : r.ok) (h : Upto r w) (he : (rdEnd r).e = 0) : w.out = r.s ∧ w.e = 0 := by
  unfold rdEnd at he
  have h1 : ¬ (r.e = 0 ∧ r.at_ < r.s.size) := by
    intro h2; rw [if_pos h2, moved_e _ _ _ _ h2.1] at he; cases he
  rw [if_neg h1] at he
  obtain ⟨h2, h3⟩ := h he
  refine ⟨?_, h2⟩
  unfold WrS.out
  rw [if_pos h2, h3]
  apply bl_inj
  rw [bl_bs, List.take_of_length_le (by rw [bl_len]; have := hr.2.1; omega)]
end Go.Proofs.YthogpkmidffdeaaDoor
