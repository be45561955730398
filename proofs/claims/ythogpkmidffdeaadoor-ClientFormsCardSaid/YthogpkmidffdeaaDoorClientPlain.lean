/- What clients asked and were told: the plain law. -/
import Derived.Test.YthogpkmidffdeaaDoorCallLaw
namespace Go.Proofs.YthogpkmidffdeaaDoor
set_option linter.unusedVariables false
set_option linter.unusedSimpArgs false
open NumP
set_option linter.unusedVariables false
set_option linter.unusedSimpArgs false
structure Co where
  client : Int
  seq : Int
  payload : ByteArray
  start : Int
  end_ : Int
  reply : ByteArray
deriving DecidableEq
instance : Inhabited Co := ⟨⟨0, 0, ⟨#[]⟩, 0, 0, ⟨#[]⟩⟩⟩
def encCo (x : Co) : List Value := [.int .i64 x.client, .int .i64 x.seq, .string x.payload, .int .i64 x.start, .int .i64 x.end_, .string x.reply]
theorem encCo_len (x : Co) : (encCo x).length = 6 := rfl
def momentP (n : Int) : Bool := decide (1 ≤ n) && decide (n ≤ 1000000)
def mayO (o : Co) : Bool :=
  decide (takeE o.payload = 0) && decide ((takeC o.payload).client = o.client) && decide ((takeC o.payload).seq = o.seq) && momentP o.start && (if o.end_ = 0 then decide (o.reply = ⟨#[]⟩) else decide (o.start < o.end_) && decide (o.end_ ≤ 1000000))
def aheadP (a b : Co) : Bool := decide (a.end_ ≠ 0) && decide (a.end_ < b.start)
/-- how the earlier one lies to a later one -/
def apartP (a o : Co) : Bool := decide (a.client ≠ o.client) || (aheadP a o && decide (a.seq < o.seq))
def okO (l : List Co) (i : Nat) : Bool :=
  mayO (l.getD i default) && (decide (i = 0) || decide ((l.getD (i - 1) default).start < (l.getD i default).start)) && (List.range i).all fun k => apartP (l.getD k default) (l.getD i default)
def checkO (l : List Co) : Int := if l.length ≤ 100 ∧ (List.range l.length).all (okO l) = true then 0 else 2
def ofP (l : List Co) (c : Int) : List Co := l.filter fun o => decide (o.client = c)
def openP (l : List Co) : List Co := l.filter fun o => decide (o.end_ = 0)
def lateP (l : List Co) (t : Int) : Bool := momentP t && !l.any fun o => decide (t ≤ o.start) || decide (t ≤ o.end_)
def hadOk (l : List Co) (i : Nat) : Bool :=
  if 0 < (ofP (l.take i) (l.getD i default).client).length then
    aheadP ((ofP (l.take i) (l.getD i default).client).getD ((ofP (l.take i) (l.getD i default).client).length - 1) default) (l.getD i default) && decide (((ofP (l.take i) (l.getD i default).client).getD ((ofP (l.take i) (l.getD i default).client).length - 1) default).seq < (l.getD i default).seq)
  else true
theorem last_at (p : Co → Bool) (l : List Co) : ∀ n, n ≤ l.length → ((l.take n).filter p = [] ∧ ∀ k, k < n → p (l.getD k default) = false) ∨
    ∃ m, m < n ∧ p (l.getD m default) = true ∧ 0 < ((l.take n).filter p).length ∧ ((l.take n).filter p).getD (((l.take n).filter p).length - 1) default = l.getD m default ∧ ∀ k, m < k → k < n → p (l.getD k default) = false := by
  intro n
  induction n with
  | zero => intro _; exact .inl ⟨rfl, fun k hk => by omega⟩
  | succ n ih =>
    intro hn
    have hg : l.getD n default = l[n] := by rw [List.getD, List.getElem?_eq_getElem (by omega)]; rfl
    rw [List.take_succ_eq_append_getElem (by omega), List.filter_append]
    by_cases hp : p l[n] = true
    · right
      refine ⟨n, by omega, by rw [hg]; exact hp, ?_, ?_, fun k h1 h2 => by omega⟩
      · simp [hp]
      · rw [hg]; simp [hp]
    · have hp0 : p l[n] = false := by simpa using hp
      have e : [l[n]].filter p = [] := by simp [hp0]
      rw [e, List.append_nil]
      rcases ih (by omega) with ⟨h1, h2⟩ | ⟨m, h1, h2, h3, h4, h5⟩
      · left
        refine ⟨h1, fun k hk => ?_⟩
        by_cases ek : k = n
        · subst ek; rw [hg]; exact hp0
        · exact h2 k (by omega)
      · right
        refine ⟨m, by omega, h2, h3, h4, fun k k1 k2 => ?_⟩
        by_cases ek : k = n
        · subst ek; rw [hg]; exact hp0
        · exact h5 k k1 (by omega)
theorem okO_parts {l : List Co} {i : Nat} (h : okO l i = true) : mayO (l.getD i default) = true ∧ (0 < i → (l.getD (i - 1) default).start < (l.getD i default).start) ∧ ∀ k, k < i → apartP (l.getD k default) (l.getD i default) = true := by
  unfold okO at h
  simp only [Bool.and_eq_true, Bool.or_eq_true, decide_eq_true_eq, List.all_eq_true, List.mem_range] at h
  exact ⟨h.1.1, fun h0 => by rcases h.1.2 with h1 | h1; omega; exact h1, h.2⟩
theorem mayO_end {o : Co} (h : mayO o = true) (h0 : o.end_ ≠ 0) : o.start < o.end_ := by
  unfold mayO at h
  rw [if_neg h0] at h
  simp only [Bool.and_eq_true, decide_eq_true_eq] at h
  exact h.2.1
theorem apart_same {a o : Co} (h : apartP a o = true) (hc : a.client = o.client) : (a.end_ ≠ 0 ∧ a.end_ < o.start) ∧ a.seq < o.seq := by
  unfold apartP aheadP at h
  simp only [Bool.or_eq_true, Bool.and_eq_true, decide_eq_true_eq] at h
  rcases h with h | h
  · exact absurd hc h
  · exact h
theorem apart_mk {a o : Co} (h : a.client = o.client → (a.end_ ≠ 0 ∧ a.end_ < o.start) ∧ a.seq < o.seq) : apartP a o = true := by
  unfold apartP aheadP
  simp only [Bool.or_eq_true, Bool.and_eq_true, decide_eq_true_eq]
  by_cases e : a.client = o.client
  · exact .inr (h e)
  · exact .inl e
theorem had_all {l : List Co} {i : Nat} (hi : i < l.length) (hok : ∀ j, j < i → okO l j = true) : hadOk l i = (List.range i).all fun k => apartP (l.getD k default) (l.getD i default) := by
  unfold hadOk
  rcases last_at (fun o => decide (o.client = (l.getD i default).client)) l i (by omega) with ⟨h1, h2⟩ | ⟨m, h1, h2, h3, h4, h5⟩
  · rw [if_neg (by unfold ofP; rw [h1]; simp)]
    symm
    rw [List.all_eq_true]
    intro k hk
    have := h2 k (List.mem_range.1 hk)
    exact apart_mk fun e => absurd e (by simpa using this)
  · have h3' : 0 < (ofP (l.take i) (l.getD i default).client).length := h3
    rw [if_pos h3']
    have h4' : (ofP (l.take i) (l.getD i default).client).getD ((ofP (l.take i) (l.getD i default).client).length - 1) default = l.getD m default := h4
    rw [h4']
    have hm : (l.getD m default).client = (l.getD i default).client := by simpa using h2
    rw [Bool.eq_iff_iff, List.all_eq_true]
    constructor
    · intro h k hk
      have hk := List.mem_range.1 hk
      simp only [aheadP, Bool.and_eq_true, decide_eq_true_eq] at h
      refine apart_mk fun e => ?_
      by_cases e1 : k = m
      · subst e1; exact h
      · by_cases e2 : m < k
        · have := h5 k e2 hk; exact absurd e (by simpa using this)
        · obtain ⟨o1, o2, o3⟩ := okO_parts (hok m h1)
          have a1 := apart_same (o3 k (by omega)) (e.trans hm.symm)
          have a2 := mayO_end o1 h.1.1
          omega
    · intro h
      have := apart_same (h m (List.mem_range.2 h1)) hm
      simp only [aheadP, Bool.and_eq_true, decide_eq_true_eq]
      exact this
def beginE (l : List Co) (t : Int) (p : ByteArray) : Int :=
  if checkO l ≠ 0 then 2 else if takeE p ≠ 0 then takeE p else if (l.any fun o => decide (o.client = (takeC p).client) && decide (o.end_ = 0)) = true then 41 else
  if (l.any fun o => decide (o.client = (takeC p).client) && decide ((takeC p).seq ≤ o.seq)) = true then 45 else if lateP l t = false then 2 else if 100 ≤ l.length then 8 else 0
def newO (t : Int) (p : ByteArray) : Co := ⟨(takeC p).client, (takeC p).seq, p, t, 0, ⟨#[]⟩⟩
def beginL (l : List Co) (t : Int) (p : ByteArray) : List Co := if beginE l t p = 0 then l ++ [newO t p] else []
def isO (c s : Int) (o : Co) : Bool := decide (o.end_ = 0) && decide (o.client = c) && decide (o.seq = s)
def endE (l : List Co) (t c s : Int) : Int := if checkO l ≠ 0 then 2 else if l.any (isO c s) = false then 31 else if lateP l t = false then 2 else 0
def endO (t c s : Int) (r : ByteArray) (o : Co) : Co := if isO c s o = true then { o with end_ := t, reply := r } else o
def endL (l : List Co) (t c s : Int) (r : ByteArray) : List Co := if endE l t c s = 0 then l.map (endO t c s r) else []
theorem check_len {l : List Co} (h : checkO l = 0) : l.length ≤ 100 := by
  unfold checkO at h; split at h
  · rename_i h1; exact h1.1
  · cases h
theorem check_at {l : List Co} (h : checkO l = 0) : ∀ i, i < l.length → okO l i = true := by
  unfold checkO at h; split at h
  · rename_i h1; exact fun i hi => List.all_eq_true.1 h1.2 i (List.mem_range.2 hi)
  · cases h
theorem check_two' (l : List Co) : checkO l = 0 ∨ checkO l = 2 := by unfold checkO; split <;> simp
theorem check_bad {l : List Co} {i : Nat} (hi : i < l.length) (h : okO l i = false) : checkO l = 2 := by
  unfold checkO; rw [if_neg]; rintro ⟨_, h2⟩
  have := List.all_eq_true.1 h2 i (List.mem_range.2 hi)
  rw [h] at this; cases this
theorem check_many {l : List Co} (h : 100 < l.length) : checkO l = 2 := by unfold checkO; rw [if_neg (by omega)]
theorem check_good {l : List Co} (h : l.length ≤ 100) (h2 : ∀ i, i < l.length → okO l i = true) : checkO l = 0 := by
  unfold checkO; rw [if_pos ⟨h, List.all_eq_true.2 fun i hi => h2 i (List.mem_range.1 hi)⟩]
end Go.Proofs.YthogpkmidffdeaaDoor
