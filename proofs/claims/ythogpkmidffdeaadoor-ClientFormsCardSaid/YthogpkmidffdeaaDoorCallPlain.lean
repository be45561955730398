/- Calls, replies, and their bytes: the plain law. -/
import Derived.Test.YthogpkmidffdeaaDoorTextPlain
namespace Go.Proofs.YthogpkmidffdeaaDoor
set_option linter.unusedVariables false
set_option linter.unusedSimpArgs false
open NumP
set_option linter.unusedVariables false
set_option linter.unusedSimpArgs false
structure Ln where
  item : Int
  qty : Int
deriving DecidableEq
instance : Inhabited Ln := ⟨⟨0, 0⟩⟩
structure Cl where
  client : Int
  seq : Int
  kind : Int
  item : Int
  to_ : Int
  qty : Int
  lines : List Ln
deriving DecidableEq
instance : Inhabited Cl := ⟨⟨0, 0, 0, 0, 0, 0, []⟩⟩
def Cl.zero : Cl := ⟨0, 0, 0, 0, 0, 0, []⟩
def numbP (n : Int) : Bool := decide (1 ≤ n) && decide (n ≤ 99999)
def someP (n : Int) : Bool := decide (1 ≤ n) && decide (n ≤ 1000000)
def okAt (l : List Ln) (k : Nat) : Bool := numbP (l.getD k default).item && (decide (k = 0) || decide ((l.getD (k - 1) default).item < (l.getD k default).item)) && someP (l.getD k default).qty
def linesP (l : List Ln) : Bool := decide (0 < l.length) && decide (l.length ≤ 5) && (List.range l.length).all (okAt l)
def lastAt (l : List Ln) (k : Nat) : Int := if k = 0 then 0 else (l.getD (k - 1) default).item
def bareP (c : Cl) : Bool := decide (c.to_ = 0) && decide (c.lines.length = 0) && numbP c.item
def mayP (c : Cl) : Bool :=
  if c.kind = 1 then bareP c && (decide (c.qty = 0) || someP c.qty) else if c.kind = 2 ∨ c.kind = 3 ∨ c.kind = 4 ∨ c.kind = 5 then bareP c && someP c.qty else
  if c.kind = 6 then numbP c.item && numbP c.to_ && !decide (c.to_ = c.item) && someP c.qty && decide (c.lines.length = 0) else if c.kind = 7 then bareP c && decide (c.qty = 0) else
  decide (c.item = 0) && decide (c.to_ = 0) && decide (c.qty = 0) && linesP c.lines
def checkP (c : Cl) : Int := if c.kind < 1 ∨ 8 < c.kind then 30 else if (numbP c.client && numbP c.seq && mayP c) = true then 0 else 2
theorem okAt_iff (l : List Ln) (k : Nat) (h : numbP (l.getD k default).item = true) : (decide (k = 0) || decide ((l.getD (k - 1) default).item < (l.getD k default).item)) = decide (lastAt l k < (l.getD k default).item) := by
  unfold lastAt
  by_cases h0 : k = 0
  · subst h0
    unfold numbP at h; simp at h
    simp; omega
  · simp [h0]
theorem linesP_no {l : List Ln} {k : Nat} (hk : k < l.length) (h : okAt l k = false) : linesP l = false := by
  have : (List.range l.length).all (okAt l) = false := List.all_eq_false.2 ⟨k, List.mem_range.2 hk, by simp [h]⟩
  unfold linesP; rw [this, Bool.and_false]
theorem linesP_yes {l : List Ln} (h : ∀ k, k < l.length → okAt l k = true) : linesP l = (decide (0 < l.length) && decide (l.length ≤ 5)) := by
  have : (List.range l.length).all (okAt l) = true := List.all_eq_true.2 fun k hk => h k (List.mem_range.1 hk)
  unfold linesP; rw [this, Bool.and_true]
/-! ### bytes -/
def flatL (l : List Ln) : List Int := l.flatMap fun x => [x.item, x.qty]
def headC (c : Cl) : List Int := [c.client, c.seq, c.kind, c.item, c.to_, c.qty]
def layC (c : Cl) : WrS := wrRow (wrNums WrS.new (headC c)) (flatL c.lines)
def putC (c : Cl) : ByteArray := if checkP c = 0 then (layC c).out else ⟨#[]⟩
def tCall : ByteArray := ⟨#[99, 97, 108, 108]⟩
def tTake : ByteArray := ⟨#[116, 97, 107, 101]⟩
def tReply : ByteArray := ⟨#[114, 101, 112, 108, 121]⟩
theorem flatL_len (l : List Ln) : (flatL l).length = 2 * l.length := by
  induction l with
  | nil => rfl
  | cons x l ih => simp [flatL] at ih ⊢; omega
theorem flatL_take (l : List Ln) (k : Nat) (h : k < l.length) : flatL (l.take (k + 1)) = flatL (l.take k) ++ [(l.getD k default).item, (l.getD k default).qty] := by
  unfold flatL; rw [List.take_succ_eq_append_getElem h, List.flatMap_append]; simp [List.getD, h]
theorem all_pos {l : List Ln} (h : linesP l = true) : ∀ x, x ∈ flatL l → 0 ≤ x ∧ x ≤ 1000000 := by
  unfold linesP at h
  simp only [Bool.and_eq_true, List.all_eq_true, List.mem_range] at h
  intro x hx
  obtain ⟨y, hy, hx⟩ := List.mem_flatMap.1 hx
  obtain ⟨k, hk, rfl⟩ := List.mem_iff_getElem.1 hy
  have := h.2 k hk
  simp [okAt, numbP, someP, List.getD, hk] at this
  simp at hx
  rcases hx with rfl | rfl <;> omega
theorem bare_lines {c : Cl} (h : bareP c = true) : c.lines = [] ∧ (1 ≤ c.item ∧ c.item ≤ 99999) ∧ c.to_ = 0 := by
  unfold bareP numbP at h; simp at h; exact ⟨h.1.2, by omega, h.1.1⟩
theorem len_zero {l : List Ln} (h : decide (l.length = 0) = true) : l = [] := List.length_eq_zero_iff.1 (by simpa using h)
/-- what a call that may be has -/
theorem check_ok {c : Cl} (h : checkP c = 0) : (1 ≤ c.client ∧ c.client ≤ 99999) ∧ (1 ≤ c.seq ∧ c.seq ≤ 99999) ∧ (1 ≤ c.kind ∧ c.kind ≤ 8) ∧ (0 ≤ c.item ∧ c.item ≤ 99999) ∧ (0 ≤ c.to_ ∧ c.to_ ≤ 99999) ∧ (0 ≤ c.qty ∧ c.qty ≤ 1000000) ∧ c.lines.length ≤ 5 ∧ ∀ x, x ∈ flatL c.lines → 0 ≤ x ∧ x ≤ 1000000 := by
  unfold checkP at h
  split at h
  · cases h
  · rename_i hk
    split at h
    · rename_i hm
      simp only [Bool.and_eq_true] at hm
      obtain ⟨⟨h1, h2⟩, h3⟩ := hm
      simp only [numbP, Bool.and_eq_true, decide_eq_true_eq] at h1 h2
      refine ⟨h1, h2, by omega, ?_⟩
      unfold mayP at h3
      split at h3
      · simp only [Bool.and_eq_true] at h3
        obtain ⟨hl, hi, ht⟩ := bare_lines h3.1
        have hq := h3.2; simp [someP] at hq
        rw [hl]; exact ⟨by omega, by omega, by omega, by simp, by simp [flatL]⟩
      · split at h3
        · simp only [Bool.and_eq_true] at h3
          obtain ⟨hl, hi, ht⟩ := bare_lines h3.1
          have hq := h3.2; simp [someP] at hq
          rw [hl]; exact ⟨by omega, by omega, by omega, by simp, by simp [flatL]⟩
        · split at h3
          · simp only [Bool.and_eq_true] at h3
            have hl := len_zero h3.2
            have h4 := h3.1
            simp [numbP, someP] at h4
            rw [hl]; exact ⟨by omega, by omega, by omega, by simp, by simp [flatL]⟩
          · split at h3
            · simp only [Bool.and_eq_true] at h3
              obtain ⟨hl, hi, ht⟩ := bare_lines h3.1
              have hq := h3.2; simp at hq
              rw [hl]; exact ⟨by omega, by omega, by omega, by simp, by simp [flatL]⟩
            · simp only [Bool.and_eq_true, decide_eq_true_eq] at h3
              have hlen : c.lines.length ≤ 5 := by
                have := h3.2; unfold linesP at this; simp only [Bool.and_eq_true, decide_eq_true_eq] at this; exact this.1.2
              exact ⟨by omega, by omega, by omega, hlen, all_pos h3.2⟩
    · cases h
/-- a writer to which numbers that are none less than nothing were given -/
theorem wrNum_pos {w : WrS} (h : w.e = 0) {n : Int} (hn : 0 ≤ n) : wrNum w n = { w with s := w.s ++ (putN n).1 } := by
  unfold wrNum wrPut
  rw [if_neg (by omega), if_neg (by rw [putN_err, if_pos hn]; simp)]
theorem wrNums_pos (l : List Int) : ∀ {w : WrS}, w.e = 0 → (∀ x, x ∈ l → 0 ≤ x) → wrNums w l = { w with s := w.s ++ rowBytes l } := by
  induction l with
  | nil => intro w h _; simp [wrNums, rowBytes]
  | cons x l ih =>
    intro w h hl
    show wrNums (wrNum w x) l = _
    rw [wrNum_pos h (hl x List.mem_cons_self), ih (w := { w with s := w.s ++ (putN x).1 }) h (fun y hy => hl y (List.mem_cons_of_mem _ hy))]
    simp [rowBytes]
theorem nneg_of {l : List Int} (h : ∀ x, x ∈ l → 0 ≤ x) : nneg l = true := List.all_eq_true.2 fun x hx => decide_eq_true (h x hx)
theorem wrRow_pos {w : WrS} (h : w.e = 0) {l : List Int} (hl : ∀ x, x ∈ l → 0 ≤ x) : wrRow w l = { w with s := w.s ++ (rowN l).1 } := by
  unfold wrRow wrPut
  rw [if_neg (by omega), if_neg (by unfold rowN; rw [if_pos (nneg_of hl)]; simp)]
theorem head_pos {c : Cl} (h : checkP c = 0) : ∀ x, x ∈ headC c → 0 ≤ x ∧ x ≤ 1000000 := by
  have := check_ok h
  intro x hx
  simp [headC] at hx
  rcases hx with rfl | rfl | rfl | rfl | rfl | rfl <;> omega
theorem layC_ok {c : Cl} (h : checkP c = 0) : layC c = ⟨rowBytes (headC c) ++ (rowN (flatL c.lines)).1, ⟨#[]⟩, 0⟩ := by
  unfold layC
  rw [wrNums_pos _ rfl (fun x hx => (head_pos h x hx).1), wrRow_pos rfl (fun x hx => ((check_ok h).2.2.2.2.2.2.2 x hx).1)]
  rfl
/-! ### a call is taken -/
def pairsL : List Int → List Ln
  | a :: b :: r => ⟨a, b⟩ :: pairsL r
  | _ => []
/-- the reader behind so many numbers, and each number -/
def sixR (s : ByteArray) : Nat → RdS
  | 0 => RdS.new s
  | k + 1 => (rdNum (sixR s k) 2000000).1
def sixN (s : ByteArray) (k : Nat) : Int := (rdNum (sixR s k) 2000000).2
def sixL (s : ByteArray) : List Int := [sixN s 0, sixN s 1, sixN s 2, sixN s 3, sixN s 4, sixN s 5]
/-- a call is read: the reader, the numbers, the row -/
def rdCall (s : ByteArray) : RdS × List Int × List Int := (rdEnd (rdRow (sixR s 6) 10).1, sixL s, (rdRow (sixR s 6) 10).2)
theorem sixR_ok {s : ByteArray} (h : s.size ≤ 1000000) : ∀ k, (sixR s k).ok
  | 0 => ⟨Int.le_refl 0, by show (0 : Int) ≤ s.size; omega, h⟩
  | k + 1 => rdNum_ok (sixR_ok h k) _
def mkCall (n l : List Int) : Cl := ⟨n.getD 0 0, n.getD 1 0, n.getD 2 0, n.getD 3 0, n.getD 4 0, n.getD 5 0, pairsL l⟩
def takeE (s : ByteArray) : Int :=
  if (rdCall s).1.e ≠ 0 then (rdCall s).1.e else if (rdCall s).2.2.length % 2 = 1 then 5 else checkP (mkCall (rdCall s).2.1 (rdCall s).2.2)
def takeC (s : ByteArray) : Cl := if takeE s = 0 then mkCall (rdCall s).2.1 (rdCall s).2.2 else Cl.zero
def takeErr (s : ByteArray) : Er :=
  if (rdCall s).1.e ≠ 0 then Er.wrap tTake (errOf tRead (rdCall s).1.p (rdCall s).1.e) else if (rdCall s).2.2.length % 2 = 1 then Er.new tTake 5 else
  Er.wrap tTake (Er.new tCall (checkP (mkCall (rdCall s).2.1 (rdCall s).2.2)))
theorem check_two (c : Cl) : checkP c = 0 ∨ checkP c = 2 ∨ checkP c = 30 := by
  unfold checkP; split
  · simp
  · split <;> simp
theorem pairsL_flat (l : List Ln) : pairsL (flatL l) = l := by
  induction l with
  | nil => rfl
  | cons x l ih => show pairsL (x.item :: x.qty :: flatL l) = _; rw [pairsL, ih]
theorem flat_pairs : ∀ (n : Nat) (l : List Int), l.length = 2 * n → flatL (pairsL l) = l := by
  intro n
  induction n with
  | zero =>
    intro l h
    have : l = [] := List.length_eq_zero_iff.1 (by omega)
    subst this; rfl
  | succ n ih =>
    intro l h
    match l with
    | [] => simp at h
    | [a] => simp at h; omega
    | a :: b :: r =>
      show [a, b] ++ flatL (pairsL r) = _
      rw [ih r (by simp at h; omega)]; rfl
theorem pairsL_take (l : List Int) (k : Nat) (h : 2 * k + 1 < l.length) : pairsL (l.take (2 * (k + 1))) = pairsL (l.take (2 * k)) ++ [⟨l.getD (2 * k) default, l.getD (2 * k + 1) default⟩] := by
  induction k generalizing l with
  | zero =>
    match l with
    | [] => simp at h
    | [a] => simp at h
    | a :: b :: r => rfl
  | succ k ih =>
    match l with
    | [] => simp at h
    | [a] => simp at h
    | a :: b :: r =>
      have := ih r (by simp at h; omega)
      rw [show 2 * (k + 1 + 1) = 2 * (k + 1) + 1 + 1 by omega, show 2 * (k + 1) = 2 * k + 1 + 1 by omega, List.take_succ_cons, List.take_succ_cons, List.take_succ_cons, List.take_succ_cons, pairsL, pairsL]
      rw [show 2 * k + 1 + 1 = 2 * (k + 1) by omega, this]
      have e1 : (a :: b :: r).getD (2 * (k + 1)) default = r.getD (2 * k) default := by rw [show 2 * (k + 1) = 2 * k + 1 + 1 by omega]; rfl
      have e2 : (a :: b :: r).getD (2 * (k + 1) + 1) default = r.getD (2 * k + 1) default := by rw [show 2 * (k + 1) + 1 = 2 * k + 1 + 1 + 1 by omega]; rfl
      rw [e1, e2]; rfl
/-! ### replies -/
structure Rp where
  code : Int
  nums : List Int
deriving DecidableEq
def repE (r : Rp) : Int := if r.code < 0 ∨ 255 < r.code ∨ 20 < r.nums.length ∨ nneg r.nums = false then 2 else 0
def layR (r : Rp) : WrS := wrRow (wrNums WrS.new [r.code]) r.nums
def putR (r : Rp) : ByteArray := if repE r = 0 then (layR r).out else ⟨#[]⟩
def rdReply (s : ByteArray) : RdS × Int × List Int :=
  let a := rdNum (RdS.new s) 255
  let b := rdRow a.1 20
  (rdEnd b.1, a.2, b.2)
def takeR (s : ByteArray) : Rp := if (rdReply s).1.e ≠ 0 then ⟨0, []⟩ else ⟨(rdReply s).2.1, (rdReply s).2.2⟩
def takeRErr (s : ByteArray) : Er := Er.wrap tTake (errOf tRead (rdReply s).1.p (rdReply s).1.e)
theorem layR_ok {r : Rp} (h : repE r = 0) : layR r = ⟨(putN r.code).1 ++ (rowN r.nums).1, ⟨#[]⟩, 0⟩ := by
  unfold repE at h
  split at h
  · cases h
  · rename_i h0
    have hn : ∀ x, x ∈ r.nums → 0 ≤ x := by
      have : nneg r.nums = true := by cases hh : nneg r.nums <;> simp_all
      intro x hx
      have := List.all_eq_true.1 this x hx
      simpa using this
    unfold layR
    rw [wrNums_pos _ rfl (fun x hx => by simp at hx; subst hx; omega), wrRow_pos rfl hn]
    simp [WrS.new, rowBytes]
end Go.Proofs.YthogpkmidffdeaaDoor
