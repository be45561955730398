/- Pieces of bytes, laid and read: the plain law. -/
import Derived.Test.YthogpkmidffdeaaDoorNumAm
import Derived.Test.YthogpkmidffdeaaDoorNumPlain2
import Derived.Test.YthogpkmidffdeaaDoorErrLib
namespace Go.Proofs.YthogpkmidffdeaaDoor
set_option linter.unusedVariables false
set_option linter.unusedSimpArgs false
open NumP
set_option linter.unusedVariables false
set_option linter.unusedSimpArgs false
/-- the names of pieces -/
def tNum : ByteArray := ⟨#[110, 117, 109]⟩
def tText : ByteArray := ⟨#[116, 101, 120, 116]⟩
def tRow : ByteArray := ⟨#[114, 111, 119]⟩
def tFlag : ByteArray := ⟨#[102, 108, 97, 103]⟩
def tEnd : ByteArray := ⟨#[101, 110, 100]⟩
def tRead : ByteArray := ⟨#[114, 101, 97, 100]⟩
def tWrite : ByteArray := ⟨#[119, 114, 105, 116, 101]⟩
/-- an error, as it is wrapped -/
def errOf (op p : ByteArray) (e : Int) : Er := if e = 0 then .none else .wr op (.wr p (.no e))
theorem errOf_zero (op p : ByteArray) : errOf op p 0 = .none := if_pos rfl
theorem errOf_none (op p : ByteArray) (e : Int) : (errOf op p e).isNone = decide (e = 0) := by
  unfold errOf; split <;> simp_all [Er.isNone]
theorem errOf_isWr (op p : ByteArray) (e : Int) : (errOf op p e).isWr = !decide (e = 0) := by
  unfold errOf; split <;> simp_all [Er.isWr]
theorem errOf_mk (op p : ByteArray) (e : Int) : Er.wrap op (Er.new p e) = errOf op p e := by
  unfold errOf Er.wrap Er.new; split <;> simp [Er.isNone]
/-! ### a reader -/
structure RdS where
  s : ByteArray
  at_ : Int
  p : ByteArray
  e : Int
def RdS.new (s : ByteArray) : RdS := ⟨s, 0, ⟨#[]⟩, 0⟩
def RdS.ok (r : RdS) : Prop := 0 ≤ r.at_ ∧ r.at_ ≤ r.s.size ∧ r.s.size ≤ 1000000
def RdS.moved (r : RdS) (p : ByteArray) (to e : Int) : RdS := if e ≠ 0 then { r with p := p, e := e } else { r with at_ := to }
def numE (r : RdS) (most : Int) : Int := if (getN (bl r.s) r.at_).2.2 = 0 ∧ (getN (bl r.s) r.at_).1 > most then 3 else (getN (bl r.s) r.at_).2.2
def rdNum (r : RdS) (most : Int) : RdS × Int :=
  if r.e ≠ 0 then (r, 0) else (r.moved tNum (getN (bl r.s) r.at_).2.1 (numE r most), if numE r most ≠ 0 then 0 else (getN (bl r.s) r.at_).1)
def textE (r : RdS) (most : Int) : Int :=
  if (getN (bl r.s) r.at_).2.2 ≠ 0 then (getN (bl r.s) r.at_).2.2 else if (getN (bl r.s) r.at_).1 > most then 3 else if (getN (bl r.s) r.at_).1 > (r.s.size : Int) - (getN (bl r.s) r.at_).2.1 then 4 else 0
def rdText (r : RdS) (most : Int) : RdS × ByteArray :=
  if r.e ≠ 0 then (r, ⟨#[]⟩) else
  (r.moved tText ((getN (bl r.s) r.at_).2.1 + (getN (bl r.s) r.at_).1) (textE r most), if textE r most ≠ 0 then ⟨#[]⟩ else r.s.extract (getN (bl r.s) r.at_).2.1.toNat ((getN (bl r.s) r.at_).2.1 + (getN (bl r.s) r.at_).1).toNat)
def rdRow (r : RdS) (most : Int) : RdS × List Int :=
  if r.e ≠ 0 then (r, []) else (r.moved tRow (unrowN (bl r.s) r.at_ most).2.1 (unrowN (bl r.s) r.at_ most).2.2, (unrowN (bl r.s) r.at_ most).1)
def rdFlag (r : RdS) : RdS × Bool :=
  if r.e ≠ 0 then (r, false) else if r.at_ ≥ r.s.size then (r.moved tFlag 0 4, false) else
  if ((bl r.s).getD r.at_.toNat 0).toNat > 1 then (r.moved tFlag 0 5, false) else (r.moved tFlag (r.at_ + 1) 0, decide (((bl r.s).getD r.at_.toNat 0).toNat = 1))
def rdEnd (r : RdS) : RdS := if r.e = 0 ∧ r.at_ < r.s.size then r.moved tEnd 0 6 else r
theorem moved_ok {r : RdS} (h : r.ok) (p : ByteArray) (to e : Int) (ht : e = 0 → 0 ≤ to ∧ to ≤ r.s.size) : (r.moved p to e).ok := by
  unfold RdS.moved RdS.ok at *
  split
  · exact h
  · rename_i h0
    have := ht (by omega)
    exact ⟨this.1, this.2, h.2.2⟩
theorem unrowF_bd (l : List UInt8) (hl : l.length ≤ 1000000) (k : Nat) : ∀ (to : Int) (acc : List Int), 0 ≤ to → to ≤ l.length → 0 ≤ (unrowF l k to acc).2.1 ∧ (unrowF l k to acc).2.1 ≤ l.length := by
  induction k with
  | zero => intro to acc h1 h2; exact ⟨h1, h2⟩
  | succ k ih =>
    intro to acc h1 h2
    rw [unrow_step]
    split
    · dsimp only; omega
    · have := getN_bd l to hl
      exact ih _ _ this.2.2.1 this.2.2.2
theorem unrowN_bd (l : List UInt8) (hl : l.length ≤ 1000000) (p top : Int) : 0 ≤ (unrowN l p top).2.1 ∧ (unrowN l p top).2.1 ≤ l.length := by
  unfold unrowN
  split
  · dsimp only; omega
  · split
    · dsimp only; omega
    · have := getN_bd l p hl
      exact unrowF_bd l hl _ _ _ this.2.2.1 this.2.2.2
theorem rdNum_ok {r : RdS} (h : r.ok) (most : Int) : (rdNum r most).1.ok := by
  unfold rdNum
  split
  · exact h
  · have := getN_bd (bl r.s) r.at_ (by rw [bl_len]; exact h.2.2)
    rw [bl_len] at this
    exact moved_ok h _ _ _ fun _ => ⟨this.2.2.1, this.2.2.2⟩
theorem textE_zero {r : RdS} {most : Int} (h : textE r most = 0) : (getN (bl r.s) r.at_).2.2 = 0 ∧ (getN (bl r.s) r.at_).1 ≤ most ∧ (getN (bl r.s) r.at_).1 ≤ (r.s.size : Int) - (getN (bl r.s) r.at_).2.1 := by
  unfold textE at h
  split at h
  · rename_i h1; exact absurd h h1
  · rename_i h1
    split at h
    · cases h
    · split at h
      · cases h
      · omega
theorem rdText_ok {r : RdS} (h : r.ok) (most : Int) : (rdText r most).1.ok := by
  unfold rdText
  split
  · exact h
  · have := getN_bd (bl r.s) r.at_ (by rw [bl_len]; exact h.2.2)
    rw [bl_len] at this
    refine moved_ok h _ _ _ fun h0 => ?_
    have := textE_zero h0
    omega
theorem rdRow_ok {r : RdS} (h : r.ok) (most : Int) : (rdRow r most).1.ok := by
  unfold rdRow
  split
  · exact h
  · have := unrowN_bd (bl r.s) (by rw [bl_len]; exact h.2.2) r.at_ most
    rw [bl_len] at this
    exact moved_ok h _ _ _ fun _ => this
theorem rdFlag_ok {r : RdS} (h : r.ok) : (rdFlag r).1.ok := by
  unfold rdFlag
  split
  · exact h
  · split
    · exact moved_ok h _ _ _ (by simp)
    · split
      · exact moved_ok h _ _ _ (by simp)
      · have := h.1; exact moved_ok h _ _ _ fun _ => by omega
theorem rdEnd_ok {r : RdS} (h : r.ok) : (rdEnd r).ok := by
  unfold rdEnd
  split
  · exact moved_ok h _ _ _ (by simp)
  · exact h
theorem moved_s (r : RdS) (p : ByteArray) (to e : Int) : (r.moved p to e).s = r.s := by unfold RdS.moved; split <;> rfl
theorem moved_e (r : RdS) (p : ByteArray) (to e : Int) (h : r.e = 0) : (r.moved p to e).e = e := by
  unfold RdS.moved; split
  · rfl
  · rename_i h0; show r.e = e; omega
theorem rdNum_s (r : RdS) (most : Int) : (rdNum r most).1.s = r.s := by unfold rdNum; split <;> simp [moved_s]
theorem rdText_s (r : RdS) (most : Int) : (rdText r most).1.s = r.s := by unfold rdText; split <;> simp [moved_s]
theorem rdRow_s (r : RdS) (most : Int) : (rdRow r most).1.s = r.s := by unfold rdRow; split <;> simp [moved_s]
theorem rdFlag_s (r : RdS) : (rdFlag r).1.s = r.s := by unfold rdFlag; split <;> (try split) <;> (try split) <;> simp [moved_s]
theorem rdEnd_s (r : RdS) : (rdEnd r).s = r.s := by unfold rdEnd; split <;> simp [moved_s]
/-! ### a writer -/
structure WrS where
  s : List UInt8
  p : ByteArray
  e : Int
def WrS.new : WrS := ⟨[], ⟨#[]⟩, 0⟩
def WrS.out (w : WrS) : ByteArray := if w.e = 0 then bs w.s else ⟨#[]⟩
def wrPut (w : WrS) (p : ByteArray) (t : List UInt8) (e : Int) : WrS := if w.e ≠ 0 then w else if e ≠ 0 then { w with p := p, e := e } else { w with s := w.s ++ t }
def wrNum (w : WrS) (n : Int) : WrS := wrPut w tNum (putN n).1 (putN n).2
def wrNums (w : WrS) (l : List Int) : WrS := l.foldl wrNum w
def wrText (w : WrS) (s : ByteArray) : WrS := wrPut w tText ((putN s.size).1 ++ bl s) 0
def wrRow (w : WrS) (l : List Int) : WrS := wrPut w tRow (rowN l).1 (rowN l).2
def flagB (b : Bool) : ByteArray := if b then ⟨#[1]⟩ else ⟨#[0]⟩
def wrFlag (w : WrS) (b : Bool) : WrS := wrPut w tFlag (bl (flagB b)) 0
theorem wrPut_len (w : WrS) (p : ByteArray) (t : List UInt8) (e : Int) : (wrPut w p t e).s.length ≤ w.s.length + t.length := by
  unfold wrPut
  split
  · omega
  · split
    · dsimp only; omega
    · simp
theorem wrNum_len (w : WrS) (n : Int) : (wrNum w n).s.length ≤ w.s.length + 9 := Nat.le_trans (wrPut_len _ _ _ _) (by have := putN_len n; omega)
theorem wrNums_len (l : List Int) : ∀ (w : WrS), (wrNums w l).s.length ≤ w.s.length + 9 * l.length := by
  induction l with
  | nil => intro w; simp [wrNums]
  | cons x l ih =>
    intro w
    have h1 := ih (wrNum w x)
    have h2 := wrNum_len w x
    show (wrNums (wrNum w x) l).s.length ≤ _
    simp; omega
theorem wrNums_snoc (w : WrS) (l : List Int) (x : Int) : wrNums w (l ++ [x]) = wrNum (wrNums w l) x := by simp [wrNums]
theorem wrNums_succ (w : WrS) (l : List Int) (k : Nat) (h : k < l.length) : wrNums w (l.take (k + 1)) = wrNum (wrNums w (l.take k)) (l.getD k default) := by
  rw [List.take_succ_eq_append_getElem h, wrNums_snoc]; simp [List.getD, h]
theorem wrText_len (w : WrS) (s : ByteArray) : (wrText w s).s.length ≤ w.s.length + 9 + s.size := by
  refine Nat.le_trans (wrPut_len _ _ _ _) ?_
  have := putN_len s.size
  have := bl_len s
  simp; omega
theorem wrRow_len (w : WrS) (l : List Int) : (wrRow w l).s.length ≤ w.s.length + 9 * (l.length + 1) := Nat.le_trans (wrPut_len _ _ _ _) (by have := rowN_len l; omega)
theorem wrFlag_len (w : WrS) (b : Bool) : (wrFlag w b).s.length ≤ w.s.length + 1 := Nat.le_trans (wrPut_len _ _ _ _) (by cases b <;> exact Nat.le_refl _)
end Go.Proofs.YthogpkmidffdeaaDoor
