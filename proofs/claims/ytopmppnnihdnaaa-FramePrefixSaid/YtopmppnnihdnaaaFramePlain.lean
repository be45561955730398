/- Frames of bytes, in plain words: what is put is got, and what is got was put. -/
import Derived.Test.YtopmppnnihdnaaaNumPlain2
import Derived.Test.YtopmppnnihdnaaaCrcSealT
import Derived.Test.YtopmppnnihdnaaaBase
namespace Go.Proofs.Ytopmppnnihdnaaa
set_option linter.unusedVariables false
set_option linter.unusedSimpArgs false
open NumP
set_option linter.unusedVariables false
set_option linter.unusedSimpArgs false
abbrev closed := CrcT.closed
abbrev opened := CrcT.opened
theorem closed_len (l : List UInt8) : (closed l).length = l.length + 4 := by
  show (l ++ CrcP.be4 _).length = _
  rw [List.length_append]; rfl
theorem opened_closed (l : List UInt8) : opened (closed l) = (l, 0) := by
  have h0 : CrcT.crc (closed l) = 0#32 := by
    show CrcP.on _ (l ++ CrcP.be4 _) = _
    rw [CrcP.on_append]; exact (CrcP.on_four_iff _ _ rfl).2 rfl
  have hl := closed_len l
  show (if (closed l).length < 4 then _ else if CrcT.crc (closed l) ≠ 0#32 then _ else ((closed l).take ((closed l).length - 4), 0)) = _
  rw [if_neg (by omega), if_neg (by rw [h0]; simp), hl, show l.length + 4 - 4 = l.length by omega]
  show ((l ++ CrcP.be4 _).take _, (0 : Int)) = _
  simp
theorem closed_opened {x : List UInt8} (h : (opened x).2 = 0) : 4 ≤ x.length ∧ (opened x).1 = x.take (x.length - 4) ∧ x = closed (x.take (x.length - 4)) := by
  have e : opened x = (if x.length < 4 then ([], 4) else if CrcT.crc x ≠ 0#32 then ([], 7) else (x.take (x.length - 4), 0)) := rfl
  rw [e] at h
  split at h
  · simp at h
  · rename_i h4
    split at h
    · simp at h
    · rename_i hc
      refine ⟨by omega, by rw [e, if_neg h4, if_neg hc], ?_⟩
      have hx : x.take (x.length - 4) ++ x.drop (x.length - 4) = x := List.take_append_drop _ _
      have h0 : CrcT.crc x = 0#32 := by simpa using hc
      have h0 : CrcP.on CrcT.ini x = 0#32 := h0
      rw [← hx, CrcP.on_append] at h0
      have := (CrcP.on_four_iff _ _ (by rw [List.length_drop]; omega)).1 h0
      show x = x.take (x.length - 4) ++ CrcP.be4 _
      conv => lhs; rw [← hx]
      rw [this]; rfl
theorem opened_err (x : List UInt8) : (opened x).2 ≠ 0 → (opened x).1 = [] := by
  have e : opened x = (if x.length < 4 then ([], 4) else if CrcT.crc x ≠ 0#32 then ([], 7) else (x.take (x.length - 4), 0)) := rfl
  rw [e]; split
  · intro _; rfl
  · split
    · intro _; rfl
    · intro h; exact absurd rfl h
/-- a body's frame -/
def frm (l : List UInt8) : List UInt8 := closed ((putN l.length).1 ++ l)
theorem putN_pos {n : Int} (h : 0 ≤ n) : 1 ≤ (putN n).1.length := by
  unfold putN; rw [if_neg (by omega)]; split <;> simp
theorem frm_len (l : List UInt8) : (frm l).length = (putN l.length).1.length + l.length + 4 := by unfold frm; rw [closed_len, List.length_append]
theorem frm_ge (l : List UInt8) : 5 + l.length ≤ (frm l).length := by have := frm_len l; have := putN_pos (n := l.length) (by omega); omega
theorem frm_le (l : List UInt8) : (frm l).length ≤ l.length + 13 := by have := frm_len l; have := putN_len (l.length : Int); omega
/-- P8.1 -/
def putF (b : ByteArray) : ByteArray × Int := if 20000 < b.size then (⟨#[]⟩, 3) else (bs (frm (bl b)), 0)
def sizeF (b : ByteArray) : Int := if 20000 < b.size then 0 else ((frm (bl b)).length : Int)
/-- P8.2 -/
def getF (s : ByteArray) (p : Int) : ByteArray × Int × Int :=
  if (getN (bl s) p).2.2 ≠ 0 then (⟨#[]⟩, 0, (getN (bl s) p).2.2) else if 20000 < (getN (bl s) p).1 then (⟨#[]⟩, 0, 3) else
  if (s.size : Int) < (getN (bl s) p).2.1 + (getN (bl s) p).1 + 4 then (⟨#[]⟩, 0, 4) else
  if (opened (((bl s).take ((getN (bl s) p).2.1 + (getN (bl s) p).1 + 4).toNat).drop p.toNat)).2 ≠ 0 then (⟨#[]⟩, 0, (opened (((bl s).take ((getN (bl s) p).2.1 + (getN (bl s) p).1 + 4).toNat).drop p.toNat)).2) else
  (s.extract (getN (bl s) p).2.1.toNat ((getN (bl s) p).2.1 + (getN (bl s) p).1).toNat, (getN (bl s) p).2.1 + (getN (bl s) p).1 + 4, 0)
theorem getF_ok {s : ByteArray} {p : Int} (h : (getF s p).2.2 = 0) : 0 ≤ p ∧ (getF s p).1.size ≤ 20000 ∧ (getF s p).2.1 = p + ((frm (bl (getF s p).1)).length : Int) ∧ (getF s p).2.1 ≤ s.size ∧ ∃ r, (bl s).drop p.toNat = frm (bl (getF s p).1) ++ r := by
  have hlen := bl_len s
  have hx := get_least (bl s) p (getN (bl s) p).1 (getN (bl s) p).2.1
  unfold getF at h ⊢
  by_cases h1 : (getN (bl s) p).2.2 ≠ 0
  · rw [if_pos h1] at h; exact absurd h h1
  rw [if_neg h1] at h ⊢
  by_cases h2 : 20000 < (getN (bl s) p).1
  · rw [if_pos h2] at h; simp at h
  rw [if_neg h2] at h ⊢
  by_cases h3 : (s.size : Int) < (getN (bl s) p).2.1 + (getN (bl s) p).1 + 4
  · rw [if_pos h3] at h; simp at h
  rw [if_neg h3] at h ⊢
  obtain ⟨x0, x1, p0, pf, ft, hpn⟩ := hx (by rw [← Decidable.not_not.1 h1])
  generalize hX : (getN (bl s) p).1 = x at *
  generalize hT : (getN (bl s) p).2.1 = f at *
  by_cases h4 : (opened (((bl s).take (f + x + 4).toNat).drop p.toNat)).2 ≠ 0
  · rw [if_pos h4] at h; exact absurd h h4
  rw [if_neg h4] at h ⊢
  have h4 := Decidable.not_not.1 h4
  obtain ⟨q1, q2, q3⟩ := closed_opened h4
  have hb : bl (s.extract f.toNat (f + x).toNat) = ((bl s).take (f + x).toNat).drop f.toNat := bl_extract _ _ _
  have hbl : (bl (s.extract f.toNat (f + x).toNat)).length = x.toNat := by
    rw [hb, List.length_drop, List.length_take]; omega
  have hpl : (((bl s).take (f + x + 4).toNat).drop p.toNat).length = (f + x + 4).toNat - p.toNat := by
    rw [List.length_drop, List.length_take]; omega
  have hpt : (((bl s).take (f + x + 4).toNat).drop p.toNat).take ((((bl s).take (f + x + 4).toNat).drop p.toNat).length - 4) = (putN x).1 ++ bl (s.extract f.toNat (f + x).toNat) := by
    rw [hpl, ← hpn, hb, List.take_drop, List.take_take, show p.toNat + ((f + x + 4).toNat - p.toNat - 4) = (f + x).toNat by omega, Nat.min_eq_left (by omega)]
    exact cut_join _ _ _ _ (by omega) (by omega)
  rw [hpt] at q3
  have hfr : frm (bl (s.extract f.toNat (f + x).toNat)) = ((bl s).take (f + x + 4).toNat).drop p.toNat := by
    unfold frm; rw [hbl, show ((x.toNat : Nat) : Int) = x by omega]; exact q3.symm
  refine ⟨p0, ?_, ?_, ?_, ?_⟩
  · show (s.extract f.toNat (f + x).toNat).size ≤ 20000
    rw [← bl_len, hbl]; omega
  · show f + x + 4 = p + _
    rw [hfr, hpl]; omega
  · show f + x + 4 ≤ s.size; omega
  · show ∃ r, (bl s).drop p.toNat = frm (bl (s.extract f.toNat (f + x).toNat)) ++ r
    rw [hfr]
    refine ⟨(bl s).drop (f + x + 4).toNat, ?_⟩
    have := cut_join (bl s) p.toNat (f + x + 4).toNat (bl s).length (by omega) (by omega)
    rw [List.take_length] at this; exact this
theorem getF_mk {s : ByteArray} {p : Int} {b : ByteArray} {r : List UInt8} (hp : 0 ≤ p) (hp2 : p ≤ s.size) (hb : b.size ≤ 20000) (h : (bl s).drop p.toNat = frm (bl b) ++ r) : getF s p = (b, p + ((frm (bl b)).length : Int), 0) := by
  have hlen := bl_len s
  have hbl := bl_len b
  obtain ⟨k, rfl⟩ := Int.eq_ofNat_of_zero_le hp
  rw [Int.toNat_natCast] at h
  have hk : (bl s).take k ++ (bl s).drop k = bl s := List.take_append_drop _ _
  have hkl : ((bl s).take k).length = k := by rw [List.length_take]; omega
  have hs : bl s = (bl s).take k ++ ((putN b.size).1 ++ (bl b ++ (CrcP.be4 (CrcT.crc ((putN b.size).1 ++ bl b)) ++ r))) := by
    conv => lhs; rw [← hk, h]
    unfold frm
    rw [hbl]
    show _ ++ (((putN b.size).1 ++ bl b) ++ CrcP.be4 _ ++ r) = _
    simp [List.append_assoc]
  have hg : getN (bl s) (k : Int) = ((b.size : Int), (k : Int) + ((putN b.size).1.length : Int), 0) := by
    have := get_put ((bl s).take k) (bl b ++ (CrcP.be4 (CrcT.crc ((putN b.size).1 ++ bl b)) ++ r)) b.size (by omega) (by omega)
    rw [← hs, hkl] at this; exact this
  have hfl := frm_len (bl b)
  rw [hbl] at hfl
  have htot : k + (frm (bl b)).length ≤ s.size := by
    have : ((bl s).drop k).length = (frm (bl b)).length + r.length := by rw [h, List.length_append]
    rw [List.length_drop] at this; omega
  have hpc : ((bl s).take (k + (frm (bl b)).length)).drop k = frm (bl b) := by
    rw [List.drop_take, h, show k + (frm (bl b)).length - k = (frm (bl b)).length by omega, List.take_left]
  have hto : ((k : Int) + ((putN b.size).1.length : Int) + (b.size : Int) + 4).toNat = k + (frm (bl b)).length := by omega
  unfold getF
  rw [hg]
  dsimp only
  rw [if_neg (by simp), if_neg (by omega), if_neg (by omega), hto, Int.toNat_natCast, hpc, show (opened (frm (bl b))).2 = 0 from by unfold frm; rw [opened_closed], if_neg (by simp)]
  refine Prod.ext ?_ (Prod.ext ?_ rfl)
  · apply bl_inj
    show bl (s.extract _ _) = bl b
    rw [bl_extract]
    have e1 : ((k : Int) + ((putN b.size).1.length : Int)).toNat = k + (putN b.size).1.length := by omega
    have e2 : ((k : Int) + ((putN b.size).1.length : Int) + (b.size : Int)).toNat = k + (putN b.size).1.length + b.size := by omega
    rw [e1, e2, List.drop_take, show k + (putN b.size).1.length + b.size - (k + (putN b.size).1.length) = b.size by omega, ← List.drop_drop, h]
    unfold frm
    rw [hbl]
    show ((((putN b.size).1 ++ bl b) ++ CrcP.be4 _ ++ r).drop _).take _ = _
    rw [List.append_assoc, List.append_assoc, List.drop_left, ← hbl, List.take_left]
  · show (k : Int) + ((putN b.size).1.length : Int) + (b.size : Int) + 4 = k + ((frm (bl b)).length : Int)
    omega
theorem getF_bad {s : ByteArray} {p : Int} (h : (getF s p).2.2 ≠ 0) : (getF s p).1 = ⟨#[]⟩ ∧ (getF s p).2.1 = 0 := by
  unfold getF at h ⊢
  split
  · exact ⟨rfl, rfl⟩
  · rename_i h1
    rw [if_neg h1] at h
    split
    · exact ⟨rfl, rfl⟩
    · rename_i h2
      rw [if_neg h2] at h
      split
      · exact ⟨rfl, rfl⟩
      · rename_i h3
        rw [if_neg h3] at h
        split
        · exact ⟨rfl, rfl⟩
        · rename_i h4
          rw [if_neg h4] at h; exact absurd rfl h
/-- frames, one behind the other -/
def frs (s : ByteArray) : Nat → Int → List (Int × ByteArray)
  | 0, _ => []
  | k + 1, p => if (getF s p).2.2 = 0 then ((getF s p).2.1, (getF s p).1) :: frs s k (getF s p).2.1 else []
def lastTo (xs : List (Int × ByteArray)) : Int := xs.foldl (fun _ x => x.1) 0
theorem lastTo_snoc (xs : List (Int × ByteArray)) (x : Int × ByteArray) : lastTo (xs ++ [x]) = x.1 := by unfold lastTo; rw [List.foldl_append]; rfl
def allX (s : ByteArray) : List (Int × ByteArray) := frs s (s.size + 1) 0
/-- P8.3 -/
def allP (s : ByteArray) : List ByteArray × Int := ((allX s).map (·.2), lastTo (allX s))
theorem frs_step {s : ByteArray} {k : Nat} {p : Int} (h : (getF s p).2.2 = 0) : frs s (k + 1) p = ((getF s p).2.1, (getF s p).1) :: frs s k (getF s p).2.1 := if_pos h
theorem frs_stop {s : ByteArray} {p : Int} (h : (getF s p).2.2 ≠ 0) : ∀ k, frs s k p = []
  | 0 => rfl
  | k + 1 => if_neg h
theorem getF_lt {s : ByteArray} {p : Int} (h : (getF s p).2.2 = 0) : 0 ≤ p ∧ p + 5 ≤ (getF s p).2.1 ∧ (getF s p).2.1 ≤ s.size := by
  obtain ⟨h1, _, h2, h3, _⟩ := getF_ok h
  have := frm_ge (bl (getF s p).1)
  omega
theorem frs_zero {s : ByteArray} {p : Int} (h : 0 ≤ p) (h2 : s.size < p) : ∀ k, frs s k p = [] := frs_stop fun e => by have := getF_lt e; omega
/-- enough is enough -/
theorem frs_more {s : ByteArray} : ∀ (k j : Nat) (p : Int), 0 ≤ p → (s.size : Int) < p + 5 * k → frs s (k + j) p = frs s k p := by
  intro k
  induction k with
  | zero => intro j p h0 h; exact frs_zero h0 (by omega) _
  | succ k ih =>
    intro j p h0 h
    by_cases e : (getF s p).2.2 = 0
    · have hlt := getF_lt e
      rw [show k + 1 + j = (k + j) + 1 by omega, frs_step e, frs_step e, ih j _ (by omega) (by omega)]
    · rw [frs_stop e, frs_stop e]
theorem frs_len {s : ByteArray} : ∀ (k : Nat) (p : Int), 0 ≤ p → p ≤ s.size → 5 * ((frs s k p).length : Int) + p ≤ s.size := by
  intro k
  induction k with
  | zero => intro p h0 h1; simpa [frs] using h1
  | succ k ih =>
    intro p h0 h1
    by_cases e : (getF s p).2.2 = 0
    · have hlt := getF_lt e
      have := ih (getF s p).2.1 (by omega) (by omega)
      rw [frs_step e, List.length_cons]; omega
    · rw [frs_stop e]; simpa using h1
theorem allX_len (s : ByteArray) : 5 * (allX s).length ≤ s.size := by have := frs_len (s := s) (s.size + 1) 0 (by omega) (by omega); unfold allX; omega
/-- one more of them -/
theorem frs_go {s : ByteArray} {k : Nat} {p : Int} (h0 : 0 ≤ p) (hk : (s.size : Int) < p + 5 * (k + 1)) (e : (getF s p).2.2 = 0) : frs s (k + 1) p = ((getF s p).2.1, (getF s p).1) :: frs s (k + 1) (getF s p).2.1 := by
  have hlt := getF_lt e
  rw [frs_step e, frs_more k 1 _ (by omega) (by omega)]
/-- where a reading stands: these have come, at p -/
def At (s : ByteArray) (pre : List (Int × ByteArray)) (p : Int) : Prop := 0 ≤ p ∧ p ≤ s.size ∧ p = lastTo pre ∧ pre ++ frs s (s.size + 1) p = allX s
theorem at_start (s : ByteArray) : At s [] 0 := ⟨by omega, by omega, rfl, rfl⟩
theorem at_go {s : ByteArray} {pre : List (Int × ByteArray)} {p : Int} (h : At s pre p) (e : (getF s p).2.2 = 0) : At s (pre ++ [((getF s p).2.1, (getF s p).1)]) (getF s p).2.1 := by
  obtain ⟨h0, h1, h2, h3⟩ := h
  have hlt := getF_lt e
  refine ⟨by omega, by omega, (lastTo_snoc pre ((getF s p).2.1, (getF s p).1)).symm, ?_⟩
  rw [← h3, List.append_assoc, frs_go h0 (by omega) e]; rfl
theorem at_stop {s : ByteArray} {pre : List (Int × ByteArray)} {p : Int} (h : At s pre p) (e : (getF s p).2.2 ≠ 0) : pre = allX s ∧ p = lastTo (allX s) := by
  obtain ⟨_, _, h2, h3⟩ := h
  rw [frs_stop e, List.append_nil] at h3
  exact ⟨h3, by rw [← h3]; exact h2⟩
theorem at_len {s : ByteArray} {pre : List (Int × ByteArray)} {p : Int} (h : At s pre p) : 5 * pre.length ≤ s.size := by
  have := allX_len s
  rw [← h.2.2.2, List.length_append] at this; omega
theorem at_len2 {s : ByteArray} {pre : List (Int × ByteArray)} {p : Int} (h : At s pre p) (e : (getF s p).2.2 = 0) : 5 * (pre.length + 1) ≤ s.size := by
  have := at_len (at_go h e)
  rwa [List.length_append] at this
/-- P8.1, many -/
def joinP (l : List ByteArray) : ByteArray × Int := if (l.all fun b => decide (b.size ≤ 20000)) = true then (bs (l.flatMap fun b => frm (bl b)), 0) else (⟨#[]⟩, 3)
end Go.Proofs.Ytopmppnnihdnaaa
