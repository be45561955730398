/- A disk as plain data. -/
import Derived.Test.YtfjmmebjfllciaaDoorAmDefer
namespace Go.Proofs.YtfjmmebjfllciaaDoor
set_option linter.unusedVariables false
set_option linter.unusedSimpArgs false
structure Fl where
  s : ByteArray
  safe : Int
  half : Bool
structure Dk where
  f0 : Fl
  f1 : Fl
  room : Int
  ops : Int
  arm : Int
  dead : Bool
structure Ch where
  keep : Int
  trash : ByteArray
  reset : Bool
def Dk.get (d : Dk) (j : Nat) : Fl := if j = 0 then d.f0 else d.f1
def Dk.set (d : Dk) (j : Nat) (x : Fl) : Dk := if j = 0 then { d with f0 := x } else { d with f1 := x }
def aFi (f : Fl) : AV := .agg [.str f.s, .int .i64 f.safe, .bool f.half]
def aDk (d : Dk) : List AV := [.str d.f0.s, .int .i64 d.f0.safe, .bool d.f0.half, .str d.f1.s, .int .i64 d.f1.safe, .bool d.f1.half, .int .i64 d.room, .int .i64 d.ops, .int .i64 d.arm, .bool d.dead]
def aCh (c : Ch) : AV := .agg [.int .i64 c.keep, .str c.trash, .bool c.reset]
@[simp] theorem noH_aDk (m : Nat) (d : Dk) : ∀ y, y ∈ aDk d → NoH m y := by simp [aDk]
theorem dk_s (d : Dk) (j : Nat) (h : j < 2) : (aDk d)[0 + j * 3 + 0]? = some (.str (d.get j).s) := by
  rcases (show j = 0 ∨ j = 1 by omega) with rfl | rfl <;> rfl
theorem dk_safe (d : Dk) (j : Nat) (h : j < 2) : (aDk d)[0 + j * 3 + 1]? = some (.int .i64 (d.get j).safe) := by
  rcases (show j = 0 ∨ j = 1 by omega) with rfl | rfl <;> rfl
theorem dk_len (d : Dk) : (aDk d).length = 10 := rfl
theorem dk_set_s (d : Dk) (j : Nat) (h : j < 2) (x : ByteArray) : (aDk d).take (0 + j * 3 + 0) ++ [AV.str x] ++ (aDk d).drop (0 + j * 3 + 0 + 1) = aDk (d.set j { d.get j with s := x }) := by
  rcases (show j = 0 ∨ j = 1 by omega) with rfl | rfl <;> rfl
theorem dk_set_safe (d : Dk) (j : Nat) (h : j < 2) (x : Int) : (aDk d).take (0 + j * 3 + 1) ++ [AV.int .i64 x] ++ (aDk d).drop (0 + j * 3 + 1 + 1) = aDk (d.set j { d.get j with safe := x }) := by
  rcases (show j = 0 ∨ j = 1 by omega) with rfl | rfl <;> rfl
theorem dk_set_half (d : Dk) (j : Nat) (h : j < 2) (x : Bool) : (aDk d).take (0 + j * 3 + 2) ++ [AV.bool x] ++ (aDk d).drop (0 + j * 3 + 2 + 1) = aDk (d.set j { d.get j with half := x }) := by
  rcases (show j = 0 ∨ j = 1 by omega) with rfl | rfl <;> rfl
theorem dk_set_f (d : Dk) (j : Nat) (h : j < 2) (x : Fl) : (aDk d).take (0 + j * 3) ++ [AV.str x.s, .int .i64 x.safe, .bool x.half] ++ (aDk d).drop (0 + j * 3 + 3) = aDk (d.set j x) := by
  rcases (show j = 0 ∨ j = 1 by omega) with rfl | rfl <;> rfl
def madeP (d : Dk) : Bool := decide (0 < d.room)
/-- why nothing can be done with a file -/
def upP (d : Dk) (at_ : Int) : Int := if d.room ≤ 0 then 1 else if d.dead = true then 20 else if at_ < 0 ∨ 2 ≤ at_ then 2 else 0
def opUp (d : Dk) : Dk := { d with ops := IntKind.i64.wrap (d.ops + 1) }
/-- an op -/
def opP (d : Dk) (done torn : Dk → Dk) : Dk × Int := if d.arm = 1 then (opUp (torn { d with arm := 0, dead := true }), 20) else (opUp (done { d with arm := max (d.arm - 1) 0 }), 0)
def layP (j : Nat) (s : ByteArray) (d : Dk) : Dk := d.set j { d.get j with s := (d.get j).s ++ s }
def syncP (j : Nat) (d : Dk) : Dk := d.set j { d.get j with safe := ((d.get j).s.size : Int) }
def clearP (j : Nat) (d : Dk) : Dk := d.set j ⟨⟨#[]⟩, 0, false⟩
def halfP (j : Nat) (d : Dk) : Dk := d.set j { d.get j with half := true }
def appendP (d : Dk) (at_ : Int) (s : ByteArray) : Dk × Int :=
  if upP d at_ ≠ 0 then (d, upP d at_) else if d.room - (d.f0.s.size : Int) - (d.f1.s.size : Int) < (s.size : Int) then (d, 22) else opP d (layP at_.toNat s) (layP at_.toNat s)
def syncFP (d : Dk) (at_ : Int) : Dk × Int := if upP d at_ ≠ 0 then (d, upP d at_) else opP d (syncP at_.toNat) id
def resetP (d : Dk) (at_ : Int) : Dk × Int := if upP d at_ ≠ 0 then (d, upP d at_) else opP d (clearP at_.toNat) (halfP at_.toNat)
def readP (d : Dk) (at_ : Int) : ByteArray × Int := if upP d at_ ≠ 0 then (⟨#[]⟩, upP d at_) else ((d.get at_.toNat).s, 0)
def syncedP (d : Dk) (at_ : Int) : Int := if d.room ≤ 0 ∨ at_ < 0 ∨ 2 ≤ at_ then 0 else (d.get at_.toNat).safe
def armP (d : Dk) (k : Int) : Dk × Int := if upP d 0 ≠ 0 then (d, upP d 0) else if k < 1 ∨ 1000000 < k then (d, 2) else ({ d with arm := k }, 0)
def offP (d : Dk) : Dk × Int := if d.room ≤ 0 then (d, 1) else ({ d with dead := true }, 0)
/-- what is left of a file -/
def keepP (f : Fl) (c : Ch) : Nat := min (max c.keep 0).toNat (f.s.size - f.safe.toNat)
def leftP (f : Fl) (c : Ch) : Fl :=
  if f.half = true ∧ c.reset = true then ⟨⟨#[]⟩, 0, false⟩ else
    let s := f.s.extract 0 (f.safe.toNat + keepP f c) ++ c.trash.extract 0 (min c.trash.size (f.s.size - f.safe.toNat - keepP f c))
    ⟨s, (s.size : Int), false⟩
def bootP (d : Dk) (a b : Ch) : Dk × Int := if d.room ≤ 0 then (d, 1) else ({ d with f0 := leftP d.f0 a, f1 := leftP d.f1 b, arm := 0, dead := false }, 0)
def deadP (d : Dk) : Bool := decide (d.room ≤ 0) || d.dead
def opsP (d : Dk) : Int := if d.room ≤ 0 then 0 else d.ops
/-- a disk that may be -/
structure DOk (d : Dk) : Prop where
  room : d.room ≤ 1000000
  s0 : 0 ≤ d.f0.safe ∧ d.f0.safe ≤ d.f0.s.size
  s1 : 0 ≤ d.f1.safe ∧ d.f1.safe ≤ d.f1.s.size
  full : (d.f0.s.size : Int) + d.f1.s.size ≤ max d.room 0
  ops : 0 ≤ d.ops
  arm : 0 ≤ d.arm ∧ d.arm ≤ 1000000
theorem upP_ok {d : Dk} {a : Int} (h : upP d a = 0) : 0 < d.room ∧ d.dead = false ∧ ∃ j : Nat, a = (j : Int) ∧ j < 2 := by
  unfold upP at h
  split at h
  · cases h
  · split at h
    · cases h
    · split at h
      · cases h
      · rename_i h1 h2 h3
        exact ⟨by omega, by simpa using h2, a.toNat, by omega, by omega⟩
/-- a call -/
structure ActP where
  kind : Int
  n : Int
  text : ByteArray
  a : Ch
  b : Ch
def aAct (x : ActP) : AV := .agg [.int .i64 x.kind, .int .i64 x.n, .str x.text, .int .i64 x.a.keep, .str x.a.trash, .bool x.a.reset, .int .i64 x.b.keep, .str x.b.trash, .bool x.b.reset]
def doP (d : Dk) (x : ActP) : Dk × ByteArray × Int :=
  if x.kind = 0 then ((appendP d x.n x.text).1, ⟨#[]⟩, (appendP d x.n x.text).2) else if x.kind = 1 then ((syncFP d x.n).1, ⟨#[]⟩, (syncFP d x.n).2)
  else if x.kind = 2 then ((resetP d x.n).1, ⟨#[]⟩, (resetP d x.n).2) else if x.kind = 3 then (d, (readP d x.n).1, (readP d x.n).2)
  else if x.kind = 4 then ((armP d x.n).1, ⟨#[]⟩, (armP d x.n).2) else if x.kind = 5 then ((offP d).1, ⟨#[]⟩, (offP d).2)
  else if x.kind = 6 then ((bootP d x.a x.b).1, ⟨#[]⟩, (bootP d x.a x.b).2) else (d, ⟨#[]⟩, 0)
/-- the reference's disk -/
structure RD where
  s0 : ByteArray
  s1 : ByteArray
  l0 : ByteArray
  l1 : ByteArray
  h0 : Bool
  h1 : Bool
  room : Int
  ops : Int
  arm : Int
  dead : Bool
def rdc (r : RD) : List AV := [.str r.s0, .str r.s1, .str r.l0, .str r.l1, .bool r.h0, .bool r.h1, .int .i64 r.room, .int .i64 r.ops, .int .i64 r.arm, .bool r.dead]
def aRD (r : RD) : AV := .agg (rdc r)
@[simp] theorem noH_rdc (m : Nat) (r : RD) : ∀ y, y ∈ rdc r → NoH m y := by simp [rdc]
@[simp] theorem noH_aRD (m : Nat) (r : RD) : NoH m (aRD r) := by simp [aRD, rdc]
def RD.s (r : RD) (j : Nat) : ByteArray := if j = 0 then r.s0 else r.s1
def RD.l (r : RD) (j : Nat) : ByteArray := if j = 0 then r.l0 else r.l1
def RD.setS (r : RD) (j : Nat) (x : ByteArray) : RD := if j = 0 then { r with s0 := x } else { r with s1 := x }
def RD.setL (r : RD) (j : Nat) (x : ByteArray) : RD := if j = 0 then { r with l0 := x } else { r with l1 := x }
def RD.setH (r : RD) (j : Nat) (x : Bool) : RD := if j = 0 then { r with h0 := x } else { r with h1 := x }
theorem rdc_len (r : RD) : (rdc r).length = 10 := rfl
theorem rd_s (r : RD) (j : Nat) (h : j < 2) : (rdc r)[0 + j * 1]? = some (.str (r.s j)) := by rcases (show j = 0 ∨ j = 1 by omega) with rfl | rfl <;> rfl
theorem rd_l (r : RD) (j : Nat) (h : j < 2) : (rdc r)[2 + j * 1]? = some (.str (r.l j)) := by rcases (show j = 0 ∨ j = 1 by omega) with rfl | rfl <;> rfl
theorem rd_set_s (r : RD) (j : Nat) (h : j < 2) (x : ByteArray) : (rdc r).take (0 + j * 1) ++ [AV.str x] ++ (rdc r).drop (0 + j * 1 + 1) = rdc (r.setS j x) := by rcases (show j = 0 ∨ j = 1 by omega) with rfl | rfl <;> rfl
theorem rd_set_l (r : RD) (j : Nat) (h : j < 2) (x : ByteArray) : (rdc r).take (2 + j * 1) ++ [AV.str x] ++ (rdc r).drop (2 + j * 1 + 1) = rdc (r.setL j x) := by rcases (show j = 0 ∨ j = 1 by omega) with rfl | rfl <;> rfl
theorem rd_set_h (r : RD) (j : Nat) (h : j < 2) (x : Bool) : (rdc r).take (4 + j * 1) ++ [AV.bool x] ++ (rdc r).drop (4 + j * 1 + 1) = rdc (r.setH j x) := by rcases (show j = 0 ∨ j = 1 by omega) with rfl | rfl <;> rfl
def wrongR (r : RD) (a : Int) : Int := if r.dead = true then 20 else if a ≠ 0 ∧ a ≠ 1 then 2 else 0
def goesR (r : RD) : RD × Bool := if r.arm = 1 then ({ r with ops := r.ops + 1, arm := 0, dead := true }, true) else if 0 < r.arm then ({ r with ops := r.ops + 1, arm := r.arm - 1 }, false) else ({ r with ops := r.ops + 1 }, false)
def appendR (r : RD) (a : Int) (x : ByteArray) : RD × Int :=
  if wrongR r a ≠ 0 then (r, wrongR r a) else if r.room < (r.s0.size : Int) + r.s1.size + r.l0.size + r.l1.size + x.size then (r, 22)
  else ((goesR r).1.setL a.toNat ((goesR r).1.l a.toNat ++ x), if (goesR r).2 = true then 20 else 0)
def syncR (r : RD) (a : Int) : RD × Int :=
  if wrongR r a ≠ 0 then (r, wrongR r a) else if (goesR r).2 = true then ((goesR r).1, 20) else (((goesR r).1.setS a.toNat ((goesR r).1.s a.toNat ++ (goesR r).1.l a.toNat)).setL a.toNat ⟨#[]⟩, 0)
def resetR (r : RD) (a : Int) : RD × Int :=
  if wrongR r a ≠ 0 then (r, wrongR r a) else if (goesR r).2 = true then ((goesR r).1.setH a.toNat true, 20) else ((((goesR r).1.setS a.toNat ⟨#[]⟩).setL a.toNat ⟨#[]⟩).setH a.toNat false, 0)
def readR (r : RD) (a : Int) : ByteArray × Int := if wrongR r a ≠ 0 then (⟨#[]⟩, wrongR r a) else (r.s a.toNat ++ r.l a.toNat, 0)
def armR (r : RD) (k : Int) : RD × Int := if r.dead = true then (r, 20) else if k < 1 ∨ 1000000 < k then (r, 2) else ({ r with arm := k }, 0)
def leftR (safe loose : ByteArray) (half : Bool) (c : Ch) : ByteArray :=
  if half = true ∧ c.reset = true then ⟨#[]⟩ else
    let k := min (max c.keep 0).toNat loose.size
    safe ++ loose.extract 0 k ++ c.trash.extract 0 (min c.trash.size (loose.size - k))
def bootR (r : RD) (a b : Ch) : RD := { r with s0 := leftR r.s0 r.l0 r.h0 a, s1 := leftR r.s1 r.l1 r.h1 b, l0 := ⟨#[]⟩, l1 := ⟨#[]⟩, h0 := false, h1 := false, arm := 0, dead := false }
def refDoP (r : RD) (x : ActP) : RD × ByteArray × Int :=
  if x.kind = 0 then ((appendR r x.n x.text).1, ⟨#[]⟩, (appendR r x.n x.text).2) else if x.kind = 1 then ((syncR r x.n).1, ⟨#[]⟩, (syncR r x.n).2)
  else if x.kind = 2 then ((resetR r x.n).1, ⟨#[]⟩, (resetR r x.n).2) else if x.kind = 3 then (r, (readR r x.n).1, (readR r x.n).2)
  else if x.kind = 4 then ((armR r x.n).1, ⟨#[]⟩, (armR r x.n).2) else if x.kind = 5 then ({ r with dead := true }, ⟨#[]⟩, 0)
  else if x.kind = 6 then (bootR r x.a x.b, ⟨#[]⟩, 0) else (r, ⟨#[]⟩, 0)
/-- a disk, as the reference has it -/
def refD (d : Dk) : RD := ⟨d.f0.s.extract 0 d.f0.safe.toNat, d.f1.s.extract 0 d.f1.safe.toNat, d.f0.s.extract d.f0.safe.toNat d.f0.s.size, d.f1.s.extract d.f1.safe.toNat d.f1.s.size, d.f0.half, d.f1.half, d.room, d.ops, d.arm, d.dead⟩
/-- a disk of the laws -/
structure DGo (d : Dk) (k : Nat) : Prop where
  ok : DOk d
  pos : 0 < d.room
  few : d.ops ≤ k
theorem DGo.full {d : Dk} {k : Nat} (h : DGo d k) : (d.f0.s.size : Int) + d.f1.s.size ≤ d.room := by have := h.ok.full; have := h.pos; omega
theorem opUp_ops {d : Dk} (h : d.ops ≤ 1000000 ∧ 0 ≤ d.ops) : (opUp d).ops = d.ops + 1 := IntWalk.i64_in _ (by omega)
theorem wrong_ref {d : Dk} (h : 0 < d.room) (a : Int) : wrongR (refD d) a = upP d a := by
  unfold wrongR upP
  rw [if_neg (show ¬ d.room ≤ 0 by omega)]
  show (if d.dead = true then (20 : Int) else _) = _
  split
  · rfl
  · split <;> split <;> first | rfl | omega
theorem ba_split (s : ByteArray) (n : Nat) : s.extract 0 n ++ s.extract n s.size = s := by
  apply ByteArray.ext
  simp only [ByteArray.data_append, ByteArray.data_extract]
  apply Array.toList_inj.1
  rw [Array.toList_append, Array.toList_extract, Array.toList_extract]
  have h : s.data.toList.length = s.size := Array.length_toList
  simp only [List.extract_eq_take_drop, Nat.sub_zero, List.drop_zero]
  rw [List.take_of_length_le (l := s.data.toList.drop n) (by rw [List.length_drop]; omega), List.take_append_drop]
theorem read_ref {d : Dk} (h : 0 < d.room) (a : Int) : readR (refD d) a = readP d a := by
  unfold readR readP
  rw [wrong_ref h]
  split
  · rfl
  · unfold RD.s RD.l Dk.get refD
    split <;> simp only [ba_split]
theorem set_size (s : ByteArray) (a b : Nat) (h : a ≤ b) (hb : b ≤ s.size) : (s.extract a b).size = b - a := by simp [ByteArray.size_extract]; omega
end Go.Proofs.YtfjmmebjfllciaaDoor
