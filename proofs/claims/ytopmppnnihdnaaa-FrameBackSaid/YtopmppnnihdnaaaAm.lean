/- The abstract machine: values as trees, what stands for them in memory, and what lasts. -/
import Derived.Test.YtopmppnnihdnaaaRg
import Derived.Test.YtopmppnnihdnaaaGlob
import Derived.WalkKit
import Derived.ProofKit
import Derived.Below
import Derived.Laws.AppendOwn
import Derived.Laws.CopyRow
import Derived.Lib.Builder
import Derived.Lib.AppendStr
namespace Go.Proofs.Ytopmppnnihdnaaa
set_option linter.unusedVariables false
set_option linter.unusedSimpArgs false
open Go.RowKit
/-- a value as a tree: slices and what is behind a pointer that nobody writes are values -/
inductive AV where
  | int (k : IntKind) (n : Int)
  | bool (b : Bool)
  | str (s : ByteArray)
  | raw (v : Value)
  | agg (cs : List AV)
  | tup (xs : List AV)
  | sl (xs : List AV)
  | lit (n : Nat) (e : TypeId) (us : List Value)
  | pe (cs : List AV)
  | box (i off : Nat)
  | own (i g : Nat)
  | elt (i g off : Nat)
  | fn (f : Fn) (first caps : List AV)
  | ifc (t : TypeId) (x : AV)
  | opt (c : Bool) (x : AV)
  | adr (T : TypeId)
  | buf (e : TypeId) (s : ByteArray)
deriving Inhabited
/-- its cells in memory -/
def AV.cells : AV → List AV
  | .agg cs => cs
  | x => [x]
/-- what stands for a thing that may be written: a block, a slice that grows -/
inductive Hd where
  | box (b : Nat)
  | row (v : Value) (g : Nat)
  | dead
  | guard (bs : List Nat)
  | bld (b : Nat) (v : Value)
def Hd.blks : Hd → List Nat
  | .box b => [b]
  | .row v _ => v.ownBlock.toList
  | .dead => []
  | .guard bs => bs
  | .bld b v => b :: v.ownBlock.toList
/-- where its cells lie -/
def Hd.cb : Hd → Option Nat
  | .box b => some b
  | .bld b _ => some b
  | _ => none
theorem Hd.cb_mem {h : Hd} {b : Nat} (hb : h.cb = some b) : b ∈ h.blks := by
  cases h <;> simp [Hd.cb] at hb <;> subst hb <;> simp [Hd.blks]
theorem opt_mem {o : Option Nat} {b : Nat} : b ∈ o.toList ↔ o = some b := by cases o <;> simp [eq_comm]
/-- a thing that may be written -/
inductive AO where
  | box (cs : List AV)
  | row (g : Nat) (e : TypeId) (z : Nat) (xs : List AV)
  | dead
  | guard
/-- what may become of it: it stays, it grows, it is no more -/
def Hd.to : Hd → Hd → Prop
  | .guard b, .guard b' => b = b'
  | .guard _, _ => False
  | _, .dead => True
  | .box b, .box b' => b = b'
  | .bld b _, .bld b' _ => b = b'
  | .row v g, .row v' g' => g < g' ∨ (g = g' ∧ v = v')
  | _, _ => False
theorem Hd.to_refl (h : Hd) : h.to h := by cases h <;> simp [Hd.to]
theorem Hd.to_trans {a b c : Hd} (h : a.to b) (k : b.to c) : a.to c := by
  cases a <;> cases b <;> cases c <;> first
    | exact h.elim
    | exact k.elim
    | trivial
    | (simp only [Hd.to] at h k ⊢; first | exact h.trans k | (rcases h with h | ⟨h, h'⟩ <;> rcases k with k | ⟨k, k'⟩ <;> first | (left; omega) | (right; exact ⟨h.trans k, h'.trans k'⟩)))
def Still (β : List Hd) (b : Nat) : Prop := ∀ h, h ∈ β → b ∉ h.blks
/-- v stands for the tree in world w -/
inductive VRep (β : List Hd) (w : World) : Value → AV → Prop where
  | int (k : IntKind) (n : Int) : VRep β w (.int k n) (.int k n)
  | bool (b : Bool) : VRep β w (.bool b) (.bool b)
  | str (s : ByteArray) : VRep β w (.string s) (.str s)
  | raw (v : Value) : VRep β w v (.raw v)
  | agg (vs : Array Value) (cs : List AV) (hl : vs.size = cs.length) (h : ∀ (j : Nat) (u : Value) (x : AV), vs[j]? = some u → cs[j]? = some x → VRep β w u x) : VRep β w (.agg vs) (.agg cs)
  | tup (vs : Array Value) (cs : List AV) (hl : vs.size = cs.length) (h : ∀ (j : Nat) (u : Value) (x : AV), vs[j]? = some u → cs[j]? = some x → VRep β w u x) : VRep β w (.tuple vs) (.tup cs)
  | slnil : VRep β w (.slice none 0 0) (.sl [])
  | slemp (a : Addr) (cap : Nat) (hm : cap ≤ maxLen) : VRep β w (.slice (some a) 0 cap) (.sl [])
  | lit (b n : Nat) (e : TypeId) (us : List Value) (hb : b < w.heap.size) (hS : Still β b) (h : w.heap[b]? = some (.cells us.toArray e (0, 0))) : VRep β w (.slice (some ⟨b, 0, none⟩) n n) (.lit n e us)
  | sl (b off cap z : Nat) (xs : List AV) (hc : xs.length ≤ cap) (hm : cap ≤ maxLen) (hb : b < w.heap.size) (hS : Still β b) (hz : ∀ x, x ∈ xs → x.cells.length = z)
      (hd : ∀ (i j : Nat) (x y : AV), xs[i]? = some x → x.cells[j]? = some y → ∃ u, w.cell? ⟨b, off + i * z + j, none⟩ = some u)
      (h : ∀ (i j : Nat) (x y : AV) (u : Value), xs[i]? = some x → x.cells[j]? = some y → w.cell? ⟨b, off + i * z + j, none⟩ = some u → VRep β w u y) : VRep β w (.slice (some ⟨b, off, none⟩) xs.length cap) (.sl xs)
  | pe (b off : Nat) (cs : List AV) (hb : b < w.heap.size) (hS : Still β b)
      (hd : ∀ (j : Nat) (y : AV), cs[j]? = some y → ∃ u, w.cell? ⟨b, off + j, none⟩ = some u)
      (h : ∀ (j : Nat) (y : AV) (u : Value), cs[j]? = some y → w.cell? ⟨b, off + j, none⟩ = some u → VRep β w u y) : VRep β w (.pointer (some ⟨b, off, none⟩)) (.pe cs)
  | box (b' i off : Nat) (hi : i < β.length) (h : ∀ x b, β[i]? = some x → x.cb = some b → b' = b) : VRep β w (.pointer (some ⟨b', off, none⟩)) (.box i off)
  | own (v : Value) (i g : Nat) (hi : i < β.length) (h : ∀ u g', β[i]? = some (.row u g') → g ≤ g' ∧ (g = g' → v = u)) (h1 : v.oneCell' = true := by rfl) : VRep β w v (.own i g)
  | elt (v : Value) (i g off : Nat) (hi : i < β.length) (h : ∀ u g', β[i]? = some (.row u g') → g ≤ g' ∧ (g = g' → ∃ gb, u.ownBlock = some gb ∧ v = .pointer (some ⟨gb, off, none⟩))) : VRep β w v (.elt i g off)
  | fn (f : Fn) (us vs : Array Value) (fs cs : List AV) (hl1 : us.size = fs.length) (hl : vs.size = cs.length) (h1 : ∀ (j : Nat) (u : Value) (x : AV), us[j]? = some u → fs[j]? = some x → VRep β w u x)
      (h : ∀ (j : Nat) (u : Value) (x : AV), vs[j]? = some u → cs[j]? = some x → VRep β w u x) : VRep β w (.func f us vs) (.fn f fs cs)
  | ifc (t : TypeId) (v : Value) (x : AV) (h : VRep β w v x) : VRep β w (.iface t v) (.ifc t x)
  | opt (c : Bool) (v : Value) (x : AV) (h : c = true → VRep β w v x) (h0 : c = false → v = undef) : VRep β w v (.opt c x)
  | adr (T : TypeId) (v : Value) : VRep β w v (.adr T)
  | buf (e : TypeId) (s : ByteArray) (v : Value) : VRep β w v (.buf e s)
/-- a later world, with what stands for its things -/
structure Ext (β : List Hd) (w : World) (β' : List Hd) (w' : World) : Prop where
  os : w'.os = w.os
  tape : w'.tape = w.tape
  output : w'.output = w.output
  size : w.heap.size ≤ w'.heap.size
  block : ∀ k, k < w.heap.size → Still β k → w'.heap[k]? = w.heap[k]?
  apart : ∀ k, k < w.heap.size → Still β k → Still β' k
  hd : ∀ (i : Nat) (h : Hd), β[i]? = some h → ∃ h', β'[i]? = some h' ∧ h.to h'
  guard : ∀ bs b, .guard bs ∈ β → b ∈ bs → b < w.heap.size → w'.heap[b]? = w.heap[b]?
theorem Ext.guard_mem {β : List Hd} {w : World} {β' : List Hd} {w' : World} (h : Ext β w β' w') {b : List Nat} (hb : .guard b ∈ β) : .guard b ∈ β' := by
  obtain ⟨i, hi, e⟩ := List.mem_iff_getElem.1 hb
  obtain ⟨x, h1, h2⟩ := h.hd i _ (by rw [List.getElem?_eq_getElem hi, e])
  cases x <;> simp only [Hd.to] at h2
  subst h2; exact List.mem_of_getElem? h1
theorem Ext.refl (β : List Hd) (w : World) : Ext β w β w := ⟨rfl, rfl, rfl, Nat.le_refl _, fun _ _ _ => rfl, fun _ _ h => h, fun _ h hh => ⟨h, hh, h.to_refl⟩, fun _ _ _ _ _ => rfl⟩
theorem Ext.trans {β β' β'' : List Hd} {w w' w'' : World} (h : Ext β w β' w') (k : Ext β' w' β'' w'') : Ext β w β'' w'' :=
  ⟨k.os.trans h.os, k.tape.trans h.tape, k.output.trans h.output, Nat.le_trans h.size k.size,
    fun i hi hs => (k.block i (Nat.lt_of_lt_of_le hi h.size) (h.apart i hi hs)).trans (h.block i hi hs),
    fun i hi hs => k.apart i (Nat.lt_of_lt_of_le hi h.size) (h.apart i hi hs), fun i x hx => by
      obtain ⟨y, h1, h2⟩ := h.hd i x hx
      obtain ⟨z, k1, k2⟩ := k.hd i y h1
      exact ⟨z, k1, Hd.to_trans h2 k2⟩, fun bs b hb hm hlt => (k.guard bs b (h.guard_mem hb) hm (Nat.lt_of_lt_of_le hlt h.size)).trans (h.guard bs b hb hm hlt)⟩
theorem Ext.of_below {w w' : World} (β : List Hd) (h : Below w.heap.size w w') : Ext β w β w' :=
  ⟨h.os, h.tape, h.output, h.size, fun k hk _ => h.block k hk, fun _ _ h => h, fun _ h hh => ⟨h, hh, h.to_refl⟩, fun _ b _ _ hb => h.block b hb⟩
theorem Ext.below {w w' : World} {β : List Hd} (h : Ext [] w β w') : Below w.heap.size w w' :=
  ⟨h.os, h.tape, h.output, h.size, fun k hk => h.block k hk (fun _ hm => by cases hm)⟩
theorem Ext.len_le {β β' : List Hd} {w w' : World} (hx : Ext β w β' w') {i : Nat} (hi : i < β.length) : i < β'.length := by
  obtain ⟨_, h1, _⟩ := hx.hd i _ (List.getElem?_eq_getElem hi)
  exact (List.getElem?_eq_some_iff.1 h1).1
theorem VRep.ext {β β' : List Hd} {w w' : World} (hx : Ext β w β' w') {v : Value} {X : AV} (h : VRep β w v X) : VRep β' w' v X := by
  induction h with
  | int k n => exact .int k n
  | bool b => exact .bool b
  | str s => exact .str s
  | raw v => exact .raw v
  | agg vs cs hl _ ih => exact .agg vs cs hl ih
  | tup vs cs hl _ ih => exact .tup vs cs hl ih
  | slnil => exact .slnil
  | slemp a cap hm => exact .slemp a cap hm
  | lit b n e us hb hS hh => exact .lit b n e us (Nat.lt_of_lt_of_le hb hx.size) (hx.apart b hb hS) ((hx.block b hb hS).trans hh)
  | sl b off cap z xs hc hm hb hS hz hd _ ih =>
    have hcell : ∀ p : Addr, p.block = b → w'.cell? p = w.cell? p := fun p hp => World.cell?_of_block (by rw [hp]; exact hx.block b hb hS)
    refine .sl b off cap z xs hc hm (Nat.lt_of_lt_of_le hb hx.size) (hx.apart b hb hS) hz (fun i j x y h1 h2 => ?_) (fun i j x y u h1 h2 h3 => ?_)
    · rw [hcell _ rfl]; exact hd i j x y h1 h2
    · rw [hcell _ rfl] at h3; exact ih i j x y u h1 h2 h3
  | pe b off cs hb hS hd _ ih =>
    have hcell : ∀ p : Addr, p.block = b → w'.cell? p = w.cell? p := fun p hp => World.cell?_of_block (by rw [hp]; exact hx.block b hb hS)
    refine .pe b off cs (Nat.lt_of_lt_of_le hb hx.size) (hx.apart b hb hS) (fun j y h1 => ?_) (fun j y u h1 h3 => ?_)
    · rw [hcell _ rfl]; exact hd j y h1
    · rw [hcell _ rfl] at h3; exact ih j y u h1 h3
  | box b0 i off hi h =>
    have hg : β[i]? = some β[i] := List.getElem?_eq_getElem hi
    refine .box b0 i off (hx.len_le hi) (fun x b hb hcb => h _ b hg ?_)
    obtain ⟨y, h1, h2⟩ := hx.hd i _ hg
    rw [h1] at hb; have e := Option.some.inj hb; subst e
    cases hy : β[i] with
    | box x => rw [hy] at h2; cases y <;> simp only [Hd.to] at h2 <;> first | (subst h2; exact hcb) | cases hcb
    | row v g => rw [hy] at h2; cases y <;> first | exact h2.elim | cases hcb
    | dead => rw [hy] at h2; cases y <;> first | exact h2.elim | cases hcb
    | guard b => rw [hy] at h2; cases y <;> first | exact h2.elim | cases hcb
    | bld x v => rw [hy] at h2; cases y <;> simp only [Hd.to] at h2 <;> first | (subst h2; exact hcb) | cases hcb
  | own v i g hi h ho =>
    have hg : β[i]? = some β[i] := List.getElem?_eq_getElem hi
    refine .own v i g (hx.len_le hi) (fun u g' hb => ?_) ho
    obtain ⟨y, h1, h2⟩ := hx.hd i _ hg
    rw [h1] at hb; cases hb
    cases hy : β[i] with
    | box x => rw [hy] at h2; exact h2.elim
    | dead => rw [hy] at h2; exact h2.elim
    | guard b => rw [hy] at h2; exact h2.elim
    | bld b v => rw [hy] at h2; exact h2.elim
    | row v2 g2 =>
      rw [hy] at h2 hg
      obtain ⟨k1, k2⟩ := h v2 g2 hg
      simp only [Hd.to] at h2
      rcases h2 with h2 | ⟨h2, h3⟩
      · exact ⟨by omega, fun e => by omega⟩
      · subst h2; subst h3; exact ⟨k1, k2⟩
  | elt v i g off hi h =>
    have hg : β[i]? = some β[i] := List.getElem?_eq_getElem hi
    refine .elt v i g off (hx.len_le hi) fun u g' hb => ?_
    obtain ⟨y, h1, h2⟩ := hx.hd i _ hg
    rw [h1] at hb; cases hb
    cases hy : β[i] with
    | box x => rw [hy] at h2; exact h2.elim
    | dead => rw [hy] at h2; exact h2.elim
    | guard b => rw [hy] at h2; exact h2.elim
    | bld b v => rw [hy] at h2; exact h2.elim
    | row v2 g2 =>
      rw [hy] at h2 hg
      obtain ⟨k1, k2⟩ := h v2 g2 hg
      simp only [Hd.to] at h2
      rcases h2 with h2 | ⟨h2, h3⟩
      · exact ⟨by omega, fun e => by omega⟩
      · subst h2; subst h3; exact ⟨k1, k2⟩
  | fn f us vs fs cs hl1 hl _ _ ih1 ih => exact .fn f us vs fs cs hl1 hl ih1 ih
  | ifc t v x _ ih => exact .ifc t v x ih
  | opt c v x _ h0 ih => exact .opt c v x ih h0
  | adr T v => exact .adr T v
  | buf e s v => exact .buf e s v
/-! ### what may be written, and how it lies -/
/-- not of a builder's own two cells -/
def AV.plainC : AV → Bool
  | .adr _ => false
  | .buf _ _ => false
  | _ => true
/-- a builder's two cells: its own address, or none; its bytes -/
def BldOk (w : World) (b : Nat) (T : TypeId) (arr : Array Value) (cs : List AV) (v : Value) : Prop :=
  ∃ e s, cs[0]? = some (.adr T) ∧ cs[1]? = some (.buf e s) ∧ arr[1]? = some v ∧ (arr[0]? = some (.pointer none) ∨ arr[0]? = some (.pointer (some ⟨b, 0, none⟩))) ∧
    w.ownsRow 0 e 1 v s.size (Lib.strCells s) ∧ v.ownBlock ≠ some b ∧ (s.size = 0 → v = .slice none 0 0)
def ORep (β : List Hd) (w : World) : Hd → AO → Prop
  | .box b, .box cs => ∃ arr T, w.heap[b]? = some (.cells arr T (0, 0)) ∧ arr.size = cs.length ∧ (∀ (j : Nat) (u : Value) (y : AV), arr[j]? = some u → cs[j]? = some y → VRep β w u y) ∧ cs.all AV.plainC = true
  | .row v g, .row g' e z xs => g = g' ∧ ∃ us, w.ownsRow 0 e z v xs.length us ∧ (∀ x, x ∈ xs → x.cells.length = z) ∧ ∀ (j : Nat) (u : Value) (y : AV), us[j]? = some u → (xs.flatMap AV.cells)[j]? = some y → VRep β w u y
  | .bld b v, .box cs => ∃ arr T, w.heap[b]? = some (.cells arr T (0, 0)) ∧ arr.size = cs.length ∧ (∀ (j : Nat) (u : Value) (y : AV), arr[j]? = some u → cs[j]? = some y → VRep β w u y) ∧ BldOk w b T arr cs v
  | .dead, .dead => True
  | .guard bs, .guard => ∀ b, b ∈ bs → b < w.heap.size
  | _, _ => False
/-- package-level variables that nobody writes, and what they hold -/
def GOk (β : List Hd) (w : World) : Prop := ∀ p, p ∈ globs → w.cell? ⟨p.1, 0, none⟩ = some p.2 ∧ p.1 < w.heap.size ∧ Still β p.1
theorem GOk.ext {β β' : List Hd} {w w' : World} (h : GOk β w) (hx : Ext β w β' w') : GOk β' w' := fun p hp => by
  obtain ⟨h1, h2, h3⟩ := h p hp
  exact ⟨by rw [World.cell?_of_block (a := ⟨p.1, 0, none⟩) (hx.block p.1 h2 h3)]; exact h1, Nat.lt_of_lt_of_le h2 hx.size, hx.apart p.1 h2 h3⟩
theorem GOk.weak {β β' : List Hd} {w : World} (h : GOk β w) (hs : ∀ b, Still β b → Still β' b) : GOk β' w := fun p hp => by
  obtain ⟨h1, h2, h3⟩ := h p hp
  exact ⟨h1, h2, hs _ h3⟩
structure HRel (β : List Hd) (H : List AO) (w : World) : Prop where
  gl : GOk β w
  len : β.length = H.length
  ob : ∀ (i : Nat) (o : AO) (h : Hd), H[i]? = some o → β[i]? = some h → ORep β w h o
  ap : ∀ (i j : Nat) (hi hj : Hd) (b : Nat), i ≠ j → β[i]? = some hi → β[j]? = some hj → b ∈ hi.blks → b ∉ hj.blks
theorem ownsRow_one {w : World} {base : Nat} {e : TypeId} {size : Nat} {v : Value} {n : Nat} {xs : List Value} (h : w.ownsRow base e size v n xs) : v.oneCell' = true := by
  rcases h.2 with ⟨rfl, _⟩ | ⟨g, cap, cur, rfl, _⟩ <;> rfl
theorem HRel.nil (w : World) (hg : GOk [] w) : HRel [] [] w := ⟨hg, rfl, fun i o h h1 => by simp at h1, fun i j hi hj b _ h1 => by simp at h1⟩
theorem ORep.blk_lt {β : List Hd} {w : World} {h : Hd} {o : AO} (ho : ORep β w h o) {b : Nat} (hb : b ∈ h.blks) : b < w.heap.size := by
  cases h <;> cases o <;> first | exact ho.elim | skip
  · obtain ⟨arr, T, h1, _⟩ := ho; simp only [Hd.blks, List.mem_singleton] at hb; subst hb; exact (Array.getElem?_eq_some_iff.1 h1).1
  · obtain ⟨_, us, h1, _⟩ := ho; exact (h1.lt b (opt_mem.1 hb)).2
  · cases hb
  · exact ho b hb
  · obtain ⟨arr, T, h1, _, _, e, s, _, _, _, _, h8, _⟩ := ho
    rcases List.mem_cons.1 hb with rfl | hb
    · exact (Array.getElem?_eq_some_iff.1 h1).1
    · exact (h8.lt b (opt_mem.1 hb)).2
theorem HRel.lt {β : List Hd} {H : List AO} {w : World} (h : HRel β H w) {i : Nat} {x : Hd} (hx : β[i]? = some x) {b : Nat} (hb : b ∈ x.blks) : b < w.heap.size := by
  have hi := (List.getElem?_eq_some_iff.1 hx).1
  rw [h.len] at hi
  exact (h.ob i _ x (List.getElem?_eq_getElem hi) hx).blk_lt hb
/-- a thing stays what it is, when its own block does -/
theorem ORep.ext {β β' : List Hd} {w w' : World} (hx : Ext β w β' w') {h : Hd} {o : AO} (ho : ORep β w h o) (hk : ∀ b, b ∈ h.blks → b < w.heap.size → w'.heap[b]? = w.heap[b]?) : ORep β' w' h o := by
  cases h <;> cases o <;> first | exact ho.elim | skip
  · obtain ⟨arr, T, h1, h2, h3, h4⟩ := ho
    exact ⟨arr, T, by rw [hk _ (List.mem_singleton.2 rfl) (Array.getElem?_eq_some_iff.1 h1).1]; exact h1, h2, fun j u y a b => (h3 j u y a b).ext hx, h4⟩
  · obtain ⟨hgg, us, h1, h2, h3⟩ := ho
    refine ⟨hgg, us, ⟨h1.1, ?_⟩, h2, fun j u y a b => (h3 j u y a b).ext hx⟩
    rcases h1.2 with h4 | ⟨g, cap, cur, h4, h5, h6, h7⟩
    · exact .inl h4
    · exact .inr ⟨g, cap, cur, h4, h5, by rw [hk g (opt_mem.2 (by rw [h4]; rfl)) (Array.getElem?_eq_some_iff.1 h6).1]; exact h6, h7⟩
  · trivial
  · exact fun b hb => Nat.lt_of_lt_of_le (ho b hb) hx.size
  · obtain ⟨arr, T, h1, h2, h3, e, s, k1, k2, k3, k4, k5, k6⟩ := ho
    refine ⟨arr, T, by rw [hk _ List.mem_cons_self (Array.getElem?_eq_some_iff.1 h1).1]; exact h1, h2, fun j u y a b => (h3 j u y a b).ext hx, e, s, k1, k2, k3, k4, ⟨k5.1, ?_⟩, k6⟩
    rcases k5.2 with h4 | ⟨g, cap, cur, h4, h5, h6, h7⟩
    · exact .inl h4
    · exact .inr ⟨g, cap, cur, h4, h5, by rw [hk g (List.mem_cons_of_mem _ (opt_mem.2 (by rw [h4]; rfl))) (Array.getElem?_eq_some_iff.1 h6).1]; exact h6, h7⟩
theorem HRel.below {β : List Hd} {H : List AO} {w w' : World} (h : HRel β H w) (k : Below w.heap.size w w') : HRel β H w' :=
  ⟨h.gl.ext (Ext.of_below β k), h.len, fun i o x h1 h2 => (h.ob i o x h1 h2).ext (Ext.of_below β k) (fun b _ hb => k.block b hb), h.ap⟩
/-! ### slots -/
abbrev Sl := List (Nat × AV)
def look : Sl → Nat → Option AV
  | [], _ => none
  | (k, X) :: r, t => bif Nat.beq k t then some X else look r t
def SRep (β : List Hd) (w : World) (a : Act) (σ : Sl) : Prop := ∀ t X, look σ t = some X → ∃ u, a.tmps[t]? = some u ∧ VRep β w u X
theorem SRep.ext {β β' : List Hd} {w w' : World} {a : Act} {σ : Sl} (h : SRep β w a σ) (hx : Ext β w β' w') : SRep β' w' a σ := fun t X ht => by
  obtain ⟨u, h1, h2⟩ := h t X ht
  exact ⟨u, h1, h2.ext hx⟩
def putS (σ : Sl) : Option Tmp → AV → Sl
  | none, _ => σ
  | some d, X => (d, X) :: σ
theorem look_put (σ : Sl) (d : Option Tmp) (X : AV) (t : Nat) : look (putS σ d X) t = if d = some t then some X else look σ t := by
  cases d with
  | none => simp [putS]
  | some d =>
    show (bif Nat.beq d t then some X else look σ t) = _
    by_cases h : d = t
    · subst h; simp
    · have : Nat.beq d t = false := by cases hb : Nat.beq d t with | false => rfl | true => exact absurd (Nat.eq_of_beq_eq_true hb) h
      rw [this, if_neg (by simpa using h)]; rfl
def keepS (ks : List Nat) (σ : Sl) : Sl := ks.filterMap fun t => (look σ t).map fun X => (t, X)
theorem look_keep (ks : List Nat) (σ : Sl) (t : Nat) (X : AV) (h : look (keepS ks σ) t = some X) : look σ t = some X := by
  induction ks with
  | nil => cases h
  | cons k ks ih =>
    unfold keepS at h
    rw [List.filterMap_cons] at h
    cases hk : look σ k with
    | none => rw [hk] at h; exact ih h
    | some Y =>
      rw [hk] at h
      change (bif Nat.beq k t then some Y else look (keepS ks σ) t) = some X at h
      by_cases e : k = t
      · subst e; simp at h; rw [hk, h]
      · have : Nat.beq k t = false := by cases hb : Nat.beq k t with | false => rfl | true => exact absurd (Nat.eq_of_beq_eq_true hb) e
        rw [this] at h; exact ih h
theorem SRep.put {β : List Hd} {w : World} {a : Act} {σ : Sl} (h : SRep β w a σ) (d : Option Tmp) (hd : ∀ t, d = some t → t < a.tmps.size) {v : Value} {X : AV} (hv : VRep β w v X) : SRep β w (a.put d v) (putS σ d X) := by
  intro t Y ht
  rw [look_put] at ht
  by_cases e : d = some t
  · subst e
    rw [if_pos rfl] at ht
    cases ht
    exact ⟨v, by simp [Act.put, hd t rfl], hv⟩
  · rw [if_neg e] at ht
    obtain ⟨u, h1, h2⟩ := h t Y ht
    exact ⟨u, by rw [put_other _ _ _ _ e]; exact h1, h2⟩
end Go.Proofs.Ytopmppnnihdnaaa
