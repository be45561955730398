/- The texts that the law TopDecode rests on, part 1: Rg, Glob, Am, AmRun, AmCode, AmOps, AmMem, AmBox, AmMake, AmCall, AmRow, AmEnd, Base, AmLib. -/
import Derived.WalkKit
import Derived.Orders
import Derived.Below
import Derived.StillTail
import Derived.ProofKit
import Derived.Laws.AppendOwn
import Derived.Laws.CopyRow
import Derived.Lib.Builder
import Derived.Lib.AppendStr
import Derived.IntWalk
import Derived.Laws.Slices
import Derived.Laws.Strings2
import Derived.Laws.NewFold
import Derived.Laws.Tables
import Derived.Maps.AppendAt
import Derived.Laws.AppendOwnNone
import Derived.Test.YtnlpojjfkgnhhaaGreatDoorRows
import Derived.OpenShut
import Derived.Handy
import Derived.WalkLawsBesides
import Derived.WalkSpells
import Derived.BigQuiet
import Derived.Deep.QuietTactic
import Derived.Deep.RegionWith
import Derived.Laws.BytesArg
import Derived.Lib.Hide
set_option linter.unusedVariables false
set_option linter.unusedSimpArgs false
set_option maxRecDepth 100000
set_option maxHeartbeats 1000000
namespace Go.Proofs.YtnlpojjfkgnhhaaGreatDoor
open Go.RowKit

def rgEdges (ops : Array Oper) (i : Nat) : List Nat := match ops[i]? with | some o => (o.after.toList.filter (Region.binds .any)).map (·.on) | none => []
def rgMask (acc : List Nat) (l : List Nat) : Nat := l.foldl (fun s e => s ||| (2 ^ e ||| acc.getD e 0)) 0
def rgM (ops : Array Oper) : Nat → List Nat
 | 0 => []
 | k + 1 => let m := rgM ops k; m ++ [rgMask m (rgEdges ops k)]
def rgDst (ops : Array Oper) (i : Nat) : Option Tmp := (ops[i]?).bind (·.dst)
def rgPred (ops : Array Oper) (j i : Nat) : Bool := ((rgM ops ops.size).getD i 0).testBit j
def rgApart (ops : Array Oper) (j i : Nat) : Bool := match ops[j]?, ops[i]? with | some x, some y => x.apart ops y | _, _ => true
def rgOk (ops : Array Oper) : Bool :=
 let m := rgM ops ops.size
 Region.noSelect ops && (List.range ops.size).all fun i => ((rgEdges ops i).all fun e => decide (e < i)) && (List.range i).all fun j => rgApart ops j i || (m.getD i 0).testBit j
theorem rgMask_bit (acc : List Nat) (j : Nat) : ∀ (l : List Nat) (s : Nat), (l.foldl (fun s e => s ||| (2 ^ e ||| acc.getD e 0)) s).testBit j = true → s.testBit j = true ∨ ∃ e, e ∈ l ∧ (j = e ∨ (acc.getD e 0).testBit j = true) := by
 intro l
 induction l with
 | nil => intro s h; exact .inl h
 | cons e l ih =>
   intro s h
   rw [List.foldl_cons] at h
   rcases ih _ h with h | ⟨x, hx, h⟩
   · rw [Nat.testBit_or, Nat.testBit_or, Bool.or_eq_true, Bool.or_eq_true] at h
     rcases h with h | h | h
     · exact .inl h
     · refine .inr ⟨e, List.mem_cons_self, .inl ?_⟩
       rw [Nat.testBit_two_pow] at h
       have : e = j := by simpa using h
       exact this.symm
     · exact .inr ⟨e, List.mem_cons_self, .inr h⟩
   · exact .inr ⟨x, List.mem_cons_of_mem _ hx, h⟩
theorem rgM_len (ops : Array Oper) (k : Nat) : (rgM ops k).length = k := by
 induction k with
 | zero => rfl
 | succ k ih => show (rgM ops k ++ [_]).length = _; simp [ih]
theorem rgM_sound (ops : Array Oper) (sel : Nat → Prop) (hcl : ∀ i, sel i → ∀ e, e ∈ rgEdges ops i → sel e) :
   ∀ k i j, i < k → (∀ e, e ∈ rgEdges ops i → sel e) → ((rgM ops k).getD i 0).testBit j = true → sel j := by
 intro k
 induction k with
 | zero => intro i j h; omega
 | succ k ih =>
   intro i j hi he hb
   have hm : rgM ops (k + 1) = rgM ops k ++ [rgMask (rgM ops k) (rgEdges ops k)] := rfl
   rw [hm] at hb
   by_cases h : i < k
   · rw [List.getD, List.getElem?_append_left (by rw [rgM_len]; exact h)] at hb
     exact ih i j h he hb
   · obtain rfl : i = k := by omega
     rw [List.getD, List.getElem?_append_right (by rw [rgM_len]; exact Nat.le_refl _), rgM_len, Nat.sub_self] at hb
     rcases rgMask_bit _ j _ _ hb with h0 | ⟨e, hmem, h0 | h0⟩
     · simp at h0
     · subst h0; exact he _ hmem
     · by_cases hek : e < i
       · exact ih e j hek (hcl e (he e hmem)) h0
       · rw [List.getD, List.getElem?_eq_none (by rw [rgM_len]; omega)] at h0
         simp at h0

inductive RV where
 | det (v : Value)
 | rel (V : Value → World → Prop)
def RV.val (env : Nat → Value) (i : Nat) : RV → Value | .det v => v | .rel _ => env i
def RV.ok (env : Nat → Value) (i : Nat) (W : World) : RV → Prop | .det _ => True | .rel V => V (env i) W
def RV.mono : RV → Prop | .det _ => True | .rel V => ∀ v W W', V v W → Below W.heap.size W W' → V v W'
section
variable (P : Program) (ops : Array Oper) (Q : Exit → Act → World → Prop) (w0 : World) (env : Nat → Value) (N : Nat)
end
section
variable {P : Program} {ops : Array Oper} {Q : Exit → Act → World → Prop} {w0 : World}
theorem put_size (a : Act) (d : Option Tmp) (v : Value) : (a.put d v).tmps.size = a.tmps.size := by cases d <;> simp [Act.put]
theorem put_def (a : Act) (d : Option Tmp) (v : Value) : (a.put d v).defers = a.defers := by cases d <;> rfl
theorem put_other (a : Act) (d : Option Tmp) (v : Value) (t : Tmp) (h : d ≠ some t) : (a.put d v).tmps[t]? = a.tmps[t]? := by
 cases d with
 | none => rfl
 | some d => have hne : d ≠ t := fun e => h (by rw [e]); simp [Act.put, Array.getElem?_setIfInBounds_ne hne]
theorem getD_set (l : Array Bool) (i j : Nat) (hi : i < l.size) : (l.setIfInBounds i true).getD j false = (decide (j = i) || l.getD j false) := by
 by_cases e : j = i
 · subst e; simp [Array.getD, hi]
 · have hne : i ≠ j := fun h => e h.symm
   simp [Array.getD_eq_getD_getElem?, Array.getElem?_setIfInBounds_ne hne, e]
end
section
variable {P : Program} {ops : Array Oper} {Q : Exit → Act → World → Prop} {w0 : World} {env : Nat → Value} {N : Nat}
end
end Go.Proofs.YtnlpojjfkgnhhaaGreatDoor
namespace Go.Proofs.YtnlpojjfkgnhhaaGreatDoor
def globs : List (Nat × Value) := [(0, .iface 199 (.agg #[.pointer (some ⟨1, 28, none⟩)]))]
abbrev MK := Int
abbrev mkv (k : MK) : Value := .int .i64 k
end Go.Proofs.YtnlpojjfkgnhhaaGreatDoor
namespace Go.Proofs.YtnlpojjfkgnhhaaGreatDoor
open Go.RowKit
inductive AV where
 | int (k : IntKind) (n : Int)
 | bool (b : Bool)
 | str (s : ByteArray)
 | raw (v : Value)
 | agg (cs : List AV)
 | tup (xs : List AV)
 | sl (xs : List AV)
 | lit (n : Nat) (e : TypeId) (us : List Value)
 | pe (cs : List AV)
 | box (i off : Nat)
 | own (i g : Nat)
 | elt (i g off : Nat)
 | fn (f : Fn) (first caps : List AV)
 | ifc (t : TypeId) (x : AV)
 | opt (c : Bool) (x : AV)
 | adr (T : TypeId)
 | buf (e : TypeId) (s : ByteArray)
 | mh (i : Nat)
 | mp (es : List (MK × Value))
 | rc (F : Nat) (cs : List AV)
deriving Inhabited
def AV.cells : AV → List AV
 | .agg cs => cs
 | x => [x]
inductive Hd where
 | box (b : Nat)
 | row (v : Value) (g : Nat)
 | dead
 | guard (bs : List Nat)
 | bld (b : Nat) (v : Value)
 | map (b : Nat)
def Hd.blks : Hd → List Nat
 | .box b => [b]
 | .row v _ => v.ownBlock.toList
 | .dead => []
 | .guard bs => bs
 | .bld b v => b :: v.ownBlock.toList
 | .map b => [b]
def Hd.cb : Hd → Option Nat
 | .box b => some b
 | .bld b _ => some b
 | .map b => some b
 | _ => none
theorem Hd.cb_mem {h : Hd} {b : Nat} (hb : h.cb = some b) : b ∈ h.blks := by
 cases h <;> simp [Hd.cb] at hb <;> subst hb <;> simp [Hd.blks]
theorem opt_mem {o : Option Nat} {b : Nat} : b ∈ o.toList ↔ o = some b := by cases o <;> simp [eq_comm]
inductive AO where
 | box (cs : List AV)
 | row (g : Nat) (e : TypeId) (z : Nat) (xs : List AV)
 | dead
 | guard
 | map (es : List (MK × Value))
def Hd.to : Hd → Hd → Prop
 | .guard b, .guard b' => b = b'
 | .guard _, _ => False
 | _, .dead => True
 | .box b, .box b' => b = b'
 | .bld b _, .bld b' _ => b = b'
 | .map b, .map b' => b = b'
 | .row v g, .row v' g' => g < g' ∨ (g = g' ∧ v = v')
 | _, _ => False
theorem Hd.to_refl (h : Hd) : h.to h := by cases h <;> simp [Hd.to]
theorem Hd.to_trans {a b c : Hd} (h : a.to b) (k : b.to c) : a.to c := by
 cases a <;> cases b <;> cases c <;> first
   | exact h.elim
   | exact k.elim
   | trivial
   | (simp only [Hd.to] at h k ⊢; first | exact h.trans k | (rcases h with h | ⟨h, h'⟩ <;> rcases k with k | ⟨k, k'⟩ <;> first | (left; omega) | (right; exact ⟨h.trans k, h'.trans k'⟩)))
def MapAt (w : World) (b : Nat) (es : List (MK × Value)) : Prop := ∃ ents clock, w.heap[b]? = some (.map ents clock) ∧ ents.toList.map (fun e => (e.key, e.val)) = es.map (fun p => (mkv p.1, p.2))
def Still (β : List Hd) (b : Nat) : Prop := ∀ h, h ∈ β → b ∉ h.blks
inductive VRep (β : List Hd) (w : World) : Value → AV → Prop where
 | int (k : IntKind) (n : Int) : VRep β w (.int k n) (.int k n)
 | bool (b : Bool) : VRep β w (.bool b) (.bool b)
 | str (s : ByteArray) : VRep β w (.string s) (.str s)
 | raw (v : Value) : VRep β w v (.raw v)
 | agg (vs : Array Value) (cs : List AV) (hl : vs.size = cs.length) (h : ∀ (j : Nat) (u : Value) (x : AV), vs[j]? = some u → cs[j]? = some x → VRep β w u x) : VRep β w (.agg vs) (.agg cs)
 | tup (vs : Array Value) (cs : List AV) (hl : vs.size = cs.length) (h : ∀ (j : Nat) (u : Value) (x : AV), vs[j]? = some u → cs[j]? = some x → VRep β w u x) : VRep β w (.tuple vs) (.tup cs)
 | slnil : VRep β w (.slice none 0 0) (.sl [])
 | slemp (a : Addr) (cap : Nat) (hm : cap ≤ maxLen) : VRep β w (.slice (some a) 0 cap) (.sl [])
 | lit (b n : Nat) (e : TypeId) (us : List Value) (hb : b < w.heap.size) (hS : Still β b) (h : w.heap[b]? = some (.cells us.toArray e (0, 0))) : VRep β w (.slice (some ⟨b, 0, none⟩) n n) (.lit n e us)
 | sl (b off cap z : Nat) (xs : List AV) (hc : xs.length ≤ cap) (hm : cap ≤ maxLen) (hb : b < w.heap.size) (hS : Still β b) (hz : ∀ x, x ∈ xs → x.cells.length = z)
     (hd : ∀ (i j : Nat) (x y : AV), xs[i]? = some x → x.cells[j]? = some y → ∃ u, w.cell? ⟨b, off + i * z + j, none⟩ = some u)
     (h : ∀ (i j : Nat) (x y : AV) (u : Value), xs[i]? = some x → x.cells[j]? = some y → w.cell? ⟨b, off + i * z + j, none⟩ = some u → VRep β w u y) : VRep β w (.slice (some ⟨b, off, none⟩) xs.length cap) (.sl xs)
 | pe (b off : Nat) (cs : List AV) (hb : b < w.heap.size) (hS : Still β b)
     (hd : ∀ (j : Nat) (y : AV), cs[j]? = some y → ∃ u, w.cell? ⟨b, off + j, none⟩ = some u)
     (h : ∀ (j : Nat) (y : AV) (u : Value), cs[j]? = some y → w.cell? ⟨b, off + j, none⟩ = some u → VRep β w u y) : VRep β w (.pointer (some ⟨b, off, none⟩)) (.pe cs)
 | box (b' i off : Nat) (hi : i < β.length) (h : ∀ x b, β[i]? = some x → x.cb = some b → b' = b) : VRep β w (.pointer (some ⟨b', off, none⟩)) (.box i off)
 | own (v : Value) (i g : Nat) (hi : i < β.length) (h : ∀ u g', β[i]? = some (.row u g') → g ≤ g' ∧ (g = g' → v = u)) (h1 : v.oneCell' = true := by rfl) : VRep β w v (.own i g)
 | elt (v : Value) (i g off : Nat) (hi : i < β.length) (h : ∀ u g', β[i]? = some (.row u g') → g ≤ g' ∧ (g = g' → ∃ gb, u.ownBlock = some gb ∧ v = .pointer (some ⟨gb, off, none⟩))) : VRep β w v (.elt i g off)
 | fn (f : Fn) (us vs : Array Value) (fs cs : List AV) (hl1 : us.size = fs.length) (hl : vs.size = cs.length) (h1 : ∀ (j : Nat) (u : Value) (x : AV), us[j]? = some u → fs[j]? = some x → VRep β w u x)
     (h : ∀ (j : Nat) (u : Value) (x : AV), vs[j]? = some u → cs[j]? = some x → VRep β w u x) : VRep β w (.func f us vs) (.fn f fs cs)
 | ifc (t : TypeId) (v : Value) (x : AV) (h : VRep β w v x) : VRep β w (.iface t v) (.ifc t x)
 | opt (c : Bool) (v : Value) (x : AV) (h : c = true → VRep β w v x) (h0 : c = false → v = undef) : VRep β w v (.opt c x)
 | adr (T : TypeId) (v : Value) : VRep β w v (.adr T)
 | buf (e : TypeId) (s : ByteArray) (v : Value) : VRep β w v (.buf e s)
 | mh (b' i : Nat) (hi : i < β.length) (h : ∀ x b, β[i]? = some x → x.cb = some b → b' = b) : VRep β w (.map (some b')) (.mh i)
 | mp (b : Nat) (es : List (MK × Value)) (hb : b < w.heap.size) (hS : Still β b) (h : MapAt w b es) : VRep β w (.map (some b)) (.mp es)
 | rc (b F : Nat) (vs : Array Value) (cs : List AV) (hb : b < w.heap.size) (hS : Still β b) (hc : w.cell? ⟨b, 0, none⟩ = some (.func (.func F) #[] (vs.push (.pointer (some ⟨b, 0, none⟩))))) (hl : vs.size = cs.length)
     (h : ∀ (j : Nat) (u : Value) (x : AV), vs[j]? = some u → cs[j]? = some x → VRep β w u x) : VRep β w (.pointer (some ⟨b, 0, none⟩)) (.rc F cs)
structure Ext (β : List Hd) (w : World) (β' : List Hd) (w' : World) : Prop where
 os : w'.os = w.os
 tape : w'.tape = w.tape
 output : w'.output = w.output
 size : w.heap.size ≤ w'.heap.size
 block : ∀ k, k < w.heap.size → Still β k → w'.heap[k]? = w.heap[k]?
 apart : ∀ k, k < w.heap.size → Still β k → Still β' k
 hd : ∀ (i : Nat) (h : Hd), β[i]? = some h → ∃ h', β'[i]? = some h' ∧ h.to h'
 guard : ∀ bs b, .guard bs ∈ β → b ∈ bs → b < w.heap.size → w'.heap[b]? = w.heap[b]?
theorem Ext.guard_mem {β : List Hd} {w : World} {β' : List Hd} {w' : World} (h : Ext β w β' w') {b : List Nat} (hb : .guard b ∈ β) : .guard b ∈ β' := by
 obtain ⟨i, hi, e⟩ := List.mem_iff_getElem.1 hb
 obtain ⟨x, h1, h2⟩ := h.hd i _ (by rw [List.getElem?_eq_getElem hi, e])
 cases x <;> simp only [Hd.to] at h2
 subst h2; exact List.mem_of_getElem? h1
theorem Ext.refl (β : List Hd) (w : World) : Ext β w β w := ⟨rfl, rfl, rfl, Nat.le_refl _, fun _ _ _ => rfl, fun _ _ h => h, fun _ h hh => ⟨h, hh, h.to_refl⟩, fun _ _ _ _ _ => rfl⟩
theorem Ext.trans {β β' β'' : List Hd} {w w' w'' : World} (h : Ext β w β' w') (k : Ext β' w' β'' w'') : Ext β w β'' w'' :=
 ⟨k.os.trans h.os, k.tape.trans h.tape, k.output.trans h.output, Nat.le_trans h.size k.size,
   fun i hi hs => (k.block i (Nat.lt_of_lt_of_le hi h.size) (h.apart i hi hs)).trans (h.block i hi hs),
   fun i hi hs => k.apart i (Nat.lt_of_lt_of_le hi h.size) (h.apart i hi hs), fun i x hx => by
     obtain ⟨y, h1, h2⟩ := h.hd i x hx
     obtain ⟨z, k1, k2⟩ := k.hd i y h1
     exact ⟨z, k1, Hd.to_trans h2 k2⟩, fun bs b hb hm hlt => (k.guard bs b (h.guard_mem hb) hm (Nat.lt_of_lt_of_le hlt h.size)).trans (h.guard bs b hb hm hlt)⟩
theorem Ext.of_below {w w' : World} (β : List Hd) (h : Below w.heap.size w w') : Ext β w β w' :=
 ⟨h.os, h.tape, h.output, h.size, fun k hk _ => h.block k hk, fun _ _ h => h, fun _ h hh => ⟨h, hh, h.to_refl⟩, fun _ b _ _ hb => h.block b hb⟩
theorem Ext.below {w w' : World} {β : List Hd} (h : Ext [] w β w') : Below w.heap.size w w' :=
 ⟨h.os, h.tape, h.output, h.size, fun k hk => h.block k hk (fun _ hm => by cases hm)⟩
theorem Ext.len_le {β β' : List Hd} {w w' : World} (hx : Ext β w β' w') {i : Nat} (hi : i < β.length) : i < β'.length := by
 obtain ⟨_, h1, _⟩ := hx.hd i _ (List.getElem?_eq_getElem hi)
 exact (List.getElem?_eq_some_iff.1 h1).1
theorem VRep.ext {β β' : List Hd} {w w' : World} (hx : Ext β w β' w') {v : Value} {X : AV} (h : VRep β w v X) : VRep β' w' v X := by
 induction h with
 | int k n => exact .int k n
 | bool b => exact .bool b
 | str s => exact .str s
 | raw v => exact .raw v
 | agg vs cs hl _ ih => exact .agg vs cs hl ih
 | tup vs cs hl _ ih => exact .tup vs cs hl ih
 | slnil => exact .slnil
 | slemp a cap hm => exact .slemp a cap hm
 | lit b n e us hb hS hh => exact .lit b n e us (Nat.lt_of_lt_of_le hb hx.size) (hx.apart b hb hS) ((hx.block b hb hS).trans hh)
 | sl b off cap z xs hc hm hb hS hz hd _ ih =>
   have hcell : ∀ p : Addr, p.block = b → w'.cell? p = w.cell? p := fun p hp => World.cell?_of_block (by rw [hp]; exact hx.block b hb hS)
   refine .sl b off cap z xs hc hm (Nat.lt_of_lt_of_le hb hx.size) (hx.apart b hb hS) hz (fun i j x y h1 h2 => ?_) (fun i j x y u h1 h2 h3 => ?_)
   · rw [hcell _ rfl]; exact hd i j x y h1 h2
   · rw [hcell _ rfl] at h3; exact ih i j x y u h1 h2 h3
 | pe b off cs hb hS hd _ ih =>
   have hcell : ∀ p : Addr, p.block = b → w'.cell? p = w.cell? p := fun p hp => World.cell?_of_block (by rw [hp]; exact hx.block b hb hS)
   refine .pe b off cs (Nat.lt_of_lt_of_le hb hx.size) (hx.apart b hb hS) (fun j y h1 => ?_) (fun j y u h1 h3 => ?_)
   · rw [hcell _ rfl]; exact hd j y h1
   · rw [hcell _ rfl] at h3; exact ih j y u h1 h3
 | box b0 i off hi h =>
   have hg : β[i]? = some β[i] := List.getElem?_eq_getElem hi
   refine .box b0 i off (hx.len_le hi) (fun x b hb hcb => h _ b hg ?_)
   obtain ⟨y, h1, h2⟩ := hx.hd i _ hg
   rw [h1] at hb; have e := Option.some.inj hb; subst e
   cases hy : β[i] with
   | box x => rw [hy] at h2; cases y <;> simp only [Hd.to] at h2 <;> first | (subst h2; exact hcb) | cases hcb
   | row v g => rw [hy] at h2; cases y <;> first | exact h2.elim | cases hcb
   | dead => rw [hy] at h2; cases y <;> first | exact h2.elim | cases hcb
   | guard b => rw [hy] at h2; cases y <;> first | exact h2.elim | cases hcb
   | bld x v => rw [hy] at h2; cases y <;> simp only [Hd.to] at h2 <;> first | (subst h2; exact hcb) | cases hcb
   | map x => rw [hy] at h2; cases y <;> simp only [Hd.to] at h2 <;> first | (subst h2; exact hcb) | cases hcb
 | own v i g hi h ho =>
   have hg : β[i]? = some β[i] := List.getElem?_eq_getElem hi
   refine .own v i g (hx.len_le hi) (fun u g' hb => ?_) ho
   obtain ⟨y, h1, h2⟩ := hx.hd i _ hg
   rw [h1] at hb; cases hb
   cases hy : β[i] with
   | box x => rw [hy] at h2; exact h2.elim
   | dead => rw [hy] at h2; exact h2.elim
   | guard b => rw [hy] at h2; exact h2.elim
   | bld b v => rw [hy] at h2; exact h2.elim
   | map b => rw [hy] at h2; exact h2.elim
   | row v2 g2 =>
     rw [hy] at h2 hg
     obtain ⟨k1, k2⟩ := h v2 g2 hg
     simp only [Hd.to] at h2
     rcases h2 with h2 | ⟨h2, h3⟩
     · exact ⟨by omega, fun e => by omega⟩
     · subst h2; subst h3; exact ⟨k1, k2⟩
 | elt v i g off hi h =>
   have hg : β[i]? = some β[i] := List.getElem?_eq_getElem hi
   refine .elt v i g off (hx.len_le hi) fun u g' hb => ?_
   obtain ⟨y, h1, h2⟩ := hx.hd i _ hg
   rw [h1] at hb; cases hb
   cases hy : β[i] with
   | box x => rw [hy] at h2; exact h2.elim
   | dead => rw [hy] at h2; exact h2.elim
   | guard b => rw [hy] at h2; exact h2.elim
   | bld b v => rw [hy] at h2; exact h2.elim
   | map b => rw [hy] at h2; exact h2.elim
   | row v2 g2 =>
     rw [hy] at h2 hg
     obtain ⟨k1, k2⟩ := h v2 g2 hg
     simp only [Hd.to] at h2
     rcases h2 with h2 | ⟨h2, h3⟩
     · exact ⟨by omega, fun e => by omega⟩
     · subst h2; subst h3; exact ⟨k1, k2⟩
 | fn f us vs fs cs hl1 hl _ _ ih1 ih => exact .fn f us vs fs cs hl1 hl ih1 ih
 | ifc t v x _ ih => exact .ifc t v x ih
 | opt c v x _ h0 ih => exact .opt c v x ih h0
 | adr T v => exact .adr T v
 | buf e s v => exact .buf e s v
 | mh b0 i hi h =>
   have hg : β[i]? = some β[i] := List.getElem?_eq_getElem hi
   refine .mh b0 i (hx.len_le hi) (fun x b hb hcb => h _ b hg ?_)
   obtain ⟨y, h1, h2⟩ := hx.hd i _ hg
   rw [h1] at hb; have e := Option.some.inj hb; subst e
   cases hy : β[i] with
   | box x => rw [hy] at h2; cases y <;> simp only [Hd.to] at h2 <;> first | (subst h2; exact hcb) | cases hcb
   | row v g => rw [hy] at h2; cases y <;> first | exact h2.elim | cases hcb
   | dead => rw [hy] at h2; cases y <;> first | exact h2.elim | cases hcb
   | guard b => rw [hy] at h2; cases y <;> first | exact h2.elim | cases hcb
   | bld x v => rw [hy] at h2; cases y <;> simp only [Hd.to] at h2 <;> first | (subst h2; exact hcb) | cases hcb
   | map x => rw [hy] at h2; cases y <;> simp only [Hd.to] at h2 <;> first | (subst h2; exact hcb) | cases hcb
 | mp b es hb hS hm => exact .mp b es (Nat.lt_of_lt_of_le hb hx.size) (hx.apart b hb hS) (by obtain ⟨ents, c, h1, h2⟩ := hm; exact ⟨ents, c, (hx.block b hb hS).trans h1, h2⟩)
 | rc b F vs cs hb hS hc hl _ ih => exact .rc b F vs cs (Nat.lt_of_lt_of_le hb hx.size) (hx.apart b hb hS) (by rw [World.cell?_of_block (a := ⟨b, 0, none⟩) (hx.block b hb hS)]; exact hc) hl ih
/-! ### what may be written, and how it lies -/
def AV.plainC : AV → Bool
 | .adr _ => false
 | .buf _ _ => false
 | _ => true
def BldOk (w : World) (b : Nat) (T : TypeId) (arr : Array Value) (cs : List AV) (v : Value) : Prop :=
 ∃ e s, cs[0]? = some (.adr T) ∧ cs[1]? = some (.buf e s) ∧ arr[1]? = some v ∧ (arr[0]? = some (.pointer none) ∨ arr[0]? = some (.pointer (some ⟨b, 0, none⟩))) ∧
   w.ownsRow 0 e 1 v s.size (Lib.strCells s) ∧ v.ownBlock ≠ some b ∧ (s.size = 0 → v = .slice none 0 0)
def ORep (β : List Hd) (w : World) : Hd → AO → Prop
 | .box b, .box cs => ∃ arr T, w.heap[b]? = some (.cells arr T (0, 0)) ∧ arr.size = cs.length ∧ (∀ (j : Nat) (u : Value) (y : AV), arr[j]? = some u → cs[j]? = some y → VRep β w u y) ∧ cs.all AV.plainC = true
 | .row v g, .row g' e z xs => g = g' ∧ ∃ us, w.ownsRow 0 e z v xs.length us ∧ (∀ x, x ∈ xs → x.cells.length = z) ∧ ∀ (j : Nat) (u : Value) (y : AV), us[j]? = some u → (xs.flatMap AV.cells)[j]? = some y → VRep β w u y
 | .bld b v, .box cs => ∃ arr T, w.heap[b]? = some (.cells arr T (0, 0)) ∧ arr.size = cs.length ∧ (∀ (j : Nat) (u : Value) (y : AV), arr[j]? = some u → cs[j]? = some y → VRep β w u y) ∧ BldOk w b T arr cs v
 | .dead, .dead => True
 | .guard bs, .guard => ∀ b, b ∈ bs → b < w.heap.size
 | .map b, .map es => MapAt w b es
 | _, _ => False
def GOk (β : List Hd) (w : World) : Prop := ∀ p, p ∈ globs → w.cell? ⟨p.1, 0, none⟩ = some p.2 ∧ p.1 < w.heap.size ∧ Still β p.1
theorem GOk.ext {β β' : List Hd} {w w' : World} (h : GOk β w) (hx : Ext β w β' w') : GOk β' w' := fun p hp => by
 obtain ⟨h1, h2, h3⟩ := h p hp
 exact ⟨by rw [World.cell?_of_block (a := ⟨p.1, 0, none⟩) (hx.block p.1 h2 h3)]; exact h1, Nat.lt_of_lt_of_le h2 hx.size, hx.apart p.1 h2 h3⟩
theorem GOk.weak {β β' : List Hd} {w : World} (h : GOk β w) (hs : ∀ b, Still β b → Still β' b) : GOk β' w := fun p hp => by
 obtain ⟨h1, h2, h3⟩ := h p hp
 exact ⟨h1, h2, hs _ h3⟩
structure HRel (β : List Hd) (H : List AO) (w : World) : Prop where
 gl : GOk β w
 len : β.length = H.length
 ob : ∀ (i : Nat) (o : AO) (h : Hd), H[i]? = some o → β[i]? = some h → ORep β w h o
 ap : ∀ (i j : Nat) (hi hj : Hd) (b : Nat), i ≠ j → β[i]? = some hi → β[j]? = some hj → b ∈ hi.blks → b ∉ hj.blks
theorem ownsRow_one {w : World} {base : Nat} {e : TypeId} {size : Nat} {v : Value} {n : Nat} {xs : List Value} (h : w.ownsRow base e size v n xs) : v.oneCell' = true := by
 rcases h.2 with ⟨rfl, _⟩ | ⟨g, cap, cur, rfl, _⟩ <;> rfl
theorem HRel.nil (w : World) (hg : GOk [] w) : HRel [] [] w := ⟨hg, rfl, fun i o h h1 => by simp at h1, fun i j hi hj b _ h1 => by simp at h1⟩
theorem ORep.blk_lt {β : List Hd} {w : World} {h : Hd} {o : AO} (ho : ORep β w h o) {b : Nat} (hb : b ∈ h.blks) : b < w.heap.size := by
 cases h <;> cases o <;> first | exact ho.elim | skip
 · obtain ⟨arr, T, h1, _⟩ := ho; simp only [Hd.blks, List.mem_singleton] at hb; subst hb; exact (Array.getElem?_eq_some_iff.1 h1).1
 · obtain ⟨_, us, h1, _⟩ := ho; exact (h1.lt b (opt_mem.1 hb)).2
 · cases hb
 · exact ho b hb
 · obtain ⟨arr, T, h1, _, _, e, s, _, _, _, _, h8, _⟩ := ho
   rcases List.mem_cons.1 hb with rfl | hb
   · exact (Array.getElem?_eq_some_iff.1 h1).1
   · exact (h8.lt b (opt_mem.1 hb)).2
 · obtain ⟨ents, c, h1, _⟩ := ho; simp only [Hd.blks, List.mem_singleton] at hb; subst hb; exact (Array.getElem?_eq_some_iff.1 h1).1
theorem HRel.lt {β : List Hd} {H : List AO} {w : World} (h : HRel β H w) {i : Nat} {x : Hd} (hx : β[i]? = some x) {b : Nat} (hb : b ∈ x.blks) : b < w.heap.size := by
 have hi := (List.getElem?_eq_some_iff.1 hx).1
 rw [h.len] at hi
 exact (h.ob i _ x (List.getElem?_eq_getElem hi) hx).blk_lt hb
theorem ORep.ext {β β' : List Hd} {w w' : World} (hx : Ext β w β' w') {h : Hd} {o : AO} (ho : ORep β w h o) (hk : ∀ b, b ∈ h.blks → b < w.heap.size → w'.heap[b]? = w.heap[b]?) : ORep β' w' h o := by
 cases h <;> cases o <;> first | exact ho.elim | skip
 · obtain ⟨arr, T, h1, h2, h3, h4⟩ := ho
   exact ⟨arr, T, by rw [hk _ (List.mem_singleton.2 rfl) (Array.getElem?_eq_some_iff.1 h1).1]; exact h1, h2, fun j u y a b => (h3 j u y a b).ext hx, h4⟩
 · obtain ⟨hgg, us, h1, h2, h3⟩ := ho
   refine ⟨hgg, us, ⟨h1.1, ?_⟩, h2, fun j u y a b => (h3 j u y a b).ext hx⟩
   rcases h1.2 with h4 | ⟨g, cap, cur, h4, h5, h6, h7⟩
   · exact .inl h4
   · exact .inr ⟨g, cap, cur, h4, h5, by rw [hk g (opt_mem.2 (by rw [h4]; rfl)) (Array.getElem?_eq_some_iff.1 h6).1]; exact h6, h7⟩
 · trivial
 · exact fun b hb => Nat.lt_of_lt_of_le (ho b hb) hx.size
 · obtain ⟨arr, T, h1, h2, h3, e, s, k1, k2, k3, k4, k5, k6⟩ := ho
   refine ⟨arr, T, by rw [hk _ List.mem_cons_self (Array.getElem?_eq_some_iff.1 h1).1]; exact h1, h2, fun j u y a b => (h3 j u y a b).ext hx, e, s, k1, k2, k3, k4, ⟨k5.1, ?_⟩, k6⟩
   rcases k5.2 with h4 | ⟨g, cap, cur, h4, h5, h6, h7⟩
   · exact .inl h4
   · exact .inr ⟨g, cap, cur, h4, h5, by rw [hk g (List.mem_cons_of_mem _ (opt_mem.2 (by rw [h4]; rfl))) (Array.getElem?_eq_some_iff.1 h6).1]; exact h6, h7⟩
 · obtain ⟨ents, c, h1, h2⟩ := ho
   exact ⟨ents, c, by rw [hk _ (List.mem_singleton.2 rfl) (Array.getElem?_eq_some_iff.1 h1).1]; exact h1, h2⟩
theorem HRel.below {β : List Hd} {H : List AO} {w w' : World} (h : HRel β H w) (k : Below w.heap.size w w') : HRel β H w' :=
 ⟨h.gl.ext (Ext.of_below β k), h.len, fun i o x h1 h2 => (h.ob i o x h1 h2).ext (Ext.of_below β k) (fun b _ hb => k.block b hb), h.ap⟩
/-! ### slots -/
abbrev Sl := List (Nat × AV)
def look : Sl → Nat → Option AV
 | [], _ => none
 | (k, X) :: r, t => bif Nat.beq k t then some X else look r t
def SRep (β : List Hd) (w : World) (a : Act) (σ : Sl) : Prop := ∀ t X, look σ t = some X → ∃ u, a.tmps[t]? = some u ∧ VRep β w u X
theorem SRep.ext {β β' : List Hd} {w w' : World} {a : Act} {σ : Sl} (h : SRep β w a σ) (hx : Ext β w β' w') : SRep β' w' a σ := fun t X ht => by
 obtain ⟨u, h1, h2⟩ := h t X ht
 exact ⟨u, h1, h2.ext hx⟩
def putS (σ : Sl) : Option Tmp → AV → Sl
 | none, _ => σ
 | some d, X => (d, X) :: σ
theorem look_put (σ : Sl) (d : Option Tmp) (X : AV) (t : Nat) : look (putS σ d X) t = if d = some t then some X else look σ t := by
 cases d with
 | none => simp [putS]
 | some d =>
   show (bif Nat.beq d t then some X else look σ t) = _
   by_cases h : d = t
   · subst h; simp
   · have : Nat.beq d t = false := by cases hb : Nat.beq d t with | false => rfl | true => exact absurd (Nat.eq_of_beq_eq_true hb) h
     rw [this, if_neg (by simpa using h)]; rfl
def keepS (ks : List Nat) (σ : Sl) : Sl := ks.filterMap fun t => (look σ t).map fun X => (t, X)
theorem look_keep (ks : List Nat) (σ : Sl) (t : Nat) (X : AV) (h : look (keepS ks σ) t = some X) : look σ t = some X := by
 induction ks with
 | nil => cases h
 | cons k ks ih =>
   unfold keepS at h
   rw [List.filterMap_cons] at h
   cases hk : look σ k with
   | none => rw [hk] at h; exact ih h
   | some Y =>
     rw [hk] at h
     change (bif Nat.beq k t then some Y else look (keepS ks σ) t) = some X at h
     by_cases e : k = t
     · subst e; simp at h; rw [hk, h]
     · have : Nat.beq k t = false := by cases hb : Nat.beq k t with | false => rfl | true => exact absurd (Nat.eq_of_beq_eq_true hb) e
       rw [this] at h; exact ih h
theorem SRep.put {β : List Hd} {w : World} {a : Act} {σ : Sl} (h : SRep β w a σ) (d : Option Tmp) (hd : ∀ t, d = some t → t < a.tmps.size) {v : Value} {X : AV} (hv : VRep β w v X) : SRep β w (a.put d v) (putS σ d X) := by
 intro t Y ht
 rw [look_put] at ht
 by_cases e : d = some t
 · subst e
   rw [if_pos rfl] at ht
   cases ht
   exact ⟨v, by simp [Act.put, hd t rfl], hv⟩
 · rw [if_neg e] at ht
   obtain ⟨u, h1, h2⟩ := h t Y ht
   exact ⟨u, by rw [put_other _ _ _ _ e]; exact h1, h2⟩
end Go.Proofs.YtnlpojjfkgnhhaaGreatDoor
namespace Go.Proofs.YtnlpojjfkgnhhaaGreatDoor
open Go.RowKit
def LRep (β : List Hd) (w : World) (a : Act) (σ : Sl) (l : List Tmp) : Prop := ∀ t, t ∈ l → ∀ X, look σ t = some X → ∃ u, a.tmps[t]? = some u ∧ VRep β w u X
theorem LRep.of {β : List Hd} {w : World} {a : Act} {σ : Sl} {l : List Tmp} (h : SRep β w a σ) : LRep β w a σ l := fun t _ X hX => h t X hX
def OpStep (P : Program) (ops : Array Oper) (o : Oper) (σ : Sl) (H : List AO) (X : AV) (H' : List AO) : Prop :=
 ∀ (a : Act) (W : World) (β : List Hd), HRel β H W → LRep β W a σ (o.looksAt ops) → ∀ (K : Act → World → Prop) (Q : Exit → Act → World → Prop),
   (∀ v W' β', Ext β W β' W' → HRel β' H' W' → VRep β' W' v X → K (a.put o.dst v) W') →
   if Region.wanted o (yielded ops a.tmps) = true then Oper.wp P o a W K Q else K (a.put o.dst undef) W
inductive Kd where
 | pure | read | write | rd | new | wf | on (q c : Nat) | inv | wi
deriving DecidableEq
def hd1 : Option AO → Option (Nat × Nat)
 | some (.box (.box a b :: _)) => some (a, b)
 | _ => none
def StepK (P : Program) (ops : Array Oper) : Kd → Oper → Sl → List AO → AV → List AO → Prop
 | .pure, o, σ, H, X, H' => H' = H ∧ ∀ G, OpStep P ops o σ G X G
 | .read, o, σ, H, X, H' => H' = H ∧ OpStep P ops o σ H X H
 | .write, o, σ, H, X, H' => OpStep P ops o σ H X H'
 | .rd, o, σ, H, X, H' => H' = H ∧ ∀ E, OpStep P ops o σ (H ++ E) X (H ++ E)
 | .new, o, σ, H, X, H' => ∃ E, H' = H ++ E ∧ ∀ H0 : List AO, H0.length = H.length → OpStep P ops o σ H0 X (H0 ++ E)
 | .wf, o, σ, H, X, H' => H'.length = H.length ∧ ∀ E, OpStep P ops o σ (H ++ E) X (H' ++ E)
 | .on q _, o, σ, H, X, H' => ∃ Z, q < H.length ∧ H' = H.set q Z ∧ ∀ H0 : List AO, H0[q]? = H[q]? → OpStep P ops o σ H0 X (H0.set q Z)
 | .inv, o, σ, H, X, H' => H' = H ∧ ∀ G : List AO, (∀ q : Nat, hd1 G[q]? = hd1 H[q]?) → OpStep P ops o σ G X G
 | .wi, o, σ, H, X, H' => OpStep P ops o σ H X H' ∧ ∀ q : Nat, hd1 H'[q]? = hd1 H[q]?
theorem StepK.op {P : Program} {ops : Array Oper} {k : Kd} {o : Oper} {σ : Sl} {H H' : List AO} {X : AV} (h : StepK P ops k o σ H X H') : OpStep P ops o σ H X H' := by
 cases k with
 | pure => obtain ⟨e, h⟩ := h; rw [e]; exact h H
 | read => obtain ⟨e, h⟩ := h; rw [e]; exact h
 | write => exact h
 | rd =>
   obtain ⟨e, h⟩ := h
   rw [e]
   have := h []
   rw [List.append_nil] at this; exact this
 | new => obtain ⟨E, e, h⟩ := h; rw [e]; exact h H rfl
 | wf =>
   have := h.2 []
   rw [List.append_nil, List.append_nil] at this; exact this
 | on q c => obtain ⟨Z, _, e, h⟩ := h; rw [e]; exact h H rfl
 | inv => obtain ⟨e, h⟩ := h; rw [e]; exact h H fun _ => rfl
 | wi => exact h.1
def dstLt (n : Nat) : Option Tmp → Bool
 | none => true
 | some d => Nat.blt d n
theorem dstLt_spec {n : Nat} {d : Option Tmp} (h : dstLt n d = true) : ∀ t, d = some t → t < n := by
 intro t e; subst e; exact Nat.lt_of_lt_of_le (Nat.lt_of_succ_le (Nat.le_of_ble_eq_true h)) (Nat.le_refl _)
def ARun (P : Program) (ops : Array Oper) (n : Nat) (Q : List Kd → Sl → List AO → Prop) : List Oper → List Kd → Sl → List AO → Prop
 | [], ks, σ, H => Q ks σ H
 | o :: l, ks, σ, H => ∃ k X H', dstLt n o.dst = true ∧ StepK P ops k o σ H X H' ∧ ARun P ops n Q l (ks ++ [k]) (putS σ o.dst X) H'
theorem run_list {P : Program} {ops : Array Oper} {n : Nat} {QA : List Kd → Sl → List AO → Prop} {Q : Exit → Act → World → Prop} : ∀ (l : List Oper) (ks : List Kd) (σ : Sl) (H : List AO) (a : Act) (W : World) (β : List Hd),
   ARun P ops n QA l ks σ H → a.tmps.size = n → HRel β H W → SRep β W a σ →
   (∀ ks' σ' H' a' W' β', QA ks' σ' H' → a'.tmps.size = n → a'.defers = a.defers → Ext β W β' W' → HRel β' H' W' → SRep β' W' a' σ' → Q .normal a' W') → wpList P ops Q l a W := by
 intro l
 induction l with
 | nil => intro ks σ H a W β h hn hH hs hQ; exact hQ ks σ H a W β h hn rfl (Ext.refl _ _) hH hs
 | cons o l ih =>
   intro ks σ H a W β h hn hH hs hQ
   obtain ⟨k, X, H', hd, hst, hr⟩ := h
   refine wpList_step fun K hK => ?_
   refine hst.op a W β hH (LRep.of hs) K Q fun v W' β' hx hH' hv => hK _ _ ?_
   refine ih _ _ _ (a.put o.dst v) W' β' hr (by rw [put_size]; exact hn) hH' ((hs.ext hx).put o.dst (fun t e => by rw [hn]; exact dstLt_spec hd t e) hv) ?_
   intro ks' σ' H'' a' W'' β'' q1 q2 q3 q4 q5 q6
   exact hQ ks' σ' H'' a' W'' β'' q1 q2 (by rw [q3, put_def]) (hx.trans q4) q5 q6
theorem run_seqs {P : Program} {ops : Array Oper} {n : Nat} {QA : List Kd → Sl → List AO → Prop} : ∀ (l : List Oper) (ks : List Kd) (σ : Sl) (H : List AO), ARun P ops n QA l ks σ H →
   ∃ (Xs : Nat → AV) (σs : Nat → Sl) (Hs : Nat → List AO) (kk : Nat → Kd), σs 0 = σ ∧ Hs 0 = H ∧
     (∀ (i : Nat) (o : Oper), l[i]? = some o → dstLt n o.dst = true ∧ StepK P ops (kk i) o (σs i) (Hs i) (Xs i) (Hs (i + 1)) ∧ σs (i + 1) = putS (σs i) o.dst (Xs i)) ∧
     QA (ks ++ (List.range l.length).map kk) (σs l.length) (Hs l.length) := by
 intro l
 induction l with
 | nil => intro ks σ H h; exact ⟨fun _ => .raw undef, fun _ => σ, fun _ => H, fun _ => .pure, rfl, rfl, fun i o h => by simp at h, by have h' : QA ks σ H := h; simpa using h'⟩
 | cons o l ih =>
   intro ks σ H h
   obtain ⟨k, X, H', hd, hst, hr⟩ := h
   obtain ⟨Xs, σs, Hs, kk, h1, h2, h3, h4⟩ := ih _ _ _ hr
   refine ⟨fun i => match i with | 0 => X | i + 1 => Xs i, fun i => match i with | 0 => σ | i + 1 => σs i, fun i => match i with | 0 => H | i + 1 => Hs i, fun i => match i with | 0 => k | i + 1 => kk i, rfl, rfl, ?_, ?_⟩
   · intro i o' hi
     cases i with
     | zero =>
       simp at hi
       subst hi
       exact ⟨hd, by show StepK P ops k o σ H X (Hs 0); rw [h2]; exact hst, h1⟩
     | succ i => exact h3 i o' (by simpa using hi)
   · have e : (List.range (o :: l).length).map (fun i => match i with | 0 => k | i + 1 => kk i) = k :: (List.range l.length).map kk := by
       rw [List.length_cons, List.range_succ_eq_map, List.map_cons, List.map_map]
       rfl
     rw [e]
     simpa using h4
def kdApart (x y : Kd) : Bool := match x, y with | .pure, _ => true | _, .pure => true | .read, .read => true | .read, .rd => true | .rd, .read => true | .rd, .rd => true | .rd, .new => true | .wf, .new => true | .on _ c, .on _ d => !Nat.beq c d | .on _ _, .new => true | .inv, .inv => true | .inv, .wi => true | .wi, .inv => true | _, _ => false
def isInv : Kd → Bool | .inv => true | _ => false
def isSoft : Kd → Bool | .pure => true | .inv => true | .wi => true | _ => false
def invOk (ks : List Kd) : Bool := (ks.all fun k => !isInv k) || ks.all isSoft
def okKd0 (ops : Array Oper) (ks : List Kd) : Bool :=
 let m := rgM ops ops.size
 invOk ks && (List.range ops.size).all fun i => (List.range i).all fun j => kdApart (ks.getD j .pure) (ks.getD i .pure) || (m.getD i 0).testBit j
def stepT (Hs : Nat → List AO) (k : Kd) (i : Nat) (S : List AO) : List AO := match k with
 | .write => Hs (i + 1)
 | .new => S ++ (Hs (i + 1)).drop (Hs i).length
 | .wf => Hs (i + 1) ++ S.drop (Hs i).length
 | .wi => Hs (i + 1)
 | .on q _ => S.set q ((Hs (i + 1)).getD q .dead)
 | _ => S
section
variable (Xs : Nat → AV) (dst : Nat → Option Tmp) (Hs : Nat → List AO) (kk : Nat → Kd) (sel : Nat → Bool)
def selS (σ0 : Sl) : Nat → Sl
 | 0 => σ0
 | k + 1 => if sel k = true then putS (selS σ0 k) (dst k) (Xs k) else selS σ0 k
def selH (H0 : List AO) : Nat → List AO
 | 0 => H0
 | k + 1 => if sel k = true then stepT Hs (kk k) k (selH H0 k) else selH H0 k
end
theorem selS_succ (Xs : Nat → AV) (dst : Nat → Option Tmp) (sel : Nat → Bool) (σ0 : Sl) (k : Nat) : selS Xs dst sel σ0 (k + 1) = if sel k = true then putS (selS Xs dst sel σ0 k) (dst k) (Xs k) else selS Xs dst sel σ0 k := rfl
theorem selH_succ (Hs : Nat → List AO) (kk : Nat → Kd) (sel : Nat → Bool) (H0 : List AO) (k : Nat) : selH Hs kk sel H0 (k + 1) = if sel k = true then stepT Hs (kk k) k (selH Hs kk sel H0 k) else selH Hs kk sel H0 k := rfl
theorem SRep.congr {β : List Hd} {w : World} {a : Act} {σ σ' : Sl} (h : SRep β w a σ) (e : ∀ t, look σ' t = look σ t) : SRep β w a σ' := fun t X ht => h t X (by rw [← e]; exact ht)
def isW : Kd → Bool | .write => true | .new => true | .wf => true | .on _ _ => true | .wi => true | _ => false
def isOn : Kd → Bool | .on _ _ => true | .inv => true | _ => false
theorem kdOnL {q c : Nat} {x : Kd} (h : kdApart x (.on q c) = true) : x = .pure ∨ ∃ q' c', x = .on q' c' ∧ c ≠ c' := by
 cases x with
 | pure => exact .inl rfl
 | on q' c' =>
   refine .inr ⟨q', c', rfl, fun e => ?_⟩
   subst e
   have h2 : Nat.beq c c = true := Nat.beq_refl c
   change (!Nat.beq c c) = true at h; rw [h2] at h; cases h
 | _ => cases h
theorem kdOnR {q c : Nat} {x : Kd} (h : kdApart (.on q c) x = true) : x = .pure ∨ x = .new ∨ ∃ q' c', x = .on q' c' ∧ c ≠ c' := by
 cases x with
 | pure => exact .inl rfl
 | new => exact .inr (.inl rfl)
 | on q' c' =>
   refine .inr (.inr ⟨q', c', rfl, fun e => ?_⟩)
   subst e
   have h2 : Nat.beq c c = true := Nat.beq_refl c
   change (!Nat.beq c c) = true at h; rw [h2] at h; cases h
 | _ => cases h
theorem stepT_no {Hs : Nat → List AO} {k : Kd} {i : Nat} {S : List AO} (h : isW k = false) : stepT Hs k i S = S := by cases k <;> first | rfl | cases h
theorem kdA1 {x y : Kd} (h : kdApart x y = true) (hx : x ≠ .pure) (ho : isOn x = false) (hw : isW y = true) : y = .new := by cases x <;> cases y <;> first | rfl | exact absurd rfl hx | (exact Bool.noConfusion ho) | exact absurd hw (by decide) | exact absurd h (by decide) | cases h
theorem kdA0 {x y : Kd} (h : kdApart x y = true) (hx : x ≠ .pure) (ho : isOn x = false) (hr : x ≠ .rd) (hf : x ≠ .wf) : isW y = false := by cases x <;> cases y <;> first | rfl | exact absurd rfl hx | (exact Bool.noConfusion ho) | exact absurd rfl hr | exact absurd rfl hf | cases h
theorem kdA2 {x y : Kd} (h : kdApart x y = true) (hx : y ≠ .pure) (ho : isOn y = false) (hy : y ≠ .new) : isW x = false := by cases x <;> cases y <;> first | rfl | exact absurd rfl hx | (exact Bool.noConfusion ho) | exact absurd rfl hy | cases h
theorem kdA3 {x : Kd} (h : kdApart x .new = true) (hw : isW x = true) : x = .wf ∨ isOn x = true := by cases x <;> first | exact .inl rfl | exact .inr rfl | exact absurd hw (by decide) | exact absurd h (by decide) | cases h
theorem run_any {P : Program} {ops : Array Oper} {n : Nat} {Q : Exit → Act → World → Prop} (hok : rgOk ops = true) (Xs : Nat → AV) (σs : Nat → Sl) (Hs : Nat → List AO) (kk : Nat → Kd)
   (hkd : okKd0 ops ((List.range ops.size).map kk) = true) {mb : Nat} (hmb : ∀ i q c, i < ops.size → kk i = .on q c → q = mb + c)
   (hst : ∀ (i : Nat) (o : Oper), ops[i]? = some o → dstLt n o.dst = true ∧ StepK P ops (kk i) o (σs i) (Hs i) (Xs i) (Hs (i + 1)) ∧ σs (i + 1) = putS (σs i) o.dst (Xs i))
   (β0 : List Hd) (W0 : World) (D : List Deferred)
   (hQ : ∀ a W β, a.tmps.size = n → a.defers = D → Ext β0 W0 β W → HRel β (Hs ops.size) W → SRep β W a (σs ops.size) → Q .normal a W) :
   ∀ (fuel : Nat) (listed : Array Bool) (a : Act) (W : World) (β : List Hd), listed.size = ops.size →
     fuel = ((List.range ops.size).filter fun j => !listed.getD j false).length →
     (∀ i, listed.getD i false = true → ∀ e, e ∈ rgEdges ops i → listed.getD e false = true) →
     a.tmps.size = n → a.defers = D → Ext β0 W0 β W → HRel β (selH Hs kk (fun j => listed.getD j false) (Hs 0) ops.size) W →
     SRep β W a (selS Xs (rgDst ops) (fun j => listed.getD j false) (σs 0) ops.size) → wpAny P .any ops Q fuel listed a W := by
 unfold rgOk at hok
 unfold okKd0 at hkd
 rw [Bool.and_eq_true] at hkd
 obtain ⟨hinv0, hkd⟩ := hkd
 simp only [Bool.and_eq_true, List.all_eq_true, List.mem_range, Bool.or_eq_true, decide_eq_true_eq] at hok hkd
 obtain ⟨_, hok⟩ := hok
 have hsoft : ∀ i, i < ops.size → kk i = .inv → ∀ k, k < ops.size → isSoft (kk k) = true := by
   intro i hi hik k hk
   unfold invOk at hinv0
   rw [Bool.or_eq_true, List.all_eq_true, List.all_eq_true] at hinv0
   rcases hinv0 with h | h
   · have := h .inv (List.mem_map.2 ⟨i, List.mem_range.2 hi, hik⟩); cases this
   · exact h _ (List.mem_map.2 ⟨k, List.mem_range.2 hk, rfl⟩)
 have hdst : ∀ i o, ops[i]? = some o → rgDst ops i = o.dst := fun i o ho => by simp [rgDst, ho]
 have hop : ∀ i, i < ops.size → ∃ o, ops[i]? = some o := fun i hi => ⟨_, Array.getElem?_eq_getElem hi⟩
 have hkk : ∀ i, i < ops.size → ((List.range ops.size).map kk).getD i .pure = kk i := by
   intro i hi
   rw [List.getD, List.getElem?_map, List.getElem?_range hi]; rfl
 have hT : ∀ i, i < ops.size → stepT Hs (kk i) i (Hs i) = Hs (i + 1) := by
   intro i hi
   obtain ⟨o, ho⟩ := hop i hi
   have h1 := (hst i o ho).2.1
   cases hk : kk i with
   | pure => rw [hk] at h1; exact h1.1.symm
   | read => rw [hk] at h1; exact h1.1.symm
   | write => rfl
   | rd => rw [hk] at h1; exact h1.1.symm
   | new =>
     rw [hk] at h1
     obtain ⟨E, e, _⟩ := h1
     show Hs i ++ (Hs (i + 1)).drop (Hs i).length = Hs (i + 1)
     rw [e]; simp
   | wf =>
     show Hs (i + 1) ++ (Hs i).drop (Hs i).length = Hs (i + 1)
     simp
   | on q c =>
     rw [hk] at h1
     obtain ⟨Z, hq, e, _⟩ := h1
     show (Hs i).set q ((Hs (i + 1)).getD q .dead) = Hs (i + 1)
     rw [e, List.getD, List.getElem?_set_self hq]; rfl
   | inv => rw [hk] at h1; exact h1.1.symm
   | wi => rfl
 have hlen : ∀ i, i < ops.size → ∀ S : List AO, S.length = (Hs i).length → (stepT Hs (kk i) i S).length = (Hs (i + 1)).length := by
   intro i hi S hS
   have hh := hT i hi
   cases hk : kk i with
   | write => rfl
   | new =>
     rw [hk] at hh
     have hh' : Hs i ++ (Hs (i + 1)).drop (Hs i).length = Hs (i + 1) := hh
     have h3 := congrArg List.length hh'
     rw [List.length_append] at h3
     show (S ++ (Hs (i + 1)).drop (Hs i).length).length = _
     rw [List.length_append, hS]; exact h3
   | wf =>
     show (Hs (i + 1) ++ S.drop (Hs i).length).length = _
     rw [List.length_append, List.length_drop]; omega
   | on q c =>
     rw [hk] at hh
     have h3 := congrArg List.length hh
     change ((Hs i).set q _).length = _ at h3
     show (S.set q _).length = _
     rw [List.length_set] at h3 ⊢; omega
   | pure => rw [hk] at hh; rw [← hh]; exact hS
   | read => rw [hk] at hh; rw [← hh]; exact hS
   | rd => rw [hk] at hh; rw [← hh]; exact hS
   | inv => rw [hk] at hh; rw [← hh]; exact hS
   | wi => rfl
 have hput : ∀ i, i < ops.size → σs (i + 1) = putS (σs i) (rgDst ops i) (Xs i) := by
   intro i hi
   obtain ⟨o, ho⟩ := hop i hi
   rw [hdst i o ho]; exact (hst i o ho).2.2
 -- nothing left
 have hdone : ∀ (listed : Array Bool), listed.size = ops.size → Region.ready .any ops listed = [] → ∀ i, i < ops.size → listed.getD i false = true := by
   intro listed hsz hr i
   induction i using Nat.strongRecOn with
   | _ i ih =>
     intro hi
     cases hl : listed.getD i false with
     | true => rfl
     | false =>
       exfalso
       have hm : i ∈ Region.ready .any ops listed := by
         unfold Region.ready
         rw [List.mem_filter]
         refine ⟨List.mem_range.2 hi, ?_⟩
         have h1 : listed.getD i true = false := by
           rw [Array.getD_eq_getD_getElem?] at hl ⊢
           rw [Array.getElem?_eq_getElem (by omega)] at hl ⊢
           exact hl
         rw [h1, Array.getElem?_eq_getElem hi]
         simp only [Bool.not_false, Bool.true_and, Option.map_some, Option.getD_some]
         rw [Array.all_eq_true_iff_forall_mem]
         intro e he
         by_cases hb : Region.binds .any e = true
         · have hmem : e.on ∈ rgEdges ops i := by
             unfold rgEdges; rw [Array.getElem?_eq_getElem hi]
             exact List.mem_map.2 ⟨e, List.mem_filter.2 ⟨by simpa using he, hb⟩, rfl⟩
           have hlt := (hok i hi).1 _ hmem
           simp [ih e.on hlt (by omega)]
         · simp [hb]
       rw [hr] at hm
       cases hm
 have hfin : ∀ (listed : Array Bool) (a : Act) (W : World) (β : List Hd), (∀ i, i < ops.size → listed.getD i false = true) →
     a.tmps.size = n → a.defers = D → Ext β0 W0 β W → HRel β (selH Hs kk (fun j => listed.getD j false) (Hs 0) ops.size) W →
     SRep β W a (selS Xs (rgDst ops) (fun j => listed.getD j false) (σs 0) ops.size) → Q .normal a W := by
   intro listed a W β hall h1 h2 h3 h4 h5
   have e1 : ∀ k, k ≤ ops.size → selH Hs kk (fun j => listed.getD j false) (Hs 0) k = Hs k := by
     intro k
     induction k with
     | zero => intro _; rfl
     | succ k ih =>
       intro hk
       rw [selH_succ, hall k (by omega), if_pos rfl, ih (by omega)]
       exact hT k (by omega)
   have e2 : ∀ k, k ≤ ops.size → selS Xs (rgDst ops) (fun j => listed.getD j false) (σs 0) k = σs k := by
     intro k
     induction k with
     | zero => intro _; rfl
     | succ k ih =>
       intro hk
       unfold selS
       rw [hall k (by omega), if_pos rfl, ih (by omega), hput k (by omega)]
   rw [e1 _ (Nat.le_refl _)] at h4
   rw [e2 _ (Nat.le_refl _)] at h5
   exact hQ a W β h1 h2 h3 h4 h5
 intro fuel
 induction fuel with
 | zero =>
   intro listed a W β hsz hc hcl h1 h2 h3 h4 h5
   have hall : ∀ i, i < ops.size → listed.getD i false = true := by
     intro i hi
     cases hx : listed.getD i false with
     | true => rfl
     | false =>
       have hm : i ∈ (List.range ops.size).filter fun j => !listed.getD j false := List.mem_filter.2 ⟨List.mem_range.2 (by omega), by simp [hx]⟩
       have := List.length_pos_of_mem hm
       omega
   refine ⟨?_, hfin listed a W β hall h1 h2 h3 h4 h5⟩
   unfold Region.ready
   rw [List.filter_eq_nil_iff]
   intro i hi
   have hlt := List.mem_range.1 hi
   have h6 := hall i hlt
   rw [Array.getD_eq_getD_getElem?, Array.getElem?_eq_getElem (by omega)] at h6
   have : listed.getD i true = true := by
     rw [Array.getD_eq_getD_getElem?, Array.getElem?_eq_getElem (by omega)]; exact h6
   simp [this]
 | succ fuel ih =>
   intro listed a W β hsz hc hcl h1 h2 h3 h4 h5
   refine ⟨fun hr => hfin listed a W β (hdone listed hsz hr) h1 h2 h3 h4 h5, fun i hi => ?_⟩
   unfold Region.ready at hi
   rw [List.mem_filter, List.mem_range] at hi
   obtain ⟨hin, hi⟩ := hi
   obtain ⟨o, ho⟩ := hop i hin
   rw [ho] at hi
   simp only [Option.map_some, Option.getD_some, Bool.and_eq_true, Bool.not_eq_true'] at hi
   obtain ⟨hnl, hrd⟩ := hi
   have hnl2 : listed.getD i false = false := by
     rw [Array.getD_eq_getD_getElem?] at hnl ⊢
     rw [Array.getElem?_eq_getElem (by omega)] at hnl ⊢
     exact hnl
   rw [Array.all_eq_true_iff_forall_mem] at hrd
   have hed : ∀ e, e ∈ rgEdges ops i → listed.getD e false = true := by
     intro e he
     unfold rgEdges at he
     rw [ho] at he
     obtain ⟨x, hx, rfl⟩ := List.mem_map.1 he
     rw [List.mem_filter] at hx
     have := hrd x (by simpa using hx.1)
     simpa [hx.2] using this
   have hpredl : ∀ j, rgPred ops j i = true → listed.getD j false = true := fun j hj => rgM_sound ops (fun j => listed.getD j false = true) hcl ops.size i j hin hed hj
   have hnopred : ∀ j, j < ops.size → listed.getD j false = true → rgPred ops i j = false := by
     intro j hj hl
     cases hp : rgPred ops i j with
     | false => rfl
     | true =>
       have := rgM_sound ops (fun j => listed.getD j false = true) hcl ops.size j i hj (hcl j hl) hp
       rw [hnl2] at this; cases this
   -- behind: apart
   have hap1 : ∀ k, k < i → listed.getD k false = false → rgApart ops k i = true := by
     intro k hk hl
     rcases (hok i hin).2 k hk with h | h
     · exact h
     · have := hpredl k h; rw [hl] at this; cases this
   have hap2 : ∀ k, i < k → k < ops.size → listed.getD k false = true → rgApart ops i k = true := by
     intro k hk hkn hl
     rcases (hok k hkn).2 i hk with h | h
     · exact h
     · have := hnopred k hkn hl; unfold rgPred at this; rw [h] at this; cases this
   have hlookA : ∀ t, t ∈ o.looksAt ops → look (selS Xs (rgDst ops) (fun j => listed.getD j false) (σs 0) ops.size) t = look (σs i) t := by
     intro t ht
     have e1 : ∀ k, k ≤ i → look (selS Xs (rgDst ops) (fun j => listed.getD j false) (σs 0) k) t = look (σs k) t := by
       intro k
       induction k with
       | zero => intro _; rfl
       | succ k ihk =>
         intro hk
         have hk2 : k < ops.size := by omega
         rw [hput k hk2, look_put]
         show look (if listed.getD k false = true then _ else _) t = _
         cases hl : listed.getD k false with
         | true => rw [if_pos rfl, look_put, ihk (by omega)]
         | false =>
           rw [if_neg (by simp), ihk (by omega)]
           have h6 := hap1 k (by omega) hl
           obtain ⟨ok, hok2⟩ := hop k hk2
           unfold rgApart at h6
           rw [hok2, ho] at h6
           have h7 := (Oper.apart_spec h6).1
           rw [if_neg]
           intro e
           rw [hdst k ok hok2] at e
           exact h7 t e ht
     have e2 : ∀ m, look (selS Xs (rgDst ops) (fun j => listed.getD j false) (σs 0) (i + m)) t = look (selS Xs (rgDst ops) (fun j => listed.getD j false) (σs 0) i) t ∨ ops.size < i + m := by
       intro m
       induction m with
       | zero => exact .inl rfl
       | succ m ihm =>
         rcases ihm with ihm | ihm
         · by_cases hlt : i + m < ops.size
           · left
             rw [← ihm]
             rw [show i + (m + 1) = (i + m) + 1 from rfl, selS_succ]
             cases hl : listed.getD (i + m) false with
             | false => rw [if_neg (by simp)]
             | true =>
               rw [if_pos rfl, look_put]
               refine if_neg ?_
               intro e
               have hm0 : i < i + m := by
                 rcases Nat.eq_zero_or_pos m with h0 | h0
                 · subst h0; rw [Nat.add_zero, hnl2] at hl; cases hl
                 · omega
               have h6 := hap2 _ hm0 hlt hl
               obtain ⟨ok, hok2⟩ := hop _ hlt
               unfold rgApart at h6
               rw [hok2, ho] at h6
               rw [hdst _ ok hok2] at e
               exact (Oper.apart_spec h6).2.2 t e ht
           · right; omega
         · right; omega
     have := e2 (ops.size - i)
     rw [show i + (ops.size - i) = ops.size by omega] at this
     rcases this with h | h
     · rw [h]; exact e1 i (Nat.le_refl _)
     · omega
   -- what was done of the later ones: new things alone
   have hHbehind : kk i ≠ .pure → isOn (kk i) = false → ∀ k, i < k → k < ops.size → listed.getD k false = true → isW (kk k) = true → kk k = .new := by
     intro hp ho k hk hkn hl hw
     have h6 := hkd k hkn i hk
     rw [hkk i hin, hkk k hkn] at h6
     rcases h6 with h6 | h6
     · exact kdA1 h6 hp ho hw
     · have := hnopred k hkn hl; unfold rgPred at this; rw [h6] at this; cases this
   have hHnone : kk i ≠ .pure → isOn (kk i) = false → kk i ≠ .rd → kk i ≠ .wf → ∀ k, i < k → k < ops.size → listed.getD k false = true → isW (kk k) = false := by
     intro hp ho hr hf k hk hkn hl
     have h6 := hkd k hkn i hk
     rw [hkk i hin, hkk k hkn] at h6
     rcases h6 with h6 | h6
     · exact kdA0 h6 hp ho hr hf
     · have := hnopred k hkn hl; unfold rgPred at this; rw [h6] at this; cases this
   have hHahead : kk i ≠ .pure → isOn (kk i) = false → kk i ≠ .new → ∀ k, k < i → isW (kk k) = true → listed.getD k false = true := by
     intro hp ho hn k hk hw
     have h6 := hkd i hin k hk
     rw [hkk i hin, hkk k (by omega)] at h6
     rcases h6 with h6 | h6
     · rw [kdA2 h6 hp ho hn] at hw; cases hw
     · exact hpredl k h6
   have hHe : kk i ≠ .pure → isOn (kk i) = false → kk i ≠ .new → selH Hs kk (fun j => listed.getD j false) (Hs 0) i = Hs i := by
     intro hp ho hn
     have e1 : ∀ k, k ≤ i → selH Hs kk (fun j => listed.getD j false) (Hs 0) k = Hs k := by
       intro k
       induction k with
       | zero => intro _; rfl
       | succ k ihk =>
         intro hk
         rw [selH_succ, ihk (by omega), hT k (by omega)]
         cases hw : isW (kk k) with
         | true => rw [hHahead hp ho hn k (by omega) hw, if_pos rfl]
         | false =>
           have := hT k (by omega)
           rw [stepT_no hw] at this
           rw [this, ite_self]
     exact e1 i (Nat.le_refl _)
   have hHl : kk i = .new → (selH Hs kk (fun j => listed.getD j false) (Hs 0) i).length = (Hs i).length := by
     intro hn
     have e1 : ∀ k, k ≤ i → (selH Hs kk (fun j => listed.getD j false) (Hs 0) k).length = (Hs k).length := by
       intro k
       induction k with
       | zero => intro _; rfl
       | succ k ihk =>
         intro hk
         have ihk := ihk (by omega)
         rw [selH_succ]
         cases hl : listed.getD k false with
         | true => rw [if_pos rfl]; exact hlen k (by omega) _ ihk
         | false =>
           rw [if_neg (by simp), ihk]
           cases hw : isW (kk k) with
           | false =>
             have := hT k (by omega)
             rw [stepT_no hw] at this
             rw [this]
           | true =>
             have h6 := hkd i hin k (by omega)
             rw [hkk i hin, hkk k (by omega), hn] at h6
             rcases h6 with h6 | h6
             · obtain ⟨o', ho'⟩ := hop k (by omega)
               have h1 := (hst k o' ho').2.1
               rcases kdA3 h6 hw with hwf | hwf
               · rw [hwf] at h1
                 exact h1.1.symm
               · cases hk2 : kk k <;> rw [hk2] at hwf h1 <;> first | (rw [hk2] at hw; exact Bool.noConfusion hw) | (exact Bool.noConfusion hwf) | skip
                 obtain ⟨Z, _, e, _⟩ := h1
                 rw [e, List.length_set]
             · rw [hpredl k h6] at hl; cases hl
     exact e1 i (Nat.le_refl _)
   -- the tail: what the later ones have made
   let tl : Nat → List AO := fun m => Nat.rec [] (fun q t => if listed.getD (i + 1 + q) false = true ∧ kk (i + 1 + q) = .new then t ++ (Hs (i + 1 + q + 1)).drop (Hs (i + 1 + q)).length else t) m
   have htl0 : tl 0 = [] := rfl
   have htls : ∀ q, tl (q + 1) = if listed.getD (i + 1 + q) false = true ∧ kk (i + 1 + q) = .new then tl q ++ (Hs (i + 1 + q + 1)).drop (Hs (i + 1 + q)).length else tl q := fun q => rfl
   have htail : kk i ≠ .pure → isOn (kk i) = false → ∀ sel : Nat → Bool, (∀ k, i < k → sel k = listed.getD k false) → ∀ m, i + 1 + m ≤ ops.size → selH Hs kk sel (Hs 0) (i + 1 + m) = selH Hs kk sel (Hs 0) (i + 1) ++ tl m := by
     intro hp ho sel hs m
     induction m with
     | zero => intro _; rw [htl0, List.append_nil, Nat.add_zero]
     | succ m ihm =>
       intro hm
       rw [show i + 1 + (m + 1) = (i + 1 + m) + 1 from rfl, selH_succ, ihm (by omega), hs _ (by omega), htls]
       cases hl : listed.getD (i + 1 + m) false with
       | false => rw [if_neg (by simp), if_neg (by simp)]
       | true =>
         rw [if_pos rfl]
         cases hw : isW (kk (i + 1 + m)) with
         | false => rw [stepT_no hw, if_neg (by intro h; rw [h.2] at hw; cases hw)]
         | true =>
           have hn := hHbehind hp ho _ (by omega) (by omega) hl hw
           rw [hn, if_pos ⟨rfl, rfl⟩]
           show (selH Hs kk sel (Hs 0) (i + 1) ++ tl m) ++ _ = _
           rw [List.append_assoc]
   have htnone : kk i ≠ .pure → isOn (kk i) = false → kk i ≠ .rd → kk i ≠ .wf → ∀ m, i + 1 + m ≤ ops.size → tl m = [] := by
     intro hp ho hr hf m
     induction m with
     | zero => intro _; rfl
     | succ m ihm =>
       intro hm
       rw [htls, ihm (by omega), if_neg]
       rintro ⟨hl, hn⟩
       have := hHnone hp ho hr hf _ (by omega) (by omega) hl
       rw [hn] at this; cases this
   obtain ⟨hdl, hstep, _⟩ := hst i o ho
   -- the step itself, at what is there now
   have hstep2 : OpStep P ops o (σs i) (selH Hs kk (fun j => listed.getD j false) (Hs 0) ops.size) (Xs i)
       (selH Hs kk (fun j => (listed.setIfInBounds i true).getD j false) (Hs 0) ops.size) := by
     have hgs : ∀ j, (listed.setIfInBounds i true).getD j false = (decide (j = i) || listed.getD j false) := fun j => getD_set listed i j (by omega)
     have hbef : ∀ k, k ≤ i → selH Hs kk (fun j => (listed.setIfInBounds i true).getD j false) (Hs 0) k = selH Hs kk (fun j => listed.getD j false) (Hs 0) k := by
       intro k
       induction k with
       | zero => intro _; rfl
       | succ k ihk =>
         intro hk
         rw [selH_succ, selH_succ, ihk (by omega), hgs, decide_eq_false (by omega), Bool.false_or]
     have hsz1 : i + 1 + (ops.size - (i + 1)) = ops.size := by omega
     have hA : selH Hs kk (fun j => listed.getD j false) (Hs 0) (i + 1) = selH Hs kk (fun j => listed.getD j false) (Hs 0) i := by
       rw [selH_succ, hnl2, if_neg (by simp)]
     have hB : selH Hs kk (fun j => (listed.setIfInBounds i true).getD j false) (Hs 0) (i + 1) = stepT Hs (kk i) i (selH Hs kk (fun j => listed.getD j false) (Hs 0) i) := by
       rw [selH_succ, hgs, decide_eq_true rfl, Bool.true_or, if_pos rfl, hbef i (Nat.le_refl _)]
     by_cases hp : kk i = .pure
     · have : selH Hs kk (fun j => (listed.setIfInBounds i true).getD j false) (Hs 0) ops.size = selH Hs kk (fun j => listed.getD j false) (Hs 0) ops.size := by
         have hall : ∀ k, selH Hs kk (fun j => (listed.setIfInBounds i true).getD j false) (Hs 0) k = selH Hs kk (fun j => listed.getD j false) (Hs 0) k := by
           intro k
           induction k with
           | zero => rfl
           | succ k ihk =>
             rw [selH_succ, selH_succ, hgs, ihk]
             by_cases e : k = i
             · subst e; rw [hp]; simp [stepT]
             · simp [e]
         exact hall _
       rw [this]
       rw [hp] at hstep
       exact hstep.2 _
     · by_cases hon : isOn (kk i) = true
       · cases hk : kk i with
         | pure => rw [hk] at hon; cases hon
         | read => rw [hk] at hon; cases hon
         | write => rw [hk] at hon; cases hon
         | rd => rw [hk] at hon; cases hon
         | new => rw [hk] at hon; cases hon
         | wf => rw [hk] at hon; cases hon
         | wi => rw [hk] at hon; cases hon
         | inv =>
           have hso := hsoft i hin hk
           rw [hk] at hstep
           have hHq : ∀ k, k ≤ ops.size → ∀ q : Nat, hd1 (Hs k)[q]? = hd1 (Hs 0)[q]? := by
             intro k
             induction k with
             | zero => intro _ q; rfl
             | succ k ihk =>
               intro hk2 q
               obtain ⟨o', ho'⟩ := hop k (by omega)
               have h1' := (hst k o' ho').2.1
               have h2' := hso k (by omega)
               rw [← ihk (by omega) q]
               cases hk3 : kk k <;> rw [hk3] at h1' h2' <;> first | (exact Bool.noConfusion h2') | skip
               · rw [h1'.1]
               · rw [h1'.1]
               · exact h1'.2 q
           have hSq : ∀ k, k ≤ ops.size → ∀ q : Nat, hd1 (selH Hs kk (fun j => listed.getD j false) (Hs 0) k)[q]? = hd1 (Hs 0)[q]? := by
             intro k
             induction k with
             | zero => intro _ q; rfl
             | succ k ihk =>
               intro hk2 q
               have h2' := hso k (by omega)
               rw [selH_succ]
               cases hl : listed.getD k false with
               | false => rw [if_neg (by simp)]; exact ihk (by omega) q
               | true =>
                 rw [if_pos rfl]
                 cases hk3 : kk k <;> rw [hk3] at h2' <;> first | (exact Bool.noConfusion h2') | skip
                 · exact ihk (by omega) q
                 · exact ihk (by omega) q
                 · exact hHq (k + 1) hk2 q
           have hall : ∀ k, selH Hs kk (fun j => (listed.setIfInBounds i true).getD j false) (Hs 0) k = selH Hs kk (fun j => listed.getD j false) (Hs 0) k := by
             intro k
             induction k with
             | zero => rfl
             | succ k ihk =>
               rw [selH_succ, selH_succ, hgs, ihk]
               by_cases e : k = i
               · subst e; rw [hk]; simp [stepT]
               · simp [e]
           rw [hall]
           exact hstep.2 _ fun q => (hSq _ (Nat.le_refl _) q).trans (hHq i (by omega) q).symm
         | on q c =>
           rw [hk] at hstep hB
           obtain ⟨Z, hq, hZ, hstep⟩ := hstep
           have hqi := hmb i q c hin hk
           have hZ2 : (Hs (i + 1)).getD q .dead = Z := by rw [hZ, List.getD, List.getElem?_set_self hq]; rfl
           have hcA : ∀ k, k ≤ i → (selH Hs kk (fun j => listed.getD j false) (Hs 0) k).length = (Hs k).length ∧ (selH Hs kk (fun j => listed.getD j false) (Hs 0) k)[q]? = (Hs k)[q]? := by
             intro k
             induction k with
             | zero => intro _; exact ⟨rfl, rfl⟩
             | succ k ihk =>
               intro hk2
               obtain ⟨a1, a2⟩ := ihk (by omega)
               have hTk := hT k (by omega)
               rw [selH_succ]
               cases hl : listed.getD k false with
               | true =>
                 rw [if_pos rfl]
                 refine ⟨hlen k (by omega) _ a1, ?_⟩
                 cases hkk2 : kk k with
                 | pure => rw [hkk2] at hTk; rw [← hTk]; exact a2
                 | read => rw [hkk2] at hTk; rw [← hTk]; exact a2
                 | rd => rw [hkk2] at hTk; rw [← hTk]; exact a2
                 | inv => rw [hkk2] at hTk; rw [← hTk]; exact a2
                 | write => rfl
                 | wi => rfl
                 | new =>
                   rw [hkk2] at hTk
                   change Hs k ++ (Hs (k + 1)).drop (Hs k).length = _ at hTk
                   show (selH Hs kk (fun j => listed.getD j false) (Hs 0) k ++ (Hs (k + 1)).drop (Hs k).length)[q]? = _
                   conv => rhs; rw [← hTk]
                   rw [List.getElem?_append, List.getElem?_append, a1, a2]
                 | wf =>
                   show (Hs (k + 1) ++ (selH Hs kk (fun j => listed.getD j false) (Hs 0) k).drop (Hs k).length)[q]? = _
                   rw [← a1, List.drop_length, List.append_nil]
                 | on q' c' =>
                   rw [hkk2] at hTk
                   change (Hs k).set q' ((Hs (k + 1)).getD q' .dead) = _ at hTk
                   show ((selH Hs kk (fun j => listed.getD j false) (Hs 0) k).set q' ((Hs (k + 1)).getD q' .dead))[q]? = _
                   conv => rhs; rw [← hTk]
                   rw [List.getElem?_set, List.getElem?_set, a1, a2]
               | false =>
                 rw [if_neg (by simp)]
                 have h6 := hkd i hin k (by omega)
                 rw [hkk i hin, hkk k (by omega), hk] at h6
                 rcases h6 with h6 | h6
                 · rcases kdOnL h6 with e | ⟨q', c', e, hne⟩
                   · rw [e] at hTk; rw [← hTk]; exact ⟨a1, a2⟩
                   · have := hmb k q' c' (by omega) e
                     rw [e] at hTk
                     change (Hs k).set q' ((Hs (k + 1)).getD q' .dead) = _ at hTk
                     rw [← hTk, List.length_set, List.getElem?_set_ne (by omega)]
                     exact ⟨a1, a2⟩
                 · rw [hpredl k h6] at hl; cases hl
           have hcB : ∀ r, i + 1 + r ≤ ops.size → selH Hs kk (fun j => (listed.setIfInBounds i true).getD j false) (Hs 0) (i + 1 + r) = (selH Hs kk (fun j => listed.getD j false) (Hs 0) (i + 1 + r)).set q Z ∧
               (selH Hs kk (fun j => listed.getD j false) (Hs 0) (i + 1 + r))[q]? = (Hs i)[q]? ∧ q < (selH Hs kk (fun j => listed.getD j false) (Hs 0) (i + 1 + r)).length := by
             intro r
             induction r with
             | zero =>
               intro _
               rw [Nat.add_zero, hA, hB]
               refine ⟨?_, (hcA i (Nat.le_refl _)).2, by rw [(hcA i (Nat.le_refl _)).1]; exact hq⟩
               show (selH Hs kk (fun j => listed.getD j false) (Hs 0) i).set q ((Hs (i + 1)).getD q .dead) = _
               rw [hZ2]
             | succ r ihr =>
               intro hr
               obtain ⟨b1, b2, b3⟩ := ihr (by omega)
               rw [show i + 1 + (r + 1) = (i + 1 + r) + 1 from rfl, selH_succ, selH_succ, hgs, decide_eq_false (by omega), Bool.false_or, b1]
               cases hl : listed.getD (i + 1 + r) false with
               | false => rw [if_neg (by simp), if_neg (by simp)]; exact ⟨rfl, b2, b3⟩
               | true =>
                 rw [if_pos rfl, if_pos rfl]
                 have h6 := hkd (i + 1 + r) (by omega) i (by omega)
                 rw [hkk i hin, hkk _ (by omega), hk] at h6
                 rcases h6 with h6 | h6
                 · rcases kdOnR h6 with e | e | ⟨q', c', e, hne⟩
                   · rw [e]; exact ⟨rfl, b2, b3⟩
                   · rw [e]
                     show ((_ : List AO).set q Z) ++ _ = ((_ : List AO) ++ _).set q Z ∧ ((_ : List AO) ++ _)[q]? = _ ∧ q < ((_ : List AO) ++ _).length
                     rw [List.set_append_left _ _ b3, List.getElem?_append_left b3, List.length_append]
                     exact ⟨rfl, b2, by omega⟩
                   · have := hmb _ q' c' (by omega) e
                     rw [e]
                     show ((_ : List AO).set q Z).set q' _ = ((_ : List AO).set q' _).set q Z ∧ ((_ : List AO).set q' _)[q]? = _ ∧ q < ((_ : List AO).set q' _).length
                     rw [List.set_comm _ _ (by omega), List.getElem?_set_ne (by omega), List.length_set]
                     exact ⟨rfl, b2, b3⟩
                 · have := hnopred _ (by omega) hl; unfold rgPred at this; rw [h6] at this; cases this
           obtain ⟨b1, b2, _⟩ := hcB (ops.size - (i + 1)) (by omega)
           rw [hsz1] at b1 b2
           rw [b1]
           exact hstep _ b2
       · rw [Bool.not_eq_true] at hon
         have hS := htail hp hon (fun j => listed.getD j false) (fun _ _ => rfl) (ops.size - (i + 1)) (by omega)
         have hS' := htail hp hon (fun j => (listed.setIfInBounds i true).getD j false) (fun k hk => by show (listed.setIfInBounds i true).getD k false = _; rw [hgs, decide_eq_false (by omega), Bool.false_or]) (ops.size - (i + 1)) (by omega)
         rw [hsz1, hA] at hS
         rw [hsz1, hB] at hS'
         rw [hS, hS']
         cases hk : kk i with
         | pure => exact absurd hk hp
         | on q c => rw [hk] at hon; cases hon
         | inv => rw [hk] at hon; cases hon
         | wi =>
           rw [hk] at hstep
           rw [htnone hp hon (by rw [hk]; simp) (by rw [hk]; simp) _ (by omega), List.append_nil, List.append_nil, hHe hp hon (by rw [hk]; simp)]
           exact hstep.1
         | read =>
           rw [hk] at hstep
           rw [htnone hp hon (by rw [hk]; simp) (by rw [hk]; simp) _ (by omega), List.append_nil, List.append_nil, hHe hp hon (by rw [hk]; simp)]
           exact hstep.2
         | rd =>
           rw [hk] at hstep
           rw [hHe hp hon (by rw [hk]; simp)]
           exact hstep.2 _
         | write =>
           rw [hk] at hstep
           rw [htnone hp hon (by rw [hk]; simp) (by rw [hk]; simp) _ (by omega), List.append_nil, List.append_nil, hHe hp hon (by rw [hk]; simp)]
           exact hstep
         | new =>
           rw [hk] at hstep
           obtain ⟨E, e, hE⟩ := hstep
           rw [htnone hp hon (by rw [hk]; simp) (by rw [hk]; simp) _ (by omega), List.append_nil, List.append_nil]
           have hd : (Hs (i + 1)).drop (Hs i).length = E := by rw [e]; simp
           show OpStep P ops o (σs i) _ (Xs i) (_ ++ (Hs (i + 1)).drop (Hs i).length)
           rw [hd]
           exact hE _ (hHl hk)
         | wf =>
           rw [hk] at hstep
           rw [hHe hp hon (by rw [hk]; simp)]
           have := hT i hin
           rw [hk] at this
           rw [this]
           exact hstep.2 _
   -- behind it
   have hlookC : ∀ t, look (selS Xs (rgDst ops) (fun j => (listed.setIfInBounds i true).getD j false) (σs 0) ops.size) t = look (putS (selS Xs (rgDst ops) (fun j => listed.getD j false) (σs 0) ops.size) (rgDst ops i) (Xs i)) t := by
     intro t
     have hgs : ∀ j, (listed.setIfInBounds i true).getD j false = (decide (j = i) || listed.getD j false) := fun j => getD_set listed i j (by omega)
     have e1 : ∀ k, k ≤ i → selS Xs (rgDst ops) (fun j => (listed.setIfInBounds i true).getD j false) (σs 0) k = selS Xs (rgDst ops) (fun j => listed.getD j false) (σs 0) k := by
       intro k
       induction k with
       | zero => intro _; rfl
       | succ k ihk =>
         intro hk
         show (if (listed.setIfInBounds i true).getD k false = true then _ else _) = (if listed.getD k false = true then _ else _)
         rw [hgs, ihk (by omega), decide_eq_false (by omega), Bool.false_or]
     have e2 : ∀ m, i + 1 + m ≤ ops.size → look (selS Xs (rgDst ops) (fun j => (listed.setIfInBounds i true).getD j false) (σs 0) (i + 1 + m)) t = look (putS (selS Xs (rgDst ops) (fun j => listed.getD j false) (σs 0) (i + 1 + m)) (rgDst ops i) (Xs i)) t := by
       intro m
       induction m with
       | zero =>
         intro _
         show look (if (listed.setIfInBounds i true).getD i false = true then _ else _) t = look (putS (if listed.getD i false = true then _ else _) _ _) t
         rw [hgs, hnl2, decide_eq_true rfl, Bool.true_or, if_pos rfl, if_neg (by simp), e1 i (Nat.le_refl _)]
       | succ m ihm =>
         intro hm
         rw [show i + 1 + (m + 1) = (i + 1 + m) + 1 from rfl, selS_succ, selS_succ, hgs, decide_eq_false (by omega), Bool.false_or]
         have ihm := ihm (by omega)
         cases hl : listed.getD (i + 1 + m) false with
         | false => rw [if_neg (by simp), if_neg (by simp)]; exact ihm
         | true =>
           rw [if_pos rfl, if_pos rfl, look_put, ihm, look_put, look_put, look_put]
           have h6 := hap2 _ (by omega) (by omega) hl
           obtain ⟨ok, hok2⟩ := hop (i + 1 + m) (by omega)
           unfold rgApart at h6
           rw [hok2, ho] at h6
           have h7 := (Oper.apart_spec h6).2.1
           rw [hdst _ ok hok2, hdst i o ho]
           by_cases c1 : ok.dst = some t
           · rw [if_pos c1]
             by_cases c2 : o.dst = some t
             · exact absurd c1 (h7 t c2)
             · rw [if_neg c2, if_pos c1]
           · rw [if_neg c1, if_neg c1]
     have := e2 (ops.size - (i + 1)) (by omega)
     rw [show i + 1 + (ops.size - (i + 1)) = ops.size by omega] at this
     exact this
   have hlr : LRep β W a (σs i) (o.looksAt ops) := fun t ht X hX => h5 t X (by rw [hlookA t ht]; exact hX)
   have hres := hstep2 a W β h4 hlr (wpAny P .any ops Q fuel (listed.setIfInBounds i true)) Q fun v W' β' hx hH' hv => by
     refine ih (listed.setIfInBounds i true) (a.put o.dst v) W' β' (by simpa using hsz) ?_ ?_ (by rw [put_size]; exact h1) (by rw [put_def]; exact h2) (h3.trans hx) hH' ?_
     · have hgs : ∀ j, (listed.setIfInBounds i true).getD j false = (decide (j = i) || listed.getD j false) := fun j => getD_set listed i j (by omega)
       have h6 : ((List.range ops.size).filter fun j => !(listed.setIfInBounds i true).getD j false) = ((List.range ops.size).filter fun j => !listed.getD j false).erase i := by
         rw [List.Nodup.erase_eq_filter (List.nodup_range.filter _) i, List.filter_filter]
         apply List.filter_congr
         intro x _
         rw [hgs]
         by_cases hx : x = i <;> simp [hx]
       rw [h6, List.length_erase_of_mem (List.mem_filter.2 ⟨List.mem_range.2 hin, by simp [hnl2]⟩)]
       omega
     · intro j hj e he
       rw [getD_set listed i _ (by omega)] at hj ⊢
       by_cases hji : j = i
       · subst hji; rw [hed e he]; simp
       · simp only [hji, decide_false, Bool.false_or] at hj
         rw [hcl j hj e he]; simp
     · refine ((h5.ext hx).put o.dst (fun t e => by rw [h1]; exact dstLt_spec hdl t e) hv).congr fun t => ?_
       rw [hlookC t, hdst i o ho]
   unfold wpOp
   rw [ho]
   simp only
   split
   · rename_i hw; rw [if_pos hw] at hres; exact .inl hres
   · rename_i hw; rw [if_neg hw] at hres; exact hres
end Go.Proofs.YtnlpojjfkgnhhaaGreatDoor
namespace Go.Proofs.YtnlpojjfkgnhhaaGreatDoor
open Go.RowKit
abbrev QA := Exit → Sl → List AO → List AO → Prop
inductive NoH (m : Nat) : AV → Prop where
 | int (k : IntKind) (n : Int) : NoH m (.int k n)
 | bool (b : Bool) : NoH m (.bool b)
 | str (s : ByteArray) : NoH m (.str s)
 | raw (v : Value) : NoH m (.raw v)
 | lit (n : Nat) (e : TypeId) (us : List Value) : NoH m (.lit n e us)
 | agg (cs : List AV) (h : ∀ x, x ∈ cs → NoH m x) : NoH m (.agg cs)
 | tup (cs : List AV) (h : ∀ x, x ∈ cs → NoH m x) : NoH m (.tup cs)
 | sl (cs : List AV) (h : ∀ x, x ∈ cs → ∀ y, y ∈ x.cells → NoH m y) : NoH m (.sl cs)
 | pe (cs : List AV) (h : ∀ x, x ∈ cs → NoH m x) : NoH m (.pe cs)
 | box (i off : Nat) (h : i < m) : NoH m (.box i off)
 | own (i g : Nat) (h : i < m) : NoH m (.own i g)
 | elt (i g off : Nat) (h : i < m) : NoH m (.elt i g off)
 | fn (f : Fn) (fs cs : List AV) (h1 : ∀ x, x ∈ fs → NoH m x) (h : ∀ x, x ∈ cs → NoH m x) : NoH m (.fn f fs cs)
 | ifc (t : TypeId) (x : AV) (h : NoH m x) : NoH m (.ifc t x)
 | opt (c : Bool) (x : AV) (h : c = true → NoH m x) : NoH m (.opt c x)
 | adr (T : TypeId) : NoH m (.adr T)
 | buf (e : TypeId) (s : ByteArray) : NoH m (.buf e s)
 | mh (i : Nat) (h : i < m) : NoH m (.mh i)
 | mp (es : List (MK × Value)) : NoH m (.mp es)
 | rc (F : Nat) (cs : List AV) (h : ∀ x, x ∈ cs → NoH m x) : NoH m (.rc F cs)
theorem NoH.mono {m m' : Nat} (hm : m ≤ m') {X : AV} (h : NoH m X) : NoH m' X := by
 induction h with
 | int k n => exact .int k n
 | bool b => exact .bool b
 | str s => exact .str s
 | raw v => exact .raw v
 | lit n e us => exact .lit n e us
 | agg cs _ ih => exact .agg cs ih
 | tup cs _ ih => exact .tup cs ih
 | sl cs _ ih => exact .sl cs ih
 | pe cs _ ih => exact .pe cs ih
 | box i off h => exact .box i off (by omega)
 | own i g h => exact .own i g (by omega)
 | elt i g off h => exact .elt i g off (by omega)
 | fn f fs cs _ _ ih1 ih => exact .fn f fs cs ih1 ih
 | ifc t x _ ih => exact .ifc t x ih
 | opt c x _ ih => exact .opt c x ih
 | adr T => exact .adr T
 | buf e s => exact .buf e s
 | mh i h => exact .mh i (by omega)
 | mp es => exact .mp es
 | rc F cs _ ih => exact .rc F cs ih
def AO.conts : AO → List AV
 | .box cs => cs
 | .row _ _ _ xs => xs.flatMap AV.cells
 | .dead => []
 | .guard => []
 | .map _ => []
def GOK (m : Nat) (G : List AO) : Prop := G.length = m ∧ ∀ o, o ∈ G → ∀ x, x ∈ o.conts → NoH m x
theorem VRep.noH {β : List Hd} {w : World} {v : Value} {X : AV} (h : VRep β w v X) : NoH β.length X := by
 have at' : ∀ (vs : Array Value) (cs : List AV), vs.size = cs.length → (∀ (j : Nat) (u : Value) (x : AV), vs[j]? = some u → cs[j]? = some x → NoH β.length x) → ∀ x, x ∈ cs → NoH β.length x := by
   intro vs cs hl ih x hx
   obtain ⟨j, hj, rfl⟩ := List.mem_iff_getElem.1 hx
   exact ih j _ _ (Array.getElem?_eq_getElem (by omega)) (List.getElem?_eq_getElem hj)
 induction h with
 | int k n => exact .int k n
 | bool b => exact .bool b
 | str s => exact .str s
 | raw v => exact .raw v
 | agg vs cs hl _ ih => exact .agg cs (at' vs cs hl ih)
 | tup vs cs hl _ ih => exact .tup cs (at' vs cs hl ih)
 | slnil => exact .sl [] (fun x hx => by cases hx)
 | slemp a cap hm => exact .sl [] (fun x hx => by cases hx)
 | lit b n e us _ _ _ => exact .lit n e us
 | sl b off cap z xs hc hm2 hb hS hz hd _ ih =>
   refine .sl xs fun x hx y hy => ?_
   obtain ⟨i, hi, rfl⟩ := List.mem_iff_getElem.1 hx
   obtain ⟨j, hj, rfl⟩ := List.mem_iff_getElem.1 hy
   obtain ⟨u, hu⟩ := hd i j _ _ (List.getElem?_eq_getElem hi) (List.getElem?_eq_getElem hj)
   exact ih i j _ _ u (List.getElem?_eq_getElem hi) (List.getElem?_eq_getElem hj) hu
 | pe b off cs hb hS hd _ ih =>
   refine .pe cs fun y hy => ?_
   obtain ⟨j, hj, rfl⟩ := List.mem_iff_getElem.1 hy
   obtain ⟨u, hu⟩ := hd j _ (List.getElem?_eq_getElem hj)
   exact ih j _ u (List.getElem?_eq_getElem hj) hu
 | box b i off hi h => exact .box i off hi
 | own v i g hi h _ => exact .own i g hi
 | elt v i g off hi h => exact .elt i g off hi
 | fn f us vs fs cs hl1 hl _ _ ih1 ih => exact .fn f fs cs (at' us fs hl1 ih1) (at' vs cs hl ih)
 | ifc t v x _ ih => exact .ifc t x ih
 | opt c v x _ _ ih => exact .opt c x ih
 | adr T v => exact .adr T
 | buf e s v => exact .buf e s
 | mh b i hi h => exact .mh i hi
 | mp b es _ _ _ => exact .mp es
 | rc b F vs cs _ _ _ hl _ ih => exact .rc F cs (at' vs cs hl ih)
theorem ORep.noH {β : List Hd} {w : World} {h : Hd} {o : AO} (ho : ORep β w h o) : ∀ x, x ∈ o.conts → NoH β.length x := by
 cases h <;> cases o <;> first | exact ho.elim | skip
 · rename_i b cs
   obtain ⟨arr, T, k1, k2, k3, _⟩ := ho
   intro x hx
   obtain ⟨j, hj, rfl⟩ := List.mem_iff_getElem.1 hx
   have hj' : j < cs.length := hj
   exact (k3 j _ _ (Array.getElem?_eq_getElem (by omega)) (List.getElem?_eq_getElem hj)).noH
 · rename_i v g' g e z xs
   obtain ⟨_, us, k1, k2, k3⟩ := ho
   intro x hx
   obtain ⟨j, hj, rfl⟩ := List.mem_iff_getElem.1 hx
   have h1 : us.length = xs.length * z := k1.1
   have h2 : (xs.flatMap AV.cells).length = xs.length * z := by
     clear k1 k3 h1 hj hx
     induction xs with
     | nil => simp
     | cons x xs ih => rw [List.flatMap_cons, List.length_append, ih (fun y hy => k2 y (List.mem_cons_of_mem _ hy)), k2 x List.mem_cons_self, List.length_cons, Nat.add_mul]; omega
   have hj' : j < (xs.flatMap AV.cells).length := hj
   exact (k3 j _ _ (List.getElem?_eq_getElem (by omega)) (List.getElem?_eq_getElem hj)).noH
 · intro x hx; cases hx
 · intro x hx; cases hx
 · rename_i b v cs
   obtain ⟨arr, T, k1, k2, k3, _⟩ := ho
   intro x hx
   obtain ⟨j, hj, rfl⟩ := List.mem_iff_getElem.1 hx
   have hj' : j < cs.length := hj
   exact (k3 j _ _ (Array.getElem?_eq_getElem (by omega)) (List.getElem?_eq_getElem hj)).noH
 · intro x hx; cases hx
theorem HRel.gok {β : List Hd} {H : List AO} {w : World} (h : HRel β H w) : GOK H.length H := by
 refine ⟨rfl, fun o ho x hx => ?_⟩
 obtain ⟨i, hi, rfl⟩ := List.mem_iff_getElem.1 ho
 rw [← h.len]
 exact (h.ob i _ _ (List.getElem?_eq_getElem hi) (List.getElem?_eq_getElem (by rw [h.len]; exact hi))).noH x hx
def APost (D : List Deferred) (n m : Nat) (β : List Hd) (W : World) (Q : QA) (e : Exit) (a' : Act) (W' : World) : Prop :=
 ∃ β' σ' G' L', Q e σ' G' L' ∧ GOK m G' ∧ a'.tmps.size = n ∧ a'.defers = D ∧ Ext β W β' W' ∧ HRel β' (G' ++ L') W' ∧ SRep β' W' a' σ'
def AWP (P : Program) (n m : Nat) (c : Code) (Q : QA) (σ : Sl) (G L : List AO) : Prop :=
 ∀ (D : List Deferred) (a : Act) (W : World) (β : List Hd), GOK m G → a.tmps.size = n → a.defers = D → HRel β (G ++ L) W → SRep β W a σ → c.wp P (APost D n m β W Q) a W
def thenA (next : Sl → List AO → List AO → Prop) (Q : QA) : QA
 | .normal, σ, G, L => next σ G L
 | e, σ, G, L => Q e σ G L
def blockA (id : Nat) (Q : QA) : QA
 | .exit id', σ, G, L => if id' = id then Q .normal σ G L else Q (.exit id') σ G L
 | e, σ, G, L => Q e σ G L
section
variable {P : Program} {n m : Nat} {Q : QA} {σ : Sl} {G L : List AO}
theorem APost.ext {β β' : List Hd} {W W' : World} (hx : Ext β W β' W') {e : Exit} {a : Act} {W2 : World} {D : List Deferred} (h : APost D n m β' W' Q e a W2) : APost D n m β W Q e a W2 := by
 obtain ⟨b, s, g, l, h1, h2, h3, h4, h5, h6⟩ := h
 exact ⟨b, s, g, l, h1, h2, h3, h4, hx.trans h5, h6⟩
theorem AWP.weak {c : Code} {σ' : Sl} (h : AWP P n m c Q σ' G L) (hs : ∀ t X, look σ' t = some X → look σ t = some X) : AWP P n m c Q σ G L :=
 fun D a W β h1 h2 h3 h4 h5 => h D a W β h1 h2 h3 h4 fun t X ht => h5 t X (hs t X ht)
theorem AWP.keep {c : Code} (ks : List Nat) (h : AWP P n m c Q (keepS ks σ) G L) : AWP P n m c Q σ G L := h.weak (look_keep ks σ)
theorem AWP.mono {c : Code} {Q' : QA} (h : AWP P n m c Q σ G L) (hq : ∀ e σ G L, Q e σ G L → Q' e σ G L) : AWP P n m c Q' σ G L :=
 fun D a W β h1 h2 h3 h4 h5 => Code.wp_mono (fun e a' W' hp => by
   obtain ⟨b, s, g, l, k1, k2⟩ := hp
   exact ⟨b, s, g, l, hq _ _ _ _ k1, k2⟩) (h D a W β h1 h2 h3 h4 h5)
theorem AWP.skip (h : Q .normal σ G L) : AWP P n m .skip Q σ G L :=
 fun D a W β h1 h2 h3 h4 h5 => wp_skip ⟨β, σ, G, L, h, h1, h2, h3, Ext.refl _ _, h4, h5⟩
theorem AWP.ret (h : Q .ret σ G L) : AWP P n m .ret Q σ G L :=
 fun D a W β h1 h2 h3 h4 h5 => wp_ret ⟨β, σ, G, L, h, h1, h2, h3, Ext.refl _ _, h4, h5⟩
theorem AWP.exit {id : Nat} (h : Q (.exit id) σ G L) : AWP P n m (.exit id) Q σ G L :=
 fun D a W β h1 h2 h3 h4 h5 => wp_exit ⟨β, σ, G, L, h, h1, h2, h3, Ext.refl _ _, h4, h5⟩
theorem AWP.seq {x y : Code} (h : AWP P n m x (thenA (AWP P n m y Q) Q) σ G L) : AWP P n m (.seq x y) Q σ G L := by
 intro D a W β h1 h2 h3 h4 h5
 refine wp_seq (Code.wp_mono ?_ (h D a W β h1 h2 h3 h4 h5))
 intro e a' W' ⟨β', σ', G', L', k1, k2, k3, k4, k5, k6, k7⟩
 cases e <;> first
   | exact Code.wp_mono (fun e a W hp => hp.ext k5) (k1 D a' W' β' k2 k3 k4 k6 k7)
   | exact ⟨β', σ', G', L', k1, k2, k3, k4, k5, k6, k7⟩
theorem AWP.block {id : Nat} {c : Code} (h : AWP P n m c (blockA id Q) σ G L) : AWP P n m (.block id c) Q σ G L := by
 intro D a W β h1 h2 h3 h4 h5
 refine wp_block (Code.wp_mono ?_ (h D a W β h1 h2 h3 h4 h5))
 intro e a' W' ⟨β', σ', G', L', k1, k2⟩
 cases e with
 | exit id' =>
   unfold Exit.inBlock
   unfold blockA at k1
   by_cases hid : id' = id
   · simp only [hid, if_true] at k1 ⊢; exact ⟨β', σ', G', L', k1, k2⟩
   · simp only [if_neg hid] at k1 ⊢; exact ⟨β', σ', G', L', k1, k2⟩
 | _ => exact ⟨β', σ', G', L', k1, k2⟩
def cAV : Value → AV
 | .int k n => .int k n
 | .bool b => .bool b
 | .string s => .str s
 | .slice none 0 0 => .sl []
 | v => .raw v
theorem cAV_rep (β : List Hd) (w : World) (v : Value) : VRep β w v (cAV v) := by
 unfold cAV
 split <;> constructor
def evS (σ : Sl) : Operand → Option AV
 | .tmp t => look σ t
 | .const v => some (cAV v)
 | .func f => some (.fn (.func f) [] [])
 | .global g => some (.raw (.pointer (some ⟨g, 0, none⟩)))
theorem SRep.ev {β : List Hd} {w : World} {a : Act} (h : SRep β w a σ) {x : Operand} {X : AV} (hx : evS σ x = some X) : VRep β w (a.eval x) X := by
 cases x with
 | tmp t =>
   obtain ⟨u, h1, h2⟩ := h t X hx
   have e : a.eval (.tmp t) = u := by show a.tmps.getD t undef = u; rw [Array.getD_eq_getD_getElem?, h1]; rfl
   rw [e]; exact h2
 | const v => cases hx; exact cAV_rep _ _ _
 | func f => cases hx; exact .fn _ _ _ _ _ rfl rfl (fun j u x h => by simp at h) (fun j u x h => by simp at h)
 | global g => cases hx; exact .raw _
theorem VRep.bool_inv {β : List Hd} {w : World} {v : Value} {b : Bool} (h : VRep β w v (.bool b)) : v = .bool b := by cases h; rfl
theorem VRep.int_inv {β : List Hd} {w : World} {v : Value} {k : IntKind} {i : Int} (h : VRep β w v (.int k i)) : v = .int k i := by cases h; rfl
theorem VRep.str_inv {β : List Hd} {w : World} {v : Value} {s : ByteArray} (h : VRep β w v (.str s)) : v = .string s := by cases h; rfl
theorem VRep.raw_inv {β : List Hd} {w : World} {v u : Value} (h : VRep β w v (.raw u)) : v = u := by cases h; rfl
theorem AWP.cond {c : Operand} {x y : Code} {b : Bool} (hc : evS σ c = some (.bool b)) (ht : b = true → AWP P n m x Q σ G L) (hf : b = false → AWP P n m y Q σ G L) : AWP P n m (.cond c x y) Q σ G L :=
 fun D a W β h1 h2 h3 h4 h5 => wp_cond_split (h5.ev hc).bool_inv (fun e => ht e D a W β h1 h2 h3 h4 h5) (fun e => hf e D a W β h1 h2 h3 h4 h5)
theorem AWP.loop {c : Code} (I : Sl → List AO → List AO → Prop) (μ : Sl → List AO → List AO → Nat) (h0 : I σ G L)
   (round : ∀ σ G L, I σ G L → AWP P n m c (thenA (fun σ' G' L' => I σ' G' L' ∧ μ σ' G' L' < μ σ G L) Q) σ G L) : AWP P n m (.loop c) Q σ G L := by
 intro D a W β h1 h2 h3 h4 h5 b k cs
 have key : ∀ N σ G L, μ σ G L = N → I σ G L → ∀ (a : Act) (W : World) (β : List Hd), GOK m G → a.tmps.size = n → a.defers = D → HRel β (G ++ L) W → SRep β W a σ →
     ∃ e a' w', APost D n m β W Q e a' w' ∧ Arrives P (lone (b.at a (.code c :: .inLoop c :: k)) cs W) b k cs e a' w' := by
   intro N
   induction N using Nat.strongRecOn with
   | _ N ih =>
     intro σ G L hN hI a W β h1 h2 h3 h4 h5
     obtain ⟨e, a₁, w₁, hq, harr⟩ := round σ G L hI D a W β h1 h2 h3 h4 h5 b (.inLoop c :: k) cs
     obtain ⟨β', σ', G', L', k1, k2, k3, k4, k5, k6, k7⟩ := hq
     cases e with
     | normal =>
       obtain ⟨hI₁, hlt⟩ := k1
       obtain ⟨e₂, a₂, w₂, hq₂, harr₂⟩ := ih _ (hN ▸ hlt) σ' G' L' rfl hI₁ a₁ w₁ β' k2 k3 k4 k6 k7
       exact ⟨e₂, a₂, w₂, hq₂.ext k5, .of_steps (Steps.trans harr (.one step_inLoop)) harr₂⟩
     | exit id => exact ⟨_, a₁, w₁, ⟨β', σ', G', L', k1, k2, k3, k4, k5, k6, k7⟩, .pass (x := .inLoop c) rfl (fun _ _ => .inl (by simp)) harr⟩
     | goto l => exact ⟨_, a₁, w₁, ⟨β', σ', G', L', k1, k2, k3, k4, k5, k6, k7⟩, .pass (x := .inLoop c) rfl (fun _ _ => .inl (by simp)) harr⟩
     | ret => exact ⟨_, a₁, w₁, ⟨β', σ', G', L', k1, k2, k3, k4, k5, k6, k7⟩, .pass (x := .inLoop c) rfl (fun _ _ => .inl (by simp)) harr⟩
     | panic ch => exact ⟨_, a₁, w₁, ⟨β', σ', G', L', k1, k2, k3, k4, k5, k6, k7⟩, .pass (x := .inLoop c) rfl (fun _ _ => .inl (by simp)) harr⟩
     | outgrown => exact ⟨_, a₁, w₁, ⟨β', σ', G', L', k1, k2, k3, k4, k5, k6, k7⟩, .pass (x := .inLoop c) rfl (fun _ _ => .inl (by simp)) harr⟩
 obtain ⟨e, a', w', hq, harr⟩ := key _ σ G L rfl h0 a W β h1 h2 h3 h4 h5
 exact ⟨e, a', w', hq, .of_steps (.one step_loop) harr⟩
def endQ (m : Nat) (Q : QA) (_ks : List Kd) (σ : Sl) (H : List AO) : Prop := ∃ G L, H = G ++ L ∧ GOK m G ∧ Q .normal σ G L
theorem AWP.region {id : Nat} {ops : Array Oper} (h : GOK m G → ARun P ops n (endQ m Q) ops.toList [] σ (G ++ L)) : AWP P n m (.region id ops false) Q σ G L := by
 intro D a W β h1 h2 h3 h4 h5
 refine wp_region_list (run_list ops.toList [] σ (G ++ L) a W β (h h1) h2 h4 h5 ?_)
 rintro ks' σ' H' a' W' β' ⟨G', L', rfl, g1, g2⟩ q2 q3 q4 q5 q6
 exact ⟨β', σ', G', L', g2, g1, q2, q3.trans h3, q4, q5, q6⟩
def AtK (m : Nat) (ks : List Kd) : Prop := ∀ q c, Kd.on q c ∈ ks → q = m + c
def noOn (ks : List Kd) : Bool := ks.all fun k => !isOn k
theorem AtK.no {m : Nat} {ks : List Kd} (h : noOn ks = true) : AtK m ks := fun q c hm => by
 have := List.all_eq_true.1 h _ hm
 cases this
def okKd (ops : Array Oper) (ks : List Kd) : Bool := noOn ks && okKd0 ops ks
def endD (m : Nat) (ops : Array Oper) (Q : QA) (ks : List Kd) (σ : Sl) (H : List AO) : Prop := okKd ops ks = true ∧ ∃ G L, H = G ++ L ∧ GOK m G ∧ Q .normal σ G L
def endRes (m : Nat) (ops : Array Oper) (Q : QA) (ks : List Kd) (σ : Sl) (H : List AO) : Prop := (okKd0 ops ks = true ∧ AtK m ks) ∧ ∃ G L, H = G ++ L ∧ GOK m G ∧ Q .normal σ G L
theorem ARun.mono {P : Program} {ops : Array Oper} {n : Nat} {A B : List Kd → Sl → List AO → Prop} (hAB : ∀ ks σ H, A ks σ H → B ks σ H) : ∀ (l : List Oper) (ks : List Kd) (σ : Sl) (H : List AO), ARun P ops n A l ks σ H → ARun P ops n B l ks σ H := by
 intro l
 induction l with
 | nil => exact hAB
 | cons o l ih =>
   intro ks σ H h
   obtain ⟨k, X, H', a, b, c⟩ := h
   exact ⟨k, X, H', a, b, ih _ _ _ c⟩
theorem AWP.drawO {id : Nat} {ops : Array Oper} (hm : P.follows .mixedOrders = true) (hok : rgOk ops = true) (h : GOK m G → ARun P ops n (endRes m ops Q) ops.toList [] σ (G ++ L)) : AWP P n m (.region id ops true) Q σ G L := by
 intro D a W β h1 h2 h3 h4 h5
 refine wp_region_any hm ?_
 obtain ⟨Xs, σs, Hs, kk, e1, e2, e3, e4, e5⟩ := run_seqs _ _ _ _ (h h1)
 have hlen : ops.toList.length = ops.size := Array.length_toList
 rw [hlen] at e4 e5
 have hz : ∀ i, (Array.replicate ops.size false).getD i false = false := fun i => by by_cases h : i < ops.size <;> simp [Array.getD, h]
 have hb : Below W.heap.size W { W with drawn := W.drawn + 1 } := ⟨rfl, rfl, rfl, Nat.le_refl _, fun _ _ => rfl⟩
 obtain ⟨G', L', g0, g1, g2⟩ := e5
 have eS : ∀ k, selS Xs (rgDst ops) (fun j => (Array.replicate ops.size false).getD j false) (σs 0) k = σs 0 := by
   intro k
   induction k with
   | zero => rfl
   | succ k ih => rw [selS_succ, hz, if_neg (by simp)]; exact ih
 have eH : ∀ k, selH Hs kk (fun j => (Array.replicate ops.size false).getD j false) (Hs 0) k = Hs 0 := by
   intro k
   induction k with
   | zero => rfl
   | succ k ih => rw [selH_succ, hz, if_neg (by simp)]; exact ih
 refine run_any hok Xs σs Hs kk (by simpa using e4.1) (mb := m) (fun i q c hi hk => e4.2 q c (by rw [List.nil_append]; exact List.mem_map.2 ⟨i, List.mem_range.2 hi, hk⟩)) (fun i o ho => e3 i o (by simpa using ho)) β W D ?_ ops.size _ a _ β (by simp)
   (by rw [List.filter_eq_self.2 (fun j _ => by rw [hz]; rfl)]; simp) (by intro i hi; rw [hz] at hi; cases hi) h2 h3 (Ext.of_below β hb) ?_ ?_
 · intro a' W' β' q1 q2 q3 q4 q5
   exact ⟨β', _, G', L', g2, g1, q1, q2, q3, by rw [← g0]; exact q4, q5⟩
 · rw [eH, e2]; exact h4.below hb
 · rw [eS, e1]; exact h5.ext (Ext.of_below β hb)
theorem AWP.draw {id : Nat} {ops : Array Oper} (hm : P.follows .mixedOrders = true) (hok : rgOk ops = true) (h : GOK m G → ARun P ops n (endD m ops Q) ops.toList [] σ (G ++ L)) : AWP P n m (.region id ops true) Q σ G L :=
 AWP.drawO hm hok fun hg => ARun.mono (fun ks σ H hh => by
   obtain ⟨h1, h2⟩ := hh
   unfold okKd at h1
   rw [Bool.and_eq_true] at h1
   exact ⟨⟨h1.2, AtK.no h1.1⟩, h2⟩) _ _ _ _ (h hg)
end
/-! ### functions -/
def VReps (β : List Hd) (w : World) (vs : Array Value) (xs : List AV) : Prop := vs.size = xs.length ∧ ∀ (j : Nat) (u : Value) (x : AV), vs[j]? = some u → xs[j]? = some x → VRep β w u x
def FnH (P : Program) (f : FuncId) (args : List AV) (H : List AO) (r : AV) (H' : List AO) : Prop :=
 ∀ (w : World) (β : List Hd) (vs : Array Value), HRel β H w → VReps β w vs args →
   Calls P f vs w fun e w' => ∃ v β', e = .returned v ∧ Ext β w β' w' ∧ HRel β' H' w' ∧ VRep β' w' v r
def FnP (P : Program) (f : FuncId) (args : List AV) (r : AV) : Prop := NoH 0 r ∧ ∀ k, FnH P f args (List.replicate k .guard) r (List.replicate k .guard)
def Hd.toG (h : Hd) : Hd := .guard h.blks
theorem still_toG (β : List Hd) (b : Nat) : Still (β.map Hd.toG) b ↔ Still β b := by
 constructor
 · intro h x hx; exact h x.toG (List.mem_map_of_mem hx)
 · intro h x hx
   obtain ⟨y, hy, rfl⟩ := List.mem_map.1 hx
   exact h y hy
theorem VRep.narrow {β β' : List Hd} {w : World} (hl : β.length ≤ β'.length) (hs : ∀ b, Still β b → Still β' b) (hb : ∀ (i : Nat) (x : Hd) (b : Nat), β'[i]? = some x → x.cb ≠ some b) (hr : ∀ (i : Nat) (v : Value) (g : Nat), β'[i]? ≠ some (.row v g)) {v : Value} {X : AV} (h : VRep β w v X) : VRep β' w v X := by
 induction h with
 | int k n => exact .int k n
 | bool b => exact .bool b
 | str s => exact .str s
 | raw v => exact .raw v
 | agg vs cs hl _ ih => exact .agg vs cs hl ih
 | tup vs cs hl _ ih => exact .tup vs cs hl ih
 | slnil => exact .slnil
 | slemp a cap hm => exact .slemp a cap hm
 | lit b n e us hb2 hS hh => exact .lit b n e us hb2 (hs b hS) hh
 | sl b off cap z xs hc hm hbk hS hz hd _ ih => exact .sl b off cap z xs hc hm hbk (hs b hS) hz hd ih
 | pe b off cs hbk hS hd _ ih => exact .pe b off cs hbk (hs b hS) hd ih
 | box b0 i off hi h => exact .box b0 i off (Nat.lt_of_lt_of_le hi hl) (fun x b h2 h3 => absurd h3 (hb i x b h2))
 | own v i g hi h ho => exact .own v i g (Nat.lt_of_lt_of_le hi hl) (fun u g' h2 => absurd h2 (hr i u g')) ho
 | elt v i g off hi h => exact .elt v i g off (Nat.lt_of_lt_of_le hi hl) fun u g' h2 => absurd h2 (hr i u g')
 | fn f us vs fs cs hl1 hl _ _ ih1 ih => exact .fn f us vs fs cs hl1 hl ih1 ih
 | ifc t v x _ ih => exact .ifc t v x ih
 | opt c v x _ h0 ih => exact .opt c v x ih h0
 | adr T v => exact .adr T v
 | buf e s v => exact .buf e s v
 | mh b0 i hi h => exact .mh b0 i (Nat.lt_of_lt_of_le hi hl) (fun x b h2 h3 => absurd h3 (hb i x b h2))
 | mp b es hbk hS hm => exact .mp b es hbk (hs b hS) hm
 | rc b F vs cs hbk hS hc hl _ ih => exact .rc b F vs cs hbk (hs b hS) hc hl ih
theorem VRep.widen {β β' : List Hd} {w : World} (hs : ∀ b, Still β b → Still β' b) {v : Value} {X : AV} (h : VRep β w v X) (hn : NoH 0 X) : VRep β' w v X := by
 induction h with
 | int k n => exact .int k n
 | bool b => exact .bool b
 | str s => exact .str s
 | raw v => exact .raw v
 | agg vs cs hl _ ih => cases hn with | agg _ h => exact .agg vs cs hl fun j u x a b => ih j u x a b (h x (List.mem_of_getElem? b))
 | tup vs cs hl _ ih => cases hn with | tup _ h => exact .tup vs cs hl fun j u x a b => ih j u x a b (h x (List.mem_of_getElem? b))
 | slnil => exact .slnil
 | slemp a cap hm => exact .slemp a cap hm
 | lit b n e us hb2 hS hh => exact .lit b n e us hb2 (hs b hS) hh
 | sl b off cap z xs hc hm2 hb hS hz hd _ ih => cases hn with | sl _ h => exact .sl b off cap z xs hc hm2 hb (hs b hS) hz hd fun i j x y u a c d => ih i j x y u a c d (h x (List.mem_of_getElem? a) y (List.mem_of_getElem? c))
 | pe b off cs hb hS hd _ ih => cases hn with | pe _ h => exact .pe b off cs hb (hs b hS) hd fun j y u c d => ih j y u c d (h y (List.mem_of_getElem? c))
 | box b i off hi h => cases hn with | box _ _ h2 => exact absurd h2 (Nat.not_lt_zero _)
 | own v i g hi h _ => cases hn with | own _ _ h2 => exact absurd h2 (Nat.not_lt_zero _)
 | elt v i g off hi h => cases hn with | elt _ _ _ h2 => exact absurd h2 (Nat.not_lt_zero _)
 | fn f us vs fs cs hl1 hl _ _ ih1 ih => cases hn with | fn _ _ _ h1 h => exact .fn f us vs fs cs hl1 hl (fun j u x a b => ih1 j u x a b (h1 x (List.mem_of_getElem? b))) (fun j u x a b => ih j u x a b (h x (List.mem_of_getElem? b)))
 | ifc t v x _ ih => cases hn with | ifc _ _ h => exact .ifc t v x (ih h)
 | opt c v x _ h0 ih => cases hn with | opt _ _ h => exact .opt c v x (fun e => ih e (h e)) h0
 | adr T v => exact .adr T v
 | buf e s v => exact .buf e s v
 | mh b i hi h => cases hn with | mh _ h2 => exact absurd h2 (Nat.not_lt_zero _)
 | mp b es hb hS hm => exact .mp b es hb (hs b hS) hm
 | rc b F vs cs hb hS hc hl _ ih => cases hn with | rc _ _ h => exact .rc b F vs cs hb (hs b hS) hc hl fun j u x a b => ih j u x a b (h x (List.mem_of_getElem? b))
theorem pure_call {P : Program} {f : FuncId} {args : List AV} {r : AV} (h : FnP P f args r) {β : List Hd} {H : List AO} {w : World} (hH : HRel β H w) {vs : Array Value} (hv : VReps β w vs args) :
   Calls P f vs w fun e w' => ∃ v, e = .returned v ∧ Below w.heap.size w w' ∧ VRep β w' v r := by
 have hget : ∀ (i : Nat) (x : Hd), (β.map Hd.toG)[i]? = some x → ∃ y, β[i]? = some y ∧ x = .guard y.blks := by
   intro i x hx
   rw [List.getElem?_map, Option.map_eq_some_iff] at hx
   obtain ⟨y, h1, h2⟩ := hx
   exact ⟨y, h1, h2.symm⟩
 have hHc : HRel (β.map Hd.toG) (List.replicate β.length .guard) w := by
   refine ⟨hH.gl.weak (fun b hb => (still_toG β b).2 hb), by simp, fun i o x h1 h2 => ?_, fun i j hi hj b hne h1 h2 h3 => ?_⟩
   · obtain ⟨y, k1, rfl⟩ := hget i x h2
     have : o = .guard := by
       have := List.mem_of_getElem? h1
       exact List.eq_of_mem_replicate this
     subst this
     exact fun b hb => hH.lt k1 hb
   · obtain ⟨y, k1, rfl⟩ := hget i hi h1
     obtain ⟨z, k2, rfl⟩ := hget j hj h2
     exact hH.ap i j y z b hne k1 k2 h3
 refine (h.2 β.length w (β.map Hd.toG) vs hHc ⟨hv.1, fun j u x a b => (hv.2 j u x a b).narrow (by simp) (fun b hb => (still_toG β b).2 hb) ?_ ?_⟩).mono ?_
 · intro i x b hb; obtain ⟨y, _, e⟩ := hget i _ hb; subst e; simp [Hd.cb]
 · intro i v g hb; obtain ⟨y, _, e⟩ := hget i _ hb; cases e
 · rintro e w' ⟨v, β', rfl, k1, k2, k3⟩
   have hbel : Below w.heap.size w w' := by
     refine ⟨k1.os, k1.tape, k1.output, k1.size, fun k hk => ?_⟩
     by_cases hs : Still (β.map Hd.toG) k
     · exact k1.block k hk hs
     · have : ∃ y, y ∈ β ∧ k ∈ y.blks := by
         rw [still_toG] at hs
         unfold Still at hs
         simp only [Classical.not_forall] at hs
         obtain ⟨y, hy, h2⟩ := hs
         exact ⟨y, hy, Classical.not_not.1 h2⟩
       obtain ⟨y, hy, hb⟩ := this
       exact k1.guard y.blks k (List.mem_map.2 ⟨y, hy, rfl⟩) hb hk
   refine ⟨v, rfl, hbel, k3.widen (fun b hb => fun y hy e => ?_) h.1⟩
   have := k1.guard_mem (List.mem_map.2 ⟨y, hy, rfl⟩)
   exact hb _ this e
theorem VRep.take {β : List Hd} {w : World} {m : Nat} (hm : m ≤ β.length) {v : Value} {X : AV} (h : VRep β w v X) (hn : NoH m X) : VRep (β.take m) w v X := by
 have hst : ∀ b, Still β b → Still (β.take m) b := fun b hb x hx => hb x (List.mem_of_mem_take hx)
 induction h with
 | int k n => exact .int k n
 | bool b => exact .bool b
 | str s => exact .str s
 | raw v => exact .raw v
 | agg vs cs hl _ ih => cases hn with | agg _ h => exact .agg vs cs hl fun j u x a b => ih j u x a b (h x (List.mem_of_getElem? b))
 | tup vs cs hl _ ih => cases hn with | tup _ h => exact .tup vs cs hl fun j u x a b => ih j u x a b (h x (List.mem_of_getElem? b))
 | slnil => exact .slnil
 | slemp a cap hm => exact .slemp a cap hm
 | lit b n e us hb2 hS hh => exact .lit b n e us hb2 (hst b hS) hh
 | sl b off cap z xs hc hm2 hb hS hz hd _ ih => cases hn with | sl _ h => exact .sl b off cap z xs hc hm2 hb (hst b hS) hz hd fun i j x y u a c d => ih i j x y u a c d (h x (List.mem_of_getElem? a) y (List.mem_of_getElem? c))
 | pe b off cs hb hS hd _ ih => cases hn with | pe _ h => exact .pe b off cs hb (hst b hS) hd fun j y u c d => ih j y u c d (h y (List.mem_of_getElem? c))
 | box b0 i off hi h => cases hn with | box _ _ h2 => exact .box b0 i off (by rw [List.length_take]; omega) (fun x b hb => h x b (by rw [List.getElem?_take_of_lt h2] at hb; exact hb))
 | own v i g hi h ho => cases hn with | own _ _ h2 => exact .own v i g (by rw [List.length_take]; omega) (fun b g' hb => h b g' (by rw [List.getElem?_take_of_lt h2] at hb; exact hb)) ho
 | elt v i g off hi h => cases hn with | elt _ _ _ h2 => exact .elt v i g off (by rw [List.length_take]; omega) fun b g' hb => h b g' (by rw [List.getElem?_take_of_lt h2] at hb; exact hb)
 | fn f us vs fs cs hl1 hl _ _ ih1 ih => cases hn with | fn _ _ _ h1 h => exact .fn f us vs fs cs hl1 hl (fun j u x a b => ih1 j u x a b (h1 x (List.mem_of_getElem? b))) (fun j u x a b => ih j u x a b (h x (List.mem_of_getElem? b)))
 | ifc t v x _ ih => cases hn with | ifc _ _ h => exact .ifc t v x (ih h)
 | opt c v x _ h0 ih => cases hn with | opt _ _ h => exact .opt c v x (fun e => ih e (h e)) h0
 | adr T v => exact .adr T v
 | buf e s v => exact .buf e s v
 | mh b0 i hi h => cases hn with | mh _ h2 => exact .mh b0 i (by rw [List.length_take]; omega) (fun x b hb => h x b (by rw [List.getElem?_take_of_lt h2] at hb; exact hb))
 | mp b es hb hS hm => exact .mp b es hb (hst b hS) hm
 | rc b F vs cs hb hS hc hl _ ih => cases hn with | rc _ _ h => exact .rc b F vs cs hb (hst b hS) hc hl fun j u x a b => ih j u x a b (h x (List.mem_of_getElem? b))
theorem Ext.take {β β' : List Hd} {w w' : World} (h : Ext β w β' w') : Ext β w (β'.take β.length) w' :=
 ⟨h.os, h.tape, h.output, h.size, h.block, fun k hk hs x hx => h.apart k hk hs x (List.mem_of_mem_take hx), fun i x hx => by
   have hi := (List.getElem?_eq_some_iff.1 hx).1
   rw [List.getElem?_take_of_lt hi]; exact h.hd i x hx, h.guard⟩
theorem Still.take {β : List Hd} {m b : Nat} (h : Still β b) : Still (β.take m) b := fun x hx => h x (List.mem_of_mem_take hx)
theorem HRel.take {β : List Hd} {G L : List AO} {w : World} (h : HRel β (G ++ L) w) (hg : ∀ o, o ∈ G → ∀ x, x ∈ o.conts → NoH G.length x) : HRel (β.take G.length) G w := by
 have hlen := h.len
 rw [List.length_append] at hlen
 refine ⟨h.gl.weak (fun b hb x hx => hb x (List.mem_of_mem_take hx)), by rw [List.length_take]; omega, fun i o x h1 h2 => ?_, fun i j hi hj b hne h1 h2 => h.ap i j hi hj b hne ?_ ?_⟩
 · have hi := (List.getElem?_eq_some_iff.1 h1).1
   have h3 := h.ob i o x (by rw [List.getElem?_append_left hi]; exact h1) (by rw [List.getElem?_take_of_lt hi] at h2; exact h2)
   have hmem := List.mem_of_getElem? h1
   cases x <;> cases o <;> first | exact h3.elim | skip
   · obtain ⟨arr, T, k1, k2, k3, k4⟩ := h3
     exact ⟨arr, T, k1, k2, fun j u y a c => (k3 j u y a c).take (by omega) (hg _ hmem y (List.mem_of_getElem? c)), k4⟩
   · obtain ⟨hgg, us, k1, k2, k3⟩ := h3
     exact ⟨hgg, us, k1, k2, fun j u y a c => (k3 j u y a c).take (by omega) (hg _ hmem y (List.mem_of_getElem? c))⟩
   · trivial
   · exact h3
   · obtain ⟨arr, T, k1, k2, k3, k4⟩ := h3
     exact ⟨arr, T, k1, k2, fun j u y a c => (k3 j u y a c).take (by omega) (hg _ hmem y (List.mem_of_getElem? c)), k4⟩
   · exact h3
 · have := (List.getElem?_eq_some_iff.1 h1).1
   rw [List.length_take] at this
   rw [List.getElem?_take_of_lt (by omega)] at h1; exact h1
 · have := (List.getElem?_eq_some_iff.1 h2).1
   rw [List.length_take] at this
   rw [List.getElem?_take_of_lt (by omega)] at h2; exact h2
def zipS (vs : List AV) (k : Nat) : Sl := match vs with | [] => [] | x :: l => (k, x) :: zipS l (k + 1)
theorem look_zip : ∀ (xs : List AV) (k t : Nat) (X : AV), look (zipS xs k) t = some X → k ≤ t ∧ xs[t - k]? = some X := by
 intro xs
 induction xs with
 | nil => intro k t X h; cases h
 | cons x xs ih =>
   intro k t X h
   change (bif Nat.beq k t then some x else look (zipS xs (k + 1)) t) = some X at h
   cases hb : Nat.beq k t with
   | true =>
     rw [hb] at h
     obtain rfl := Nat.eq_of_beq_eq_true hb
     simpa using h
   | false =>
     rw [hb] at h
     obtain ⟨h1, h2⟩ := ih (k + 1) t X h
     refine ⟨by omega, ?_⟩
     rw [show t - k = (t - (k + 1)) + 1 by omega, List.getElem?_cons_succ]; exact h2
def Tells (P : Program) (fn : Func) (β : List Hd) (a : Act) (W : World) (r : AV) : Prop := ∃ v, (results fn a.tmps).run P W = .ok v W ∧ VRep β W v r
def endF (P : Program) (fn : Func) (r : AV) (G' : List AO) : QA := fun e σ G L => (e = .normal ∨ e = .ret) ∧ G = G' ∧ NoH G.length r ∧
 ∀ (β : List Hd) (a : Act) (W : World), HRel β (G ++ L) W → SRep β W a σ → Tells P fn β a W r
theorem FnH.of0 {P : Program} {f : FuncId} {fn : Func} {c : Code} {args : List AV} {G G' : List AO} {r : AV} {n : Nat} (hf : P.funcs[f]? = some fn) (hb : fn.body = some c) (hn : fn.ntmps = n) (hna : args.length ≤ n)
   (h : GOK G.length G → AWP P n G.length c (endF P fn r G') (zipS args 0) G []) : FnH P f args G r G' := by
 intro w β vs hH hv
 refine calls_of_wp hf hb (Code.wp_mono ?_ (h hH.gok [] { tmps := vs ++ Array.replicate (fn.ntmps - vs.size) undef, defers := [] } w β hH.gok ?_ rfl (by rw [List.append_nil]; exact hH) ?_))
 · intro e a' W' ⟨β', σ', G2, L', k1, k2, k3, k4, k5, k6, k7⟩
   obtain ⟨he, rfl, hnh, ht⟩ := k1
   obtain ⟨v, hr, hvr⟩ := ht β' a' W' k6 k7
   have hl : G2.length = β.length := by rw [k2.1, hH.len]
   have hfin : ∃ v' β'', Ending.returned v = Ending.returned v' ∧ Ext β w β'' W' ∧ HRel β'' G2 W' ∧ VRep β'' W' v' r := by
     refine ⟨v, β'.take β.length, rfl, k5.take, ?_, ?_⟩
     · rw [← hl]; exact k6.take (fun o ho x hx => by rw [k2.1]; exact k2.2 o ho x hx)
     · have hl2 := k6.len
       rw [List.length_append] at hl2
       exact hvr.take (by omega) (by rw [← hl]; exact hnh)
   rcases he with rfl | rfl
   · exact ⟨k4, v, hr, hfin⟩
   · exact ⟨k4, v, hr, hfin⟩
 · rw [Array.size_append, Array.size_replicate, hv.1, hn]; omega
 · intro t X ht
   obtain ⟨_, h2⟩ := look_zip _ _ _ _ ht
   rw [Nat.sub_zero] at h2
   have hlt : t < vs.size := by rw [hv.1]; exact (List.getElem?_eq_some_iff.1 h2).1
   refine ⟨vs[t], ?_, hv.2 t _ _ (Array.getElem?_eq_getElem hlt) h2⟩
   show (vs ++ _)[t]? = _
   rw [Array.getElem?_append_left hlt, Array.getElem?_eq_getElem hlt]
theorem FnP.of {P : Program} {f : FuncId} {fn : Func} {c : Code} {args : List AV} {r : AV} {n : Nat} (hf : P.funcs[f]? = some fn) (hb : fn.body = some c) (hn : fn.ntmps = n) (hna : args.length ≤ n) (hr : NoH 0 r)
   (h : ∀ G, GOK G.length G → AWP P n G.length c (endF P fn r G) (zipS args 0) G []) : FnP P f args r := ⟨hr, fun k => FnH.of0 hf hb hn hna (h _)⟩
theorem Tells.one {P : Program} {fn : Func} {β : List Hd} {a : Act} {W : World} {σ : Sl} {r : AV} {t : Nat} (hs : SRep β W a σ) (hr : fn.results = #[.tmp t]) (ht : look σ t = some r) : Tells P fn β a W r := by
 obtain ⟨u, h1, h2⟩ := hs t r ht
 refine ⟨a.tmps.getD t undef, results_tmp hr _ _ _, ?_⟩
 have : a.tmps.getD t undef = u := by rw [Array.getD_eq_getD_getElem?, h1]; rfl
 rw [this]; exact h2
theorem Tells.none {P : Program} {fn : Func} {β : List Hd} {a : Act} {W : World} (hr : fn.results = #[]) : Tells P fn β a W (.tup []) :=
 ⟨_, results_none hr _ _ _, .tup _ _ rfl (fun j u x h => by simp at h)⟩
def evT (σ : Sl) : List Nat → Option (List AV)
 | [] => some []
 | t :: l => match look σ t, evT σ l with | some x, some xs => some (x :: xs) | _, _ => none
theorem evT_spec {β : List Hd} {W : World} {a : Act} {σ : Sl} (hs : SRep β W a σ) : ∀ (ts : List Nat) (xs : List AV), evT σ ts = some xs → ts.length = xs.length ∧ ∀ (j : Nat) (t : Nat) (x : AV), ts[j]? = some t → xs[j]? = some x → VRep β W (a.tmps.getD t undef) x := by
 intro ts
 induction ts with
 | nil => intro xs h; cases h; exact ⟨rfl, fun j t x h => by simp at h⟩
 | cons t ts ih =>
   intro xs h
   unfold evT at h
   split at h
   · rename_i x xs' h1 h2
     cases h
     obtain ⟨i1, i2⟩ := ih xs' h2
     refine ⟨by simp [i1], fun j u y hj hy => ?_⟩
     cases j with
     | zero =>
       simp at hj hy
       subst hj; subst hy
       obtain ⟨v, k1, k2⟩ := hs t x h1
       have : a.tmps.getD t undef = v := by rw [Array.getD_eq_getD_getElem?, k1]; rfl
       rw [this]; exact k2
     | succ j => exact i2 j u y (by simpa using hj) (by simpa using hy)
   · cases h
theorem Tells.many {P : Program} {fn : Func} {β : List Hd} {a : Act} {W : World} {σ : Sl} {rs : List AV} {ts : List Nat} (hs : SRep β W a σ) (hr : fn.results = (ts.map ResultVar.tmp).toArray) (h1 : ts.length ≠ 1) (ht : evT σ ts = some rs) : Tells P fn β a W (.tup rs) := by
 obtain ⟨e1, e2⟩ := evT_spec hs ts rs ht
 refine ⟨.tuple (ts.map fun t => a.tmps.getD t undef).toArray, ?_, ?_⟩
 · unfold results
   rw [hr]
   simp only [List.mapM_toArray, List.mapM_map, Function.comp_def]
   simp [h1]
 · refine .tup _ _ (by simp [e1]) fun j u x hj hx => ?_
   simp only [List.getElem?_toArray, List.getElem?_map, Option.map_eq_some_iff] at hj
   obtain ⟨t, ht, rfl⟩ := hj
   exact e2 j t x ht hx
theorem thenA_n {next : Sl → List AO → List AO → Prop} {Q : QA} {σ : Sl} {G L : List AO} (h : next σ G L) : thenA next Q .normal σ G L := h
theorem thenA_x {next : Sl → List AO → List AO → Prop} {Q : QA} {σ : Sl} {G L : List AO} {i : Nat} (h : Q (.exit i) σ G L) : thenA next Q (.exit i) σ G L := h
theorem thenA_r {next : Sl → List AO → List AO → Prop} {Q : QA} {σ : Sl} {G L : List AO} (h : Q .ret σ G L) : thenA next Q .ret σ G L := h
theorem blockA_n {id : Nat} {Q : QA} {σ : Sl} {G L : List AO} (h : Q .normal σ G L) : blockA id Q .normal σ G L := h
theorem blockA_r {id : Nat} {Q : QA} {σ : Sl} {G L : List AO} (h : Q .ret σ G L) : blockA id Q .ret σ G L := h
theorem blockA_h {id : Nat} {Q : QA} {σ : Sl} {G L : List AO} (h : Q .normal σ G L) : blockA id Q (.exit id) σ G L := by unfold blockA; simp only [if_true]; exact h
theorem blockA_o {id i : Nat} {Q : QA} {σ : Sl} {G L : List AO} (hne : i ≠ id) (h : Q (.exit i) σ G L) : blockA id Q (.exit i) σ G L := by unfold blockA; simp only [if_neg hne]; exact h
inductive SubS (σ : Sl) : Sl → Prop where
 | nil : SubS σ []
 | cons {t : Nat} {X : AV} {l : Sl} (h : look σ t = some X) (r : SubS σ l) : SubS σ ((t, X) :: l)
theorem SubS.look {σ σ' : Sl} (h : SubS σ σ') : ∀ t X, look σ' t = some X → look σ t = some X := by
 induction h with
 | nil => intro t X h; cases h
 | @cons k Y l h1 _ ih =>
   intro t X ht
   change (bif Nat.beq k t then some Y else Go.Proofs.YtnlpojjfkgnhhaaGreatDoor.look l t) = some X at ht
   cases hb : Nat.beq k t with
   | true => rw [hb] at ht; obtain rfl := Nat.eq_of_beq_eq_true hb; rw [h1]; exact ht
   | false => rw [hb] at ht; exact ih t X ht
theorem AWP.to {P : Program} {n m : Nat} {c : Code} {Q : QA} {σ : Sl} {G L : List AO} (σ' : Sl) (hs : SubS σ σ') (h : AWP P n m c Q σ' G L) : AWP P n m c Q σ G L := h.weak hs.look
theorem AWP.cut {P : Program} {n m : Nat} {x y : Code} {Q : QA} {σ : Sl} {G L : List AO} (R : Sl → List AO → List AO → Prop) (h : AWP P n m x (thenA R Q) σ G L) (h2 : ∀ σ G L, GOK m G → R σ G L → AWP P n m y Q σ G L) : AWP P n m (.seq x y) Q σ G L := by
 refine AWP.seq fun D a W β h1 h3 h4 h5 h6 => Code.wp_mono (fun e a' W' hp => ?_) (h D a W β h1 h3 h4 h5 h6)
 obtain ⟨b, s, g, l, k1, k2, k3⟩ := hp
 refine ⟨b, s, g, l, ?_, k2, k3⟩
 cases e <;> first | exact h2 _ _ _ k2 k1 | exact k1
section
variable {m : Nat}
@[simp] theorem noH_int (k : IntKind) (i : Int) : NoH m (.int k i) := .int k i
@[simp] theorem noH_bool (b : Bool) : NoH m (.bool b) := .bool b
@[simp] theorem noH_str (s : ByteArray) : NoH m (.str s) := .str s
@[simp] theorem noH_lit (n : Nat) (e : TypeId) (us : List Value) : NoH m (.lit n e us) := .lit n e us
@[simp] theorem noH_raw (v : Value) : NoH m (.raw v) := .raw v
@[simp] theorem noH_agg (cs : List AV) : NoH m (.agg cs) ↔ ∀ x, x ∈ cs → NoH m x := ⟨fun h => by cases h with | agg _ h => exact h, .agg cs⟩
@[simp] theorem noH_tup (cs : List AV) : NoH m (.tup cs) ↔ ∀ x, x ∈ cs → NoH m x := ⟨fun h => by cases h with | tup _ h => exact h, .tup cs⟩
@[simp] theorem noH_pe (cs : List AV) : NoH m (.pe cs) ↔ ∀ x, x ∈ cs → NoH m x := ⟨fun h => by cases h with | pe _ h => exact h, .pe cs⟩
@[simp] theorem noH_sl (cs : List AV) : NoH m (.sl cs) ↔ ∀ x, x ∈ cs → ∀ y, y ∈ x.cells → NoH m y := ⟨fun h => by cases h with | sl _ h => exact h, .sl cs⟩
@[simp] theorem noH_box (i off : Nat) : NoH m (.box i off) ↔ i < m := ⟨fun h => by cases h with | box _ _ h => exact h, .box i off⟩
@[simp] theorem noH_adr (T : TypeId) : NoH m (.adr T) := .adr T
@[simp] theorem noH_buf (e : TypeId) (s : ByteArray) : NoH m (.buf e s) := .buf e s
@[simp] theorem noH_mh (i : Nat) : NoH m (.mh i) ↔ i < m := ⟨fun h => by cases h with | mh _ h => exact h, .mh i⟩
@[simp] theorem noH_mp (es : List (MK × Value)) : NoH m (.mp es) := .mp es
@[simp] theorem noH_rc (F : Nat) (cs : List AV) : NoH m (.rc F cs) ↔ ∀ x, x ∈ cs → NoH m x := ⟨fun h => by cases h with | rc _ _ h => exact h, .rc F cs⟩
@[simp] theorem noH_own (i g : Nat) : NoH m (.own i g) ↔ i < m := ⟨fun h => by cases h with | own _ _ h => exact h, .own i g⟩
@[simp] theorem noH_ifc (t : TypeId) (x : AV) : NoH m (.ifc t x) ↔ NoH m x := ⟨fun h => by cases h with | ifc _ _ h => exact h, .ifc t x⟩
@[simp] theorem noH_fn (f : Fn) (fs cs : List AV) : NoH m (.fn f fs cs) ↔ (∀ x, x ∈ fs → NoH m x) ∧ ∀ x, x ∈ cs → NoH m x := ⟨fun h => by cases h with | fn _ _ _ h1 h => exact ⟨h1, h⟩, fun h => .fn f fs cs h.1 h.2⟩
end
theorem AWP.rounds {P : Program} {n m : Nat} {c : Code} {Q : QA} {σ : Sl} {G L : List AO} {α : Type} (I : α → Prop) (lit : α → Sl) (Lf : α → List AO) (μ : α → Nat) (len : Nat) (a0 : α) (h0 : I a0) (hs : SubS σ (lit a0)) (hL : L = Lf a0)
   (hlen : ∀ a, (Lf a).length = len) (hnh : ∀ a, (∀ p, p ∈ lit a → NoH (m + len) p.2) ∧ ∀ o, o ∈ Lf a → ∀ x, x ∈ o.conts → NoH (m + len) x)
   (round : ∀ a, I a → AWP P n m c (thenA (fun σ' G' L' => G' = G ∧ ∃ a' J, I a' ∧ SubS σ' (lit a') ∧ L' = Lf a' ++ J ∧ μ a' < μ a) Q) (lit a) G (Lf a)) : AWP P n m (.loop c) Q σ G L := by
 subst hL
 refine AWP.to (lit a0) hs ?_
 intro D
 have key : ∀ N a, μ a = N → I a → ∀ σ, (∀ t X, look (lit a) t = some X → look σ t = some X) → ∀ (act : Act) (W : World) (β : List Hd), GOK m G → act.tmps.size = n → act.defers = D → HRel β (G ++ Lf a) W → SRep β W act (lit a) → ∀ (b : Frame) (k : List Item) (cs : List Frame),
     ∃ e a' w', APost D n m β W Q e a' w' ∧ Arrives P (lone (b.at act (.code c :: .inLoop c :: k)) cs W) b k cs e a' w' := by
   intro N
   induction N using Nat.strongRecOn with
   | _ N ih =>
     intro x hN hI σ hsub act W β h1 h2 h3 h4 h5 b k cs
     obtain ⟨e, a₁, w₁, hq, harr⟩ := round x hI D act W β h1 h2 h3 h4 h5 b (.inLoop c :: k) cs
     obtain ⟨β', σ', G', L', k1, k2, k3, k4, k5, k6, k7⟩ := hq
     cases e with
     | normal =>
       obtain ⟨rfl, x', J, hI', hsub', rfl, hlt⟩ := k1
       have e1 : (G' ++ Lf x').length = m + len := by rw [List.length_append, hlen, k2.1]
       have e2 : β.length = (G' ++ Lf x').length := by rw [h4.len, e1, List.length_append, hlen, k2.1]
       rw [← List.append_assoc] at k6
       have hH := k6.take (fun o ho y hy => by
         rw [e1]
         rcases List.mem_append.1 ho with ho | ho
         · exact (k2.2 o ho y hy).mono (by omega)
         · exact (hnh x').2 o ho y hy)
       have hx := k5.take
       rw [e2] at hx
       have hl := k6.len
       have hle : (G' ++ Lf x').length ≤ β'.length := by rw [hl]; simp
       have hS : SRep (β'.take (G' ++ Lf x').length) w₁ a₁ (lit x') := by
         intro t X ht
         obtain ⟨u, q1, q2⟩ := k7 t X (hsub'.look t X ht)
         refine ⟨u, q1, q2.take hle ?_⟩
         rw [e1]
         have : ∀ (l : Sl), look l t = some X → ∃ p, p ∈ l ∧ p.2 = X := by
           intro l
           induction l with
           | nil => intro h; cases h
           | cons p l ihl =>
             intro h
             obtain ⟨k0, Y⟩ := p
             change (bif Nat.beq k0 t then some Y else look l t) = some X at h
             cases hb : Nat.beq k0 t with
             | true => rw [hb] at h; cases h; exact ⟨_, List.mem_cons_self, rfl⟩
             | false => rw [hb] at h; obtain ⟨p, m1, m2⟩ := ihl h; exact ⟨p, List.mem_cons_of_mem _ m1, m2⟩
         obtain ⟨p, m1, m2⟩ := this _ ht
         rw [← m2]; exact (hnh x').1 p m1
       obtain ⟨e₂, a₂, w₂, hq₂, harr₂⟩ := ih _ (hN ▸ hlt) x' rfl hI' σ' hsub'.look a₁ w₁ _ k2 k3 k4 hH hS b k cs
       exact ⟨e₂, a₂, w₂, hq₂.ext hx, .of_steps (Steps.trans harr (.one step_inLoop)) harr₂⟩
     | exit id => exact ⟨_, a₁, w₁, ⟨β', σ', G', L', k1, k2, k3, k4, k5, k6, k7⟩, .pass (x := .inLoop c) rfl (fun _ _ => .inl (by simp)) harr⟩
     | goto l => exact ⟨_, a₁, w₁, ⟨β', σ', G', L', k1, k2, k3, k4, k5, k6, k7⟩, .pass (x := .inLoop c) rfl (fun _ _ => .inl (by simp)) harr⟩
     | ret => exact ⟨_, a₁, w₁, ⟨β', σ', G', L', k1, k2, k3, k4, k5, k6, k7⟩, .pass (x := .inLoop c) rfl (fun _ _ => .inl (by simp)) harr⟩
     | panic ch => exact ⟨_, a₁, w₁, ⟨β', σ', G', L', k1, k2, k3, k4, k5, k6, k7⟩, .pass (x := .inLoop c) rfl (fun _ _ => .inl (by simp)) harr⟩
     | outgrown => exact ⟨_, a₁, w₁, ⟨β', σ', G', L', k1, k2, k3, k4, k5, k6, k7⟩, .pass (x := .inLoop c) rfl (fun _ _ => .inl (by simp)) harr⟩
 intro act W β h1 h2 h3 h4 h5 b k cs
 obtain ⟨e, a', w', hq, harr⟩ := key _ a0 rfl h0 (lit a0) (fun t X h => h) act W β h1 h2 h3 h4 h5 b k cs
 exact ⟨e, a', w', hq, .of_steps (.one step_loop) harr⟩
end Go.Proofs.YtnlpojjfkgnhhaaGreatDoor
namespace Go.Proofs.YtnlpojjfkgnhhaaGreatDoor
open Go.RowKit
def Ev (gd : Bool) (σ : Sl) (x : Operand) (X : AV) : Prop := evS σ x = some X ∨ ∃ d, evS σ x = some (.opt d X) ∧ (gd = true → d = true)
theorem Ev.plain {gd : Bool} {σ : Sl} {x : Operand} {X : AV} (h : evS σ x = some X) : Ev gd σ x X := .inl h
theorem Ev.opt {gd d : Bool} {σ : Sl} {x : Operand} {X : AV} (h : evS σ x = some (.opt d X)) (hd : gd = true → d = true) : Ev gd σ x X := .inr ⟨d, h, hd⟩
theorem looks_mem {ops : Array Oper} {o : Oper} {t : Tmp} (h : Operand.tmp t ∈ o.op.operands) : t ∈ o.looksAt ops :=
 List.mem_append_left _ (List.mem_filterMap.2 ⟨.tmp t, by simpa using h, rfl⟩)
theorem Ev.rep {gd : Bool} {σ : Sl} {x : Operand} {X : AV} (h : Ev gd σ x X) (hg : gd = true) {β : List Hd} {W : World} {a : Act} {ops : Array Oper} {o : Oper} (hl : LRep β W a σ (o.looksAt ops)) (hx : x ∈ o.op.operands) : VRep β W (a.eval x) X := by
 have key : ∀ Y, evS σ x = some Y → VRep β W (a.eval x) Y := by
   intro Y hY
   cases x with
   | tmp t =>
     obtain ⟨u, h1, h2⟩ := hl t (looks_mem hx) Y hY
     have e : a.eval (.tmp t) = u := by show a.tmps.getD t undef = u; rw [Array.getD_eq_getD_getElem?, h1]; rfl
     rw [e]; exact h2
   | const v => cases hY; exact cAV_rep _ _ _
   | func f => cases hY; exact .fn _ _ _ _ _ rfl rfl (fun j u x h => by simp at h) (fun j u x h => by simp at h)
   | global g => cases hY; exact .raw _
 rcases h with h | ⟨d, h, hd⟩
 · exact key X h
 · have h3 := key _ h
   generalize a.eval x = v at h3
   cases h3 with | opt _ _ _ h2 _ => exact h2 (hd hg)
def gdS (ops : Array Oper) (σ : Sl) : Option (Nat × Bool) → Option Bool
 | none => some true
 | some (g, w) => match (ops[g]?).bind (·.dst) with
   | some t => match look σ t with
     | some (.bool b) => some (b == w)
     | some (.opt d (.bool b)) => some (d && (b == w))
     | _ => none
   | none => none
def optA (g : Option (Nat × Bool)) (gd : Bool) (X : AV) : AV := match g with | none => X | some _ => .opt gd X
theorem optN {gd : Bool} {X : AV} : optA none gd X = X := rfl
theorem optS {g : Nat × Bool} {gd : Bool} {X : AV} : optA (some g) gd X = .opt gd X := rfl
theorem gd_wanted {ops : Array Oper} {o : Oper} {σ : Sl} {gd : Bool} (h : gdS ops σ o.guard = some gd) {β : List Hd} {W : World} {a : Act} (hl : LRep β W a σ (o.looksAt ops)) : Region.wanted o (yielded ops a.tmps) = gd := by
 unfold Region.wanted
 cases hg : o.guard with
 | none => rw [hg] at h; simp only [gdS] at h; cases h; rfl
 | some gw =>
   obtain ⟨g, w⟩ := gw
   rw [hg] at h
   simp only [gdS] at h
   cases ht : (ops[g]?).bind (·.dst) with
   | none => rw [ht] at h; cases h
   | some t =>
     rw [ht] at h
     simp only at h
     split at h
     · rename_i b hb
       cases h
       obtain ⟨u, h1, h2⟩ := hl t (by unfold Oper.looksAt; rw [hg]; simp [ht]) _ hb
       obtain rfl := h2.bool_inv
       have hy : yielded ops a.tmps g = some b := by unfold yielded; rw [ht]; simp [h1]
       show (yielded ops a.tmps g == some w) = _
       rw [hy]
       cases b <;> cases w <;> rfl
     · rename_i d b hb
       cases h
       obtain ⟨u, h1, h2⟩ := hl t (by unfold Oper.looksAt; rw [hg]; simp [ht]) _ hb
       show (yielded ops a.tmps g == some w) = _
       cases h2 with
       | opt _ _ _ k1 k2 =>
         cases d with
         | true =>
           obtain rfl := (k1 rfl).bool_inv
           have hy : yielded ops a.tmps g = some b := by unfold yielded; rw [ht]; simp [h1]
           rw [hy]
           cases b <;> cases w <;> rfl
         | false =>
           obtain rfl := k2 rfl
           have hy : yielded ops a.tmps g = none := by unfold yielded; rw [ht]; simp [h1, undef]
           rw [hy]; cases w <;> rfl
     · cases h
theorem OpStep.val {P : Program} {ops : Array Oper} {o : Oper} {σ : Sl} {H H' : List AO} {X : AV} {gd : Bool} (hG : gdS ops σ o.guard = some gd) (hH : gd = true ∨ H' = H) (hX : o.guard = none ∨ gd = true → True)
   (h : gd = true → ∀ (a : Act) (W : World) (β : List Hd), HRel β H W → LRep β W a σ (o.looksAt ops) → ∃ v W' β', (execOp a.eval o).run P W = .ok (.value v) W' ∧ Ext β W β' W' ∧ HRel β' H' W' ∧ VRep β' W' v X) :
   OpStep P ops o σ H (optA o.guard gd X) H' := by
 intro a W β hHr hl K Q hK
 rw [gd_wanted hG hl]
 cases gd with
 | true =>
   rw [if_pos rfl]
   obtain ⟨v, W', β', hr, h1, h2, h3⟩ := h rfl a W β hHr hl
   unfold Oper.wp
   rw [hr, Oper.upon_value]
   refine hK v W' β' h1 h2 ?_
   cases o.guard with
   | none => exact h3
   | some g => exact .opt _ _ _ (fun _ => h3) (fun e => by cases e)
 | false =>
   rw [if_neg (by simp)]
   rcases hH with hH | rfl
   · cases hH
   refine hK undef W β (Ext.refl _ _) hHr ?_
   cases hg : o.guard with
   | none => rw [hg] at hG; cases hG
   | some g => exact .opt _ _ _ (fun e => by cases e) (fun _ => rfl)
section
variable {P : Program} {ops : Array Oper} {n : Nat} {QQ : List Kd → Sl → List AO → Prop} {l : List Oper} {ks : List Kd} {σ : Sl} {H : List AO} {o : Oper} {gd : Bool}
theorem ARun.val {X Y : AV} {d : Option Tmp} (hd : o.dst = d) (hn : dstLt n d = true) (hG : gdS ops σ o.guard = some gd) (hY : optA o.guard gd X = Y)
   (h : gd = true → ∀ (a : Act) (W : World) (β : List Hd), LRep β W a σ (o.looksAt ops) → ∃ v W', (execOp a.eval o).run P W = .ok (.value v) W' ∧ Below W.heap.size W W' ∧ VRep β W' v X)
   (hr : ARun P ops n QQ l (ks ++ [.pure]) (putS σ d Y) H) : ARun P ops n QQ (o :: l) ks σ H := by
 subst hd; subst hY
 refine ⟨.pure, _, H, hn, ⟨rfl, fun G => OpStep.val hG (.inr rfl) (fun _ => trivial) fun hg a W β hHr hl => ?_⟩, hr⟩
 obtain ⟨v, W', h1, h2, h3⟩ := h hg a W β hl
 exact ⟨v, W', β, h1, Ext.of_below β h2, hHr.below h2, h3⟩
theorem ARun.same {X Y : AV} {d : Option Tmp} (hd : o.dst = d) (hn : dstLt n d = true) (hG : gdS ops σ o.guard = some gd) (hY : optA o.guard gd X = Y)
   (h : gd = true → ∀ (a : Act) (W : World) (β : List Hd), LRep β W a σ (o.looksAt ops) → ∃ v, (execOp a.eval o).run P W = .ok (.value v) W ∧ VRep β W v X)
   (hr : ARun P ops n QQ l (ks ++ [.pure]) (putS σ d Y) H) : ARun P ops n QQ (o :: l) ks σ H :=
 ARun.val hd hn hG hY (fun hg a W β hl => by obtain ⟨v, h1, h2⟩ := h hg a W β hl; exact ⟨v, W, h1, Below.refl _ _, h2⟩) hr
theorem ARun.move {x : Operand} {X Y : AV} {d : Option Tmp} (ho : o.op = .move x ∨ o.op = .assign x) (hd : o.dst = d) (hn : dstLt n d = true) (hG : gdS ops σ o.guard = some gd) (hx : Ev gd σ x X) (hY : optA o.guard gd X = Y)
   (hr : ARun P ops n QQ l (ks ++ [.pure]) (putS σ d Y) H) : ARun P ops n QQ (o :: l) ks σ H := by
 refine ARun.same hd hn hG hY (fun hg a W β hl => ⟨a.eval x, ?_, hx.rep hg hl ?_⟩) hr
 · rcases ho with ho | ho <;> simp [execOp, ho]
 · rcases ho with ho | ho <;> simp [ho, Op.operands]
theorem ARun.pick {c x y : Operand} {cb u v r : Bool} {Y : AV} {d : Option Tmp} (ho : o.op = .pick c x y) (hd : o.dst = d) (hn : dstLt n d = true) (hG : gdS ops σ o.guard = some gd)
   (hc : Ev gd σ c (.bool cb)) (hx : Ev (gd && cb) σ x (.bool u)) (hy : Ev (gd && !cb) σ y (.bool v)) (hb : (bif cb then u else v) = r) (hY : optA o.guard gd (.bool r) = Y)
   (hr : ARun P ops n QQ l (ks ++ [.pure]) (putS σ d Y) H) : ARun P ops n QQ (o :: l) ks σ H := by
 refine ARun.same hd hn hG hY (fun hg a W β hl => ⟨.bool r, ?_, .bool _⟩) hr
 subst hb
 have h1 := (hc.rep hg hl (by simp [ho, Op.operands])).bool_inv
 cases cb with
 | true =>
   have h2 := (hx.rep (by simp [hg]) hl (by simp [ho, Op.operands])).bool_inv
   simp [execOp, ho, h1, h2, asBool]
 | false =>
   have h2 := (hy.rep (by simp [hg]) hl (by simp [ho, Op.operands])).bool_inv
   simp [execOp, ho, h1, h2, asBool]
def arithI : BinOp → Int → Int → Option Int
 | .add, a, b => some (a + b)
 | .sub, a, b => some (a - b)
 | .mul, a, b => some (a * b)
 | _, _, _ => none
theorem ARun.arith {bo : BinOp} {x y : Operand} {t1 t2 : TypeId} {k : IntKind} {i j e r : Int} {Y : AV} {d : Option Tmp} (ho : o.op = .binOp bo t1 x y t2) (hd : o.dst = d) (hn : dstLt n d = true) (hG : gdS ops σ o.guard = some gd)
   (hx : Ev gd σ x (.int k i)) (hy : Ev gd σ y (.int k j)) (he : arithI bo i j = some e) (hw : gd = true → k.wrap e = r) (hY : optA o.guard gd (.int k r) = Y)
   (hr : ARun P ops n QQ l (ks ++ [.pure]) (putS σ d Y) H) : ARun P ops n QQ (o :: l) ks σ H := by
 refine ARun.same hd hn hG hY (fun hg a W β hl => ⟨.int k r, ?_, .int _ _⟩) hr
 rw [← hw hg]
 have h1 := (hx.rep hg hl (by simp [ho, Op.operands])).int_inv
 have h2 := (hy.rep hg hl (by simp [ho, Op.operands])).int_inv
 cases bo <;> cases he <;> simp [execOp, ho, h1, h2, eqGuard, binOp, Op.intArith]
def cmpI : BinOp → Int → Int → Option Bool
 | .eql, a, b => some (decide (a = b))
 | .neq, a, b => some (!decide (a = b))
 | .lss, a, b => some (decide (a < b))
 | .leq, a, b => some (decide (a ≤ b))
 | .gtr, a, b => some (decide (b < a))
 | .geq, a, b => some (decide (b ≤ a))
 | _, _, _ => none
theorem ibeq (a b : Int) : (a == b) = decide (a = b) := rfl
theorem ARun.cmp {bo : BinOp} {x y : Operand} {t1 t2 : TypeId} {k : IntKind} {i j : Int} {r : Bool} {Y : AV} {d : Option Tmp} (ho : o.op = .binOp bo t1 x y t2) (hd : o.dst = d) (hn : dstLt n d = true) (hG : gdS ops σ o.guard = some gd)
   (hx : Ev gd σ x (.int k i)) (hy : Ev gd σ y (.int k j)) (he : cmpI bo i j = some r) (hY : optA o.guard gd (.bool r) = Y)
   (hr : ARun P ops n QQ l (ks ++ [.pure]) (putS σ d Y) H) : ARun P ops n QQ (o :: l) ks σ H := by
 refine ARun.same hd hn hG hY (fun hg a W β hl => ⟨.bool r, ?_, .bool _⟩) hr
 have h1 := (hx.rep hg hl (by simp [ho, Op.operands])).int_inv
 have h2 := (hy.rep hg hl (by simp [ho, Op.operands])).int_inv
 cases bo <;> cases he <;> simp [execOp, ho, h1, h2, eqGuard, binOp, Op.intCmp, ibeq, bne]
def cmpS : BinOp → ByteArray → ByteArray → Option Bool
 | .eql, a, b => some (decide (a = b))
 | .neq, a, b => some (!decide (a = b))
 | _, _, _ => none
theorem toList_beq (s t : ByteArray) : (s.toList == t.toList) = decide (s = t) := by
 by_cases h : s = t
 · subst h; simp
 · rw [decide_eq_false h, beq_eq_false_iff_ne]
   intro e
   apply h
   rw [ByteArray.toList_eq, ByteArray.toList_eq] at e
   exact ByteArray.ext (Array.toList_inj.1 e)
theorem ARun.cmpS {bo : BinOp} {x y : Operand} {t1 t2 : TypeId} {i j : ByteArray} {r : Bool} {Y : AV} {d : Option Tmp} (ho : o.op = .binOp bo t1 x y t2) (hd : o.dst = d) (hn : dstLt n d = true) (hG : gdS ops σ o.guard = some gd)
   (hx : Ev gd σ x (.str i)) (hy : Ev gd σ y (.str j)) (he : cmpS bo i j = some r) (hY : optA o.guard gd (.bool r) = Y)
   (hr : ARun P ops n QQ l (ks ++ [.pure]) (putS σ d Y) H) : ARun P ops n QQ (o :: l) ks σ H := by
 refine ARun.same hd hn hG hY (fun hg a W β hl => ⟨.bool r, ?_, .bool _⟩) hr
 have h1 := (hx.rep hg hl (by simp [ho, Op.operands])).str_inv
 have h2 := (hy.rep hg hl (by simp [ho, Op.operands])).str_inv
 cases bo <;> cases he <;> simp [execOp, ho, h1, h2, eqGuard, binOp, Op.stringOp, toList_beq]
theorem ARun.cat {x y : Operand} {t1 t2 : TypeId} {i j : ByteArray} {Y : AV} {d : Option Tmp} (ho : o.op = .binOp .add t1 x y t2) (hd : o.dst = d) (hn : dstLt n d = true) (hG : gdS ops σ o.guard = some gd)
   (hx : Ev gd σ x (.str i)) (hy : Ev gd σ y (.str j)) (hs : gd = true → i.size + j.size ≤ 9223372036854775807) (hY : optA o.guard gd (.str (i ++ j)) = Y)
   (hr : ARun P ops n QQ l (ks ++ [.pure]) (putS σ d Y) H) : ARun P ops n QQ (o :: l) ks σ H := by
 refine ARun.same hd hn hG hY (fun hg a W β hl => ⟨.string (i ++ j), ?_, .str _⟩) hr
 have h1 := (hx.rep hg hl (by simp [ho, Op.operands])).str_inv
 have h2 := (hy.rep hg hl (by simp [ho, Op.operands])).str_inv
 have h3 := hs hg
 have h4 : (i.size : Int) + (j.size : Int) ≤ 9223372036854775807 := by omega
 simp [execOp, ho, h1, h2, eqGuard, binOp, Op.stringOp, IntKind.max, IntKind.signed, IntKind.bits, h4]
theorem ARun.not {x : Operand} {t1 : TypeId} {b : Bool} {Y : AV} {d : Option Tmp} (ho : o.op = .unOp .not t1 x) (hd : o.dst = d) (hn : dstLt n d = true) (hG : gdS ops σ o.guard = some gd)
   (hx : Ev gd σ x (.bool b)) (hY : optA o.guard gd (.bool (!b)) = Y)
   (hr : ARun P ops n QQ l (ks ++ [.pure]) (putS σ d Y) H) : ARun P ops n QQ (o :: l) ks σ H := by
 refine ARun.same hd hn hG hY (fun hg a W β hl => ⟨.bool (!b), ?_, .bool _⟩) hr
 have h1 := (hx.rep hg hl (by simp [ho, Op.operands])).bool_inv
 simp [execOp, ho, h1, Op.unary]
theorem ARun.extract {x : Operand} {xs : List AV} {i : Nat} {X Y : AV} {d : Option Tmp} (ho : o.op = .extract x i) (hd : o.dst = d) (hn : dstLt n d = true) (hG : gdS ops σ o.guard = some gd)
   (hx : Ev gd σ x (.tup xs)) (hi : xs[i]? = some X) (hY : optA o.guard gd X = Y)
   (hr : ARun P ops n QQ l (ks ++ [.pure]) (putS σ d Y) H) : ARun P ops n QQ (o :: l) ks σ H := by
 refine ARun.same hd hn hG hY (fun hg a W β hl => ?_) hr
 have h0 := hx.rep hg hl (by simp [ho, Op.operands])
 generalize hv : a.eval x = v at h0
 cases h0 with
 | tup vs _ hl2 h =>
   have hlt : i < vs.size := by rw [hl2]; exact (List.getElem?_eq_some_iff.1 hi).1
   refine ⟨vs[i], ?_, h i _ _ (Array.getElem?_eq_getElem hlt) hi⟩
   simp [execOp, ho, hv, Instr.extract, hlt]
theorem goInt_run (k : Nat) : goInt k = .int .i64 k := rfl
theorem ARun.lenStr {x : Operand} {t : TypeId} {s : ByteArray} {Y : AV} {d : Option Tmp} (ho : o.op = .call { callee := .builtin .len, args := #[x], argTypes := #[t] }) (hd : o.dst = d) (hn : dstLt n d = true) (hG : gdS ops σ o.guard = some gd)
   (hu : P.underlying t = some .string) (hx : Ev gd σ x (.str s)) (hY : optA o.guard gd (.int .i64 (s.size : Int)) = Y)
   (hr : ARun P ops n QQ l (ks ++ [.pure]) (putS σ d Y) H) : ARun P ops n QQ (o :: l) ks σ H := by
 refine ARun.same hd hn hG hY (fun hg a W β hl => ⟨.int .i64 s.size, ?_, .int _ _⟩) hr
 have h1 := (hx.rep hg hl (by simp [ho, Op.operands, Call.operands])).str_inv
 simp [execOp, ho, resolve, h1, invoke, builtin, Builtin.len_, run_underlying hu, goInt_run]
theorem ARun.lenSl {x : Operand} {t e : TypeId} {xs : List AV} {Y : AV} {d : Option Tmp} (ho : o.op = .call { callee := .builtin .len, args := #[x], argTypes := #[t] }) (hd : o.dst = d) (hn : dstLt n d = true) (hG : gdS ops σ o.guard = some gd)
   (hu : P.underlying t = some (.slice e)) (hx : Ev gd σ x (.sl xs)) (hY : optA o.guard gd (.int .i64 (xs.length : Int)) = Y)
   (hr : ARun P ops n QQ l (ks ++ [.pure]) (putS σ d Y) H) : ARun P ops n QQ (o :: l) ks σ H := by
 refine ARun.same hd hn hG hY (fun hg a W β hl => ⟨.int .i64 xs.length, ?_, .int _ _⟩) hr
 have h0 := hx.rep hg hl (by simp [ho, Op.operands, Call.operands])
 generalize hv : a.eval x = v at h0
 cases h0 <;> simp [execOp, ho, resolve, hv, invoke, builtin, Builtin.len_, run_underlying hu, goInt_run]
theorem pkT {g c : Bool} : (g && c) = true → (c == true) = true := by cases g <;> cases c <;> decide
theorem pkF {g c : Bool} : (g && !c) = true → (c == false) = true := by cases g <;> cases c <;> decide
theorem pkT2 {g c : Bool} : (g && c) = true → (g && (c == true)) = true := by cases g <;> cases c <;> decide
theorem pkF2 {g c : Bool} : (g && !c) = true → (g && (c == false)) = true := by cases g <;> cases c <;> decide
theorem andB (c u : Bool) : (bif c then u else false) = (c && u) := by cases c <;> rfl
theorem orB (c u : Bool) : (bif c then true else u) = (c || u) := by cases c <;> rfl
theorem i64w {a : Int} (h : -9223372036854775808 ≤ a ∧ a ≤ 9223372036854775807) : IntKind.i64.wrap a = a := IntWalk.i64_in _ h
def cmpB : BinOp → Bool → Bool → Option Bool
 | .eql, a, b => some (a == b)
 | .neq, a, b => some (a != b)
 | _, _, _ => none
theorem ARun.minmax {x y : Operand} {b : Builtin} {ts : Array TypeId} {k : IntKind} {i j r : Int} {Y : AV} {d : Option Tmp} (ho : o.op = .call { callee := .builtin b, args := #[x, y], argTypes := ts }) (hd : o.dst = d) (hn : dstLt n d = true) (hG : gdS ops σ o.guard = some gd)
   (hx : Ev gd σ x (.int k i)) (hy : Ev gd σ y (.int k j)) (hb : (b = .min ∧ r = min i j) ∨ (b = .max ∧ r = max i j)) (hY : optA o.guard gd (.int k r) = Y)
   (hr : ARun P ops n QQ l (ks ++ [.pure]) (putS σ d Y) H) : ARun P ops n QQ (o :: l) ks σ H := by
 refine ARun.same hd hn hG hY (fun hg a W β hl => ⟨.int k r, ?_, .int _ _⟩) hr
 have h1 := (hx.rep hg hl (by simp [ho, Op.operands, Call.operands])).int_inv
 have h2 := (hy.rep hg hl (by simp [ho, Op.operands, Call.operands])).int_inv
 rcases hb with ⟨rfl, rfl⟩ | ⟨rfl, rfl⟩
 · have : (if j < i then j else i) = min i j := by omega
   have hm : (Builtin.min_ ts o.type #[.int k i, .int k j]).run P W = .ok (.int k (min i j)) W := by simp [go_sem, this]
   simp [execOp, ho, resolve, h1, h2, invoke, builtin, hm]
 · have : (if i < j then j else i) = max i j := by omega
   have hm : (Builtin.max_ ts o.type #[.int k i, .int k j]).run P W = .ok (.int k (max i j)) W := by simp [go_sem, this]
   simp [execOp, ho, resolve, h1, h2, invoke, builtin, hm]
end
end Go.Proofs.YtnlpojjfkgnhhaaGreatDoor
namespace Go.Proofs.YtnlpojjfkgnhhaaGreatDoor
open Go.RowKit
def Sz (P : Program) (t : TypeId) (z : Nat) : Prop := (P.info? t).map (·.size) = some z
theorem Sz.run {P : Program} {t : TypeId} {z : Nat} (h : Sz P t z) (w : World) : (sizeOf t).run P w = .ok z w := by
 unfold Sz at h
 cases hi : P.info? t with
 | none => rw [hi] at h; cases h
 | some i => rw [hi] at h; cases h; simp [sizeOf, typeInfo, hi]
def isA : TypeDesc → Bool
 | .struct _ => true
 | .array _ _ => true
 | _ => false
theorem isAgg_run {P : Program} {t : TypeId} {u : TypeDesc} (h : P.underlying t = some u) (w : World) : (isAgg t).run P w = .ok (isA u) w := by
 unfold isAgg
 cases u <;> simp [run_underlying h, isA]
theorem aadd (b off k : Nat) : (⟨b, off, none⟩ : Addr).add k = ⟨b, off + k, none⟩ := by unfold Addr.add; split <;> simp_all
section
variable {P : Program} {ops : Array Oper} {n : Nat} {QQ : List Kd → Sl → List AO → Prop} {l : List Oper} {ks : List Kd} {σ : Sl} {H : List AO} {o : Oper} {gd : Bool}
theorem ARun.indexSl {x y : Operand} {t e : TypeId} {z j : Nat} {k : IntKind} {i : Int} {xs : List AV} {X : AV} {C : List AV} {Y : AV} {d : Option Tmp} (ho : o.op = .indexAddr t x y) (hd : o.dst = d) (hn : dstLt n d = true) (hG : gdS ops σ o.guard = some gd)
   (hu : P.underlying t = some (.slice e)) (hz : Sz P e z)
   (hx : Ev gd σ x (.sl xs)) (hy : Ev gd σ y (.int k i)) (hi : gd = true → i = (j : Int)) (hj : gd = true → xs[j]? = some X) (hX : X.cells = C) (hC : C.length = z) (hY : optA o.guard gd (.pe C) = Y)
   (hr : ARun P ops n QQ l (ks ++ [.pure]) (putS σ d Y) H) : ARun P ops n QQ (o :: l) ks σ H := by
 refine ARun.same hd hn hG hY (fun hg a W β hl => ?_) hr
 have h0 := hx.rep hg hl (by simp [ho, Op.operands])
 have h1 := (hy.rep hg hl (by simp [ho, Op.operands])).int_inv
 have hij := hi hg
 have hjx := hj hg
 subst hij
 generalize hv : a.eval x = v at h0
 cases h0 with
 | slnil => simp at hjx
 | slemp p cap hm => simp at hjx
 | sl b off cap z' _ hc hm hb hS hz' hdd h =>
   have hlt := (List.getElem?_eq_some_iff.1 hjx).1
   have ez : z' = z := by rw [← hz' X (List.mem_of_getElem? hjx), hX, hC]
   subst ez
   refine ⟨.pointer (some ⟨b, off + j * z', none⟩), ?_, .pe b _ C hb hS (fun q y hq => ?_) (fun q y u hq hu2 => ?_)⟩
   · simp [execOp, ho, hv, h1, Instr.indexAt, asIntOf, run_underlying hu, hz.run, hlt, aadd]
   · exact hdd j q X y hjx (by rw [hX]; exact hq)
   · exact h j q X y u hjx (by rw [hX]; exact hq) hu2
def byteAt (s : ByteArray) (j : Nat) : Int := ((s.data.toList.getD j 0).toNat : Int)
theorem ARun.indexStr {x y : Operand} {t : TypeId} {j : Nat} {k : IntKind} {i : Int} {s : ByteArray} {Y : AV} {d : Option Tmp} (ho : o.op = .index t x y) (hd : o.dst = d) (hn : dstLt n d = true) (hG : gdS ops σ o.guard = some gd)
   (hu : P.underlying t = some .string) (hx : Ev gd σ x (.str s)) (hy : Ev gd σ y (.int k i)) (hi : gd = true → i = (j : Int)) (hj : gd = true → j < s.size) (hY : optA o.guard gd (.int .u8 (byteAt s j)) = Y)
   (hr : ARun P ops n QQ l (ks ++ [.pure]) (putS σ d Y) H) : ARun P ops n QQ (o :: l) ks σ H := by
 refine ARun.same hd hn hG hY (fun hg a W β hl => ⟨.int .u8 (byteAt s j), ?_, .int _ _⟩) hr
 have h0 := (hx.rep hg hl (by simp [ho, Op.operands])).str_inv
 have h1 := (hy.rep hg hl (by simp [ho, Op.operands])).int_inv
 have hij := hi hg
 have hjx := hj hg
 subst hij
 have hb : byteAt s j = (s[j].toNat : Int) := by
   unfold byteAt
   rw [List.getD, List.getElem?_eq_getElem (by simpa using hjx)]; rfl
 rw [hb]
 simp [execOp, ho, h0, h1, Instr.index, asIntOf, run_underlying hu, hjx]
theorem ARun.fieldPe {x : Operand} {s : TypeId} {f fo fs : Nat} {fields : Array Field} {fld : Field} {cs C : List AV} {Y : AV} {d : Option Tmp} (ho : o.op = .fieldAddr s x f) (hd : o.dst = d) (hn : dstLt n d = true) (hG : gdS ops σ o.guard = some gd)
   (hu : P.underlying s = some (.struct fields)) (hf : fields[f]? = some fld) (hfo : fld.offset = fo) (hz : Sz P fld.type fs) (hfs : fs ≠ 0)
   (hx : Ev gd σ x (.pe cs)) (hC : (cs.drop fo).take fs = C) (hY : optA o.guard gd (.pe C) = Y)
   (hr : ARun P ops n QQ l (ks ++ [.pure]) (putS σ d Y) H) : ARun P ops n QQ (o :: l) ks σ H := by
 refine ARun.same hd hn hG hY (fun hg a W β hl => ?_) hr
 have h0 := hx.rep hg hl (by simp [ho, Op.operands])
 generalize hv : a.eval x = v at h0
 subst hC
 cases h0 with
 | pe b off _ hb hS hdd h =>
   have hget : ∀ q y, ((cs.drop fo).take fs)[q]? = some y → cs[fo + q]? = some y := by
     intro q y hq
     rw [List.getElem?_take] at hq
     split at hq
     · rw [List.getElem?_drop] at hq; exact hq
     · cases hq
   refine ⟨.pointer (some ⟨b, off + fo, none⟩), ?_, .pe b _ _ hb hS (fun q y hq => ?_) (fun q y u hq hu2 => ?_)⟩
   · simp [execOp, ho, hv, Instr.fieldAt, run_underlying hu, hf, Instr.sureAddr, fieldPlace, hz.run, hfs, aadd, hfo]
   · rw [Nat.add_assoc]; exact hdd _ y (hget q y hq)
   · rw [Nat.add_assoc] at hu2; exact h _ y u (hget q y hq) hu2
theorem ARun.loadPe {x : Operand} {t : TypeId} {u : TypeDesc} {cs : List AV} {X Y : AV} {d : Option Tmp} (ho : o.op = .load t x) (hd : o.dst = d) (hn : dstLt n d = true) (hG : gdS ops σ o.guard = some gd)
   (hu : P.underlying t = some u) (hA : isA u = false)
   (hx : Ev gd σ x (.pe cs)) (hC : cs[0]? = some X) (hY : optA o.guard gd X = Y)
   (hr : ARun P ops n QQ l (ks ++ [.pure]) (putS σ d Y) H) : ARun P ops n QQ (o :: l) ks σ H := by
 refine ARun.same hd hn hG hY (fun hg a W β hl => ?_) hr
 have h0 := hx.rep hg hl (by simp [ho, Op.operands])
 generalize hv : a.eval x = v at h0
 cases h0 with
 | pe b off _ hb hS hdd h =>
   obtain ⟨u2, hu2⟩ := hdd 0 X hC
   refine ⟨u2, ?_, h 0 X u2 hC hu2⟩
   rw [Nat.add_zero] at hu2
   have h3 : (loadVar t ⟨b, off, none⟩).run P W = .ok u2 W := by
     simp only [loadVar, Sem.run_bind, isAgg_run hu, hA]
     simp [hu2]
   simp [execOp, ho, hv, Instr.loadAt, Instr.sureAddr, h3]
theorem cells_list (w : World) (b off : Nat) : ∀ (cs : List AV) (β : List Hd), (∀ (j : Nat) (y : AV), cs[j]? = some y → ∃ u, w.cell? ⟨b, off + j, none⟩ = some u) → (∀ (j : Nat) (y : AV) (u : Value), cs[j]? = some y → w.cell? ⟨b, off + j, none⟩ = some u → VRep β w u y) →
   ∃ vs : List Value, vs.length = cs.length ∧ (∀ (j : Nat) (u : Value), vs[j]? = some u → w.cell? ⟨b, off + j, none⟩ = some u) ∧ ∀ (j : Nat) (u : Value) (x : AV), vs[j]? = some u → cs[j]? = some x → VRep β w u x := by
 intro cs β hd h
 refine ⟨(List.range cs.length).map fun j => (w.cell? ⟨b, off + j, none⟩).getD undef, by simp, fun j u hj => ?_, fun j u x hj hx => ?_⟩
 · simp only [List.getElem?_map, Option.map_eq_some_iff] at hj
   obtain ⟨q, hq, rfl⟩ := hj
   have hlt : j < cs.length := by have := (List.getElem?_eq_some_iff.1 hq).1; simpa using this
   rw [List.getElem?_range hlt] at hq
   cases hq
   obtain ⟨u, hu⟩ := hd j _ (List.getElem?_eq_getElem hlt)
   rw [hu]; rfl
 · simp only [List.getElem?_map, Option.map_eq_some_iff] at hj
   obtain ⟨q, hq, rfl⟩ := hj
   have hlt : j < cs.length := by have := (List.getElem?_eq_some_iff.1 hq).1; simpa using this
   rw [List.getElem?_range hlt] at hq
   cases hq
   obtain ⟨u, hu⟩ := hd j _ hx
   rw [hu]; exact h j x u hx hu
theorem ARun.loadPeA {x : Operand} {t : TypeId} {u : TypeDesc} {cs : List AV} {z : Nat} {Y : AV} {d : Option Tmp} (ho : o.op = .load t x) (hd : o.dst = d) (hn : dstLt n d = true) (hG : gdS ops σ o.guard = some gd)
   (hu : P.underlying t = some u) (hA : isA u = true) (hz : Sz P t z)
   (hx : Ev gd σ x (.pe cs)) (hC : cs.length = z) (hY : optA o.guard gd (.agg cs) = Y)
   (hr : ARun P ops n QQ l (ks ++ [.pure]) (putS σ d Y) H) : ARun P ops n QQ (o :: l) ks σ H := by
 refine ARun.same hd hn hG hY (fun hg a W β hl => ?_) hr
 have h0 := hx.rep hg hl (by simp [ho, Op.operands])
 generalize hv : a.eval x = v at h0
 cases h0 with
 | pe b off _ hb hS hdd h =>
   obtain ⟨vs, h1, h2, h3⟩ := cells_list W b off cs β hdd h
   refine ⟨.agg vs.toArray, ?_, .agg _ _ (by simpa using h1) (fun j u y hj hy => h3 j u y (by simpa using hj) hy)⟩
   have h4 : (loadVar t ⟨b, off, none⟩).run P W = .ok (.agg vs.toArray) W := by
     simp only [loadVar, Sem.run_bind, isAgg_run hu, hA, if_true]
     have h5 := run_loadCells_list (P := P) (w := W) ⟨b, off, none⟩ vs (fun j u hj => by rw [aadd]; exact h2 j u hj)
     rw [← hC, ← h1] at hz
     simp [hz.run, h5]
   simp [execOp, ho, hv, Instr.loadAt, Instr.sureAddr, h4]
end
end Go.Proofs.YtnlpojjfkgnhhaaGreatDoor
namespace Go.Proofs.YtnlpojjfkgnhhaaGreatDoor
open Go.RowKit
theorem getElem?_snoc {α : Type} (l : List α) (x : α) (i : Nat) (y : α) (h : (l ++ [x])[i]? = some y) : l[i]? = some y ∨ (i = l.length ∧ y = x) := by
 by_cases hi : i < l.length
 · left; rw [List.getElem?_append_left hi] at h; exact h
 · right
   rw [List.getElem?_append_right (by omega)] at h
   have h2 := (List.getElem?_eq_some_iff.1 h).1
   have e : i - l.length = 0 := by simp at h2; omega
   rw [e] at h
   cases h
   exact ⟨by omega, rfl⟩
theorem HRel.snoc {β : List Hd} {H : List AO} {w : World} (h : HRel β H w) {w' : World} (hb : Below w.heap.size w w') {x : Hd} {o : AO} (ho : ORep (β ++ [x]) w' x o) (hx : ∀ b, b ∈ x.blks → w.heap.size ≤ b) :
   Ext β w (β ++ [x]) w' ∧ HRel (β ++ [x]) (H ++ [o]) w' := by
 have hext : Ext β w (β ++ [x]) w' := ⟨hb.os, hb.tape, hb.output, hb.size, fun k hk _ => hb.block k hk, fun k hk hs y hy => by
     rcases List.mem_append.1 hy with hy | hy
     · exact hs y hy
     · simp at hy; subst hy
       intro e; have := hx k e; omega, fun i y hy => ⟨y, by rw [List.getElem?_append_left (List.getElem?_eq_some_iff.1 hy).1]; exact hy, y.to_refl⟩, fun _ b _ _ hlt => hb.block b hlt⟩
 refine ⟨hext, ⟨h.gl.ext hext, by simp [h.len], fun i o' y h1 h2 => ?_, fun i j hi hj b hne h1 h2 h3 => ?_⟩⟩
 · rcases getElem?_snoc _ _ _ _ h1 with h1 | ⟨e1, rfl⟩
   · rcases getElem?_snoc _ _ _ _ h2 with h2 | ⟨e2, _⟩
     · exact (h.ob i o' y h1 h2).ext hext (fun b _ hlt => hb.block b hlt)
     · have := (List.getElem?_eq_some_iff.1 h1).1; rw [e2, h.len] at this; omega
   · rcases getElem?_snoc _ _ _ _ h2 with h2 | ⟨e2, rfl⟩
     · have := (List.getElem?_eq_some_iff.1 h2).1; rw [e1, ← h.len] at this; omega
     · exact ho
 · rcases getElem?_snoc _ _ _ _ h1 with p1 | ⟨e1, e1'⟩ <;> rcases getElem?_snoc _ _ _ _ h2 with p2 | ⟨e2, e2'⟩
   · exact h.ap i j hi hj b hne p1 p2 h3
   · intro e
     have k1 := h.lt p1 h3
     have k2 := hx b (by rw [← e2']; exact e)
     omega
   · intro e
     have k1 := h.lt p2 e
     have k2 := hx b (by rw [← e1']; exact h3)
     omega
   · omega
theorem HRel.set {β : List Hd} {H : List AO} {w w' : World} (h : HRel β H w) {i : Nat} {b : Nat} {x : Hd} (hi : β[i]? = some x) (hb : x.cb = some b) {o : AO} (hs : w'.heap.size = w.heap.size) (hos : w'.os = w.os) (htp : w'.tape = w.tape) (hout : w'.output = w.output)
   (hbl : ∀ k, k ≠ b → w'.heap[k]? = w.heap[k]?) (ho : Ext β w β w' → ORep β w' x o) : Ext β w β w' ∧ HRel β (H.set i o) w' := by
 have hm := Hd.cb_mem hb
 have hst : ∀ k, Still β k → k ≠ b := fun k hk e => hk _ (List.mem_of_getElem? hi) (by rw [e]; exact hm)
 have hext : Ext β w β w' := ⟨hos, htp, hout, by omega, fun k hk hs => hbl k (hst k hs), fun k hk hs => hs, fun i y hy => ⟨y, hy, y.to_refl⟩, fun bs b' hb' hm' _ => hbl b' fun e => by
   obtain ⟨j, hj, ej⟩ := List.mem_iff_getElem.1 hb'
   have hj2 : β[j]? = some (.guard bs) := by rw [List.getElem?_eq_getElem hj, ej]
   have hne : i ≠ j := fun e2 => by subst e2; rw [hi] at hj2; cases hj2; cases hb
   exact h.ap i j _ _ b hne hi hj2 hm (by rw [← e]; exact hm')⟩
 refine ⟨hext, ⟨h.gl.ext hext, by simp [h.len], fun j o' y h1 h2 => ?_, h.ap⟩⟩
 by_cases e : i = j
 · subst e
   have hlt : i < H.length := by have := (List.getElem?_eq_some_iff.1 hi).1; rw [h.len] at this; exact this
   rw [List.getElem?_set_self hlt] at h1
   cases h1
   rw [hi] at h2; cases h2
   exact ho hext
 · rw [List.getElem?_set_ne e] at h1
   refine (h.ob j o' y h1 h2).ext hext fun b' hb' _ => hbl b' ?_
   intro e2; subst e2
   exact h.ap i j _ y b' e hi h2 hm hb'
def BoxAt (β : List Hd) (w : World) (i b : Nat) (T : TypeId) (arr : Array Value) (cs : List AV) : Prop := β[i]? = some (.box b) ∨ ∃ v, β[i]? = some (.bld b v) ∧ BldOk w b T arr cs v
theorem BoxAt.lt {β : List Hd} {w : World} {i b : Nat} {T : TypeId} {arr : Array Value} {cs : List AV} (h : BoxAt β w i b T arr cs) : i < β.length := by
 rcases h with h | ⟨v, h, _⟩ <;> exact (List.getElem?_eq_some_iff.1 h).1
theorem plain_take {cs : List AV} {off z : Nat} (h : cs.all AV.plainC = true) : ((cs.drop off).take z).all AV.plainC = true := by
 rw [List.all_eq_true] at h ⊢
 exact fun x hx => h x (List.mem_of_mem_drop (List.mem_of_mem_take hx))
theorem HRel.setB {β : List Hd} {H : List AO} {w w' : World} (h : HRel β H w) {i b : Nat} {T : TypeId} {arr : Array Value} {cs cs' : List AV} (hi : BoxAt β w i b T arr cs) (hat0 : H[i]? = some (.box cs)) (hs : w'.heap.size = w.heap.size) (hos : w'.os = w.os) (htp : w'.tape = w.tape) (hout : w'.output = w.output)
   (hbl : ∀ k, k ≠ b → w'.heap[k]? = w.heap[k]?) (ho : Ext β w β w' → ∃ arr', w'.heap[b]? = some (.cells arr' T (0, 0)) ∧ arr'.size = cs'.length ∧ (∀ (j : Nat) (u : Value) (y : AV), arr'[j]? = some u → cs'[j]? = some y → VRep β w' u y) ∧
     (∀ (k : Nat) (y : AV), cs[k]? = some y → y.plainC = false → arr'[k]? = arr[k]? ∧ cs'[k]? = cs[k]?) ∧ (cs.all AV.plainC = true → cs'.all AV.plainC = true)) : Ext β w β w' ∧ HRel β (H.set i (.box cs')) w' := by
 rcases hi with hi | ⟨v, hi, e, s, k1, k2, k3, k4, k5, k6⟩
 · refine h.set hi rfl hs hos htp hout hbl fun hx => ?_
   obtain ⟨arr', h1, h2, h3, _, h5⟩ := ho hx
   have hold := h.ob i (.box cs) _ hat0 hi
   obtain ⟨_, _, _, _, _, q⟩ := hold
   exact ⟨arr', T, h1, h2, h3, h5 q⟩
 · refine h.set hi rfl hs hos htp hout hbl fun hx => ?_
   obtain ⟨arr', h1, h2, h3, h4, _⟩ := ho hx
   obtain ⟨a1, a2⟩ := h4 0 _ k1 rfl
   obtain ⟨b1, b2⟩ := h4 1 _ k2 rfl
   refine ⟨arr', T, h1, h2, h3, e, s, a2.trans k1, b2.trans k2, b1.trans k3, by rw [a1]; exact k4, ⟨k5.1, ?_⟩, k6⟩
   rcases k5.2 with h4 | ⟨g, cap, cur, h4, h5, h6, h7⟩
   · exact .inl h4
   · refine .inr ⟨g, cap, cur, h4, h5, ?_, h7⟩
     rw [hbl g (fun e => k6.1 (by rw [h4, e]; rfl))]; exact h6
theorem GOK.at {m : Nat} {G : List AO} (h : GOK m G) (L : List AO) (j : Nat) : (G ++ L)[m + j]? = L[j]? := by
 rw [← h.1, List.getElem?_append_right (by omega)]; congr 1; omega
theorem GOK.set {m : Nat} {G : List AO} (h : GOK m G) (L : List AO) (j : Nat) (o : AO) : (G ++ L).set (m + j) o = G ++ L.set j o := by
 rw [← h.1, List.set_append_right _ _ (by omega)]; congr 2; omega
def AV.one : AV → Bool
 | .int _ _ | .bool _ | .str _ | .sl _ | .pe _ | .fn _ _ _ | .ifc _ _ | .box _ _ | .own _ _ => true
 | .raw v => v.oneCell'
 | .mh _ | .mp _ | .rc _ _ => true
 | _ => false
theorem one_plain {X : AV} (h : X.one = true) : X.plainC = true := by cases X <;> first | rfl | cases h
theorem VRep.one {β : List Hd} {W : World} {u : Value} {y : AV} (h : VRep β W u y) (hy : y.one = true) : u.oneCell' = true := by
 cases h <;> first | rfl | exact hy | assumption | cases hy
theorem VRep.cells {β : List Hd} {W : World} {v : Value} {X : AV} (h : VRep β W v X) (hX : (∃ cs, X = .agg cs) ∨ X.one = true) : v.cells.size = X.cells.length ∧ ∀ (q : Nat) (u : Value) (y : AV), v.cells[q]? = some u → X.cells[q]? = some y → VRep β W u y := by
 rcases hX with ⟨cs, rfl⟩ | hX
 · cases h with
   | agg vs _ hl2 h => exact ⟨hl2, h⟩
 · have e : X.cells = [X] := by cases X <;> first | rfl | cases hX
   have hv : v.cells = #[v] := by
     have := h.one hX
     cases v <;> first | rfl | cases this
   rw [hv, e]
   refine ⟨rfl, fun q u y h1 h2 => ?_⟩
   cases q with
   | zero => simp at h1 h2; subst h1; subst h2; exact h
   | succ q => simp at h2
def shaped : AV → Bool
 | .agg _ => true
 | x => x.one
theorem shaped_spec {X : AV} (h : shaped X = true) : (∃ cs, X = .agg cs) ∨ X.one = true := by
 cases X <;> first | exact .inl ⟨_, rfl⟩ | exact .inr h
section
variable {P : Program} {ops : Array Oper} {n m : Nat} {QQ : List Kd → Sl → List AO → Prop} {l : List Oper} {ks : List Kd} {σ : Sl} {G L : List AO} {o : Oper} {gd : Bool}
theorem ARun.read {H : List AO} {X Y : AV} {d : Option Tmp} (hd : o.dst = d) (hn : dstLt n d = true) (hG : gdS ops σ o.guard = some gd) (hY : optA o.guard gd X = Y)
   (h : gd = true → ∀ (a : Act) (W : World) (β : List Hd), HRel β H W → LRep β W a σ (o.looksAt ops) → ∃ v, (execOp a.eval o).run P W = .ok (.value v) W ∧ VRep β W v X)
   (hr : ARun P ops n QQ l (ks ++ [.read]) (putS σ d Y) H) : ARun P ops n QQ (o :: l) ks σ H := by
 subst hd; subst hY
 refine ⟨.read, _, H, hn, ⟨rfl, OpStep.val hG (.inr rfl) (fun _ => trivial) fun hg a W β hHr hl => ?_⟩, hr⟩
 obtain ⟨v, h1, h2⟩ := h hg a W β hHr hl
 exact ⟨v, W, β, h1, Ext.refl _ _, hHr, h2⟩
theorem ARun.rd {H : List AO} {X Y : AV} {d : Option Tmp} (hd : o.dst = d) (hn : dstLt n d = true) (hG : gdS ops σ o.guard = some gd) (hY : optA o.guard gd X = Y)
   (h : gd = true → ∀ (E : List AO) (a : Act) (W : World) (β : List Hd), HRel β (H ++ E) W → LRep β W a σ (o.looksAt ops) → ∃ v, (execOp a.eval o).run P W = .ok (.value v) W ∧ VRep β W v X)
   (hr : ARun P ops n QQ l (ks ++ [.rd]) (putS σ d Y) H) : ARun P ops n QQ (o :: l) ks σ H := by
 subst hd; subst hY
 refine ⟨.rd, _, H, hn, ⟨rfl, fun E => OpStep.val hG (.inr rfl) (fun _ => trivial) fun hg a W β hHr hl => ?_⟩, hr⟩
 obtain ⟨v, h1, h2⟩ := h hg E a W β hHr hl
 exact ⟨v, W, β, h1, Ext.refl _ _, hHr, h2⟩
theorem at_ext {H : List AO} {i : Nat} {x : AO} (h : H[i]? = some x) (E : List AO) : (H ++ E)[i]? = some x := by
 rw [List.getElem?_append_left (List.getElem?_eq_some_iff.1 h).1]; exact h
theorem VRep.box_inv {β : List Hd} {W : World} {v : Value} {i off : Nat} (h : VRep β W v (.box i off)) : ∃ b, v = .pointer (some ⟨b, off, none⟩) ∧ ∀ k, VRep β W (.pointer (some ⟨b, k, none⟩)) (.box i k) := by
 cases h with
 | box b _ _ hi h => exact ⟨b, rfl, fun k => .box b i k hi h⟩
theorem VRep.box_at {β : List Hd} {H : List AO} {W : World} {v : Value} {i off : Nat} {cs : List AV} (h : VRep β W v (.box i off)) (hH : HRel β H W) (hi : H[i]? = some (.box cs)) :
   ∃ b arr T, BoxAt β W i b T arr cs ∧ v = .pointer (some ⟨b, off, none⟩) ∧ W.heap[b]? = some (.cells arr T (0, 0)) ∧ arr.size = cs.length ∧ ∀ (j : Nat) (u : Value) (y : AV), arr[j]? = some u → cs[j]? = some y → VRep β W u y := by
 cases h with
 | box b0 _ _ hi2 h =>
   have hg : β[i]? = some β[i] := List.getElem?_eq_getElem hi2
   have ho := hH.ob i _ _ hi hg
   cases hb : β[i] with
   | box b =>
     rw [hb] at ho hg
     obtain ⟨arr, T, h1, h2, h3, _⟩ := ho
     exact ⟨b, arr, T, .inl hg, by rw [h _ b hg rfl], h1, h2, h3⟩
   | bld b v =>
     rw [hb] at ho hg
     obtain ⟨arr, T, h1, h2, h3, h4⟩ := ho
     exact ⟨b, arr, T, .inr ⟨v, hg, h4⟩, by rw [h _ b hg rfl], h1, h2, h3⟩
   | row v g => rw [hb] at ho; exact ho.elim
   | dead => rw [hb] at ho; exact ho.elim
   | guard b => rw [hb] at ho; exact ho.elim
   | map b => rw [hb] at ho; exact ho.elim
theorem ARun.loadBox {H : List AO} {x : Operand} {t : TypeId} {u : TypeDesc} {i off : Nat} {cs : List AV} {X Y : AV} {d : Option Tmp} (ho : o.op = .load t x) (hd : o.dst = d) (hn : dstLt n d = true) (hG : gdS ops σ o.guard = some gd)
   (hu : P.underlying t = some u) (hA : isA u = false)
   (hx : Ev gd σ x (.box i off)) (hH : H[i]? = some (.box cs)) (hC : cs[off]? = some X) (hY : optA o.guard gd X = Y)
   (hr : ARun P ops n QQ l (ks ++ [.rd]) (putS σ d Y) H) : ARun P ops n QQ (o :: l) ks σ H := by
 refine ARun.rd hd hn hG hY (fun hg E a W β hHr hl => ?_) hr
 obtain ⟨b, arr, T, h1, h2, h3, h4, h5⟩ := (hx.rep hg hl (by simp [ho, Op.operands])).box_at hHr (at_ext hH E)
 have hlt : off < arr.size := by rw [h4]; exact (List.getElem?_eq_some_iff.1 hC).1
 have hc : W.cell? ⟨b, off, none⟩ = some arr[off] := by simp [World.cell?, h3, hlt]
 refine ⟨arr[off], ?_, h5 off _ _ (Array.getElem?_eq_getElem hlt) hC⟩
 have h6 : (loadVar t ⟨b, off, none⟩).run P W = .ok arr[off] W := by
   simp only [loadVar, Sem.run_bind, isAgg_run hu, hA]
   simp [hc]
 simp [execOp, ho, h2, Instr.loadAt, Instr.sureAddr, h6]
theorem ARun.loadBoxA {H : List AO} {x : Operand} {t : TypeId} {u : TypeDesc} {i off z : Nat} {cs C : List AV} {Y : AV} {d : Option Tmp} (ho : o.op = .load t x) (hd : o.dst = d) (hn : dstLt n d = true) (hG : gdS ops σ o.guard = some gd)
   (hu : P.underlying t = some u) (hA : isA u = true) (hz : Sz P t z)
   (hx : Ev gd σ x (.box i off)) (hH : H[i]? = some (.box cs)) (hC : (cs.drop off).take z = C) (hCz : C.length = z) (hY : optA o.guard gd (.agg C) = Y)
   (hr : ARun P ops n QQ l (ks ++ [.rd]) (putS σ d Y) H) : ARun P ops n QQ (o :: l) ks σ H := by
 refine ARun.rd hd hn hG hY (fun hg E a W β hHr hl => ?_) hr
 obtain ⟨b, arr, T, h1, h2, h3, h4, h5⟩ := (hx.rep hg hl (by simp [ho, Op.operands])).box_at hHr (at_ext hH E)
 subst hC
 have hget : ∀ q y, ((cs.drop off).take z)[q]? = some y → cs[off + q]? = some y := by
   intro q y hq
   rw [List.getElem?_take] at hq
   split at hq
   · rw [List.getElem?_drop] at hq; exact hq
   · cases hq
 have hcell : ∀ q y, ((cs.drop off).take z)[q]? = some y → ∃ u, arr[off + q]? = some u ∧ W.cell? ⟨b, off + q, none⟩ = some u := by
   intro q y hq
   have hlt : off + q < arr.size := by rw [h4]; exact (List.getElem?_eq_some_iff.1 (hget q y hq)).1
   exact ⟨_, Array.getElem?_eq_getElem hlt, by simp [World.cell?, h3, hlt]⟩
 obtain ⟨vs, k1, k2, k3⟩ := cells_list W b off ((cs.drop off).take z) β (fun q y hq => by obtain ⟨u, _, h⟩ := hcell q y hq; exact ⟨u, h⟩) (fun q y u hq hu2 => by
   obtain ⟨u', e1, e2⟩ := hcell q y hq
   rw [e2] at hu2; cases hu2
   exact h5 _ _ _ e1 (hget q y hq))
 refine ⟨.agg vs.toArray, ?_, .agg _ _ (by simpa using k1) (fun j u y hj hy => k3 j u y (by simpa using hj) hy)⟩
 have h6 : (loadVar t ⟨b, off, none⟩).run P W = .ok (.agg vs.toArray) W := by
   simp only [loadVar, Sem.run_bind, isAgg_run hu, hA, if_true]
   have h7 := run_loadCells_list (P := P) (w := W) ⟨b, off, none⟩ vs (fun j u hj => by rw [aadd]; exact k2 j u hj)
   rw [← hCz, ← k1] at hz
   simp [hz.run, h7]
 simp [execOp, ho, h2, Instr.loadAt, Instr.sureAddr, h6]
theorem ARun.fieldBox {H : List AO} {x : Operand} {s : TypeId} {f fo fs i off : Nat} {fields : Array Field} {fld : Field} {Y : AV} {d : Option Tmp} {cs : List AV} (ho : o.op = .fieldAddr s x f) (hd : o.dst = d) (hn : dstLt n d = true) (hG : gdS ops σ o.guard = some gd)
   (hu : P.underlying s = some (.struct fields)) (hf : fields[f]? = some fld) (hfo : off + fld.offset = fo) (hz : Sz P fld.type fs) (hfs : fs ≠ 0)
   (hx : Ev gd σ x (.box i off)) (hH : H[i]? = some (.box cs)) (hY : optA o.guard gd (.box i fo) = Y)
   (hr : ARun P ops n QQ l (ks ++ [.pure]) (putS σ d Y) H) : ARun P ops n QQ (o :: l) ks σ H := by
 refine ARun.same hd hn hG hY (fun hg a W β hl => ?_) hr
 obtain ⟨b, h2, h3⟩ := (hx.rep hg hl (by simp [ho, Op.operands])).box_inv
 refine ⟨.pointer (some ⟨b, fo, none⟩), ?_, h3 fo⟩
 subst hfo
 simp [execOp, ho, h2, Instr.fieldAt, run_underlying hu, hf, Instr.sureAddr, fieldPlace, hz.run, hfs, aadd]
theorem ARun.write {H H' : List AO} {X Y : AV} {d : Option Tmp} (hd : o.dst = d) (hn : dstLt n d = true) (hg : gdS ops σ o.guard = some true) (hY : optA o.guard true X = Y)
   (h : ∀ (a : Act) (W : World) (β : List Hd), HRel β H W → LRep β W a σ (o.looksAt ops) → ∃ v W' β', (execOp a.eval o).run P W = .ok (.value v) W' ∧ Ext β W β' W' ∧ HRel β' H' W' ∧ VRep β' W' v X)
   (hr : ARun P ops n QQ l (ks ++ [.write]) (putS σ d Y) H') : ARun P ops n QQ (o :: l) ks σ H := by
 subst hd; subst hY
 exact ⟨.write, _, H', hn, OpStep.val hg (.inl rfl) (fun _ => trivial) fun _ a W β hHr hl => h a W β hHr hl, hr⟩
theorem ARun.new {H E : List AO} {X Y : AV} {d : Option Tmp} (hd : o.dst = d) (hn : dstLt n d = true) (hg : gdS ops σ o.guard = some true) (hY : optA o.guard true X = Y)
   (h : ∀ (H0 : List AO), H0.length = H.length → ∀ (a : Act) (W : World) (β : List Hd), HRel β H0 W → LRep β W a σ (o.looksAt ops) → ∃ v W' β', (execOp a.eval o).run P W = .ok (.value v) W' ∧ Ext β W β' W' ∧ HRel β' (H0 ++ E) W' ∧ VRep β' W' v X)
   (hr : ARun P ops n QQ l (ks ++ [.new]) (putS σ d Y) (H ++ E)) : ARun P ops n QQ (o :: l) ks σ H := by
 subst hd; subst hY
 exact ⟨.new, _, H ++ E, hn, ⟨E, rfl, fun H0 hl0 => OpStep.val hg (.inl rfl) (fun _ => trivial) fun _ a W β hHr hl => h H0 hl0 a W β hHr hl⟩, hr⟩
theorem ARun.wf {H H' : List AO} {X Y : AV} {d : Option Tmp} (hd : o.dst = d) (hn : dstLt n d = true) (hY : optA o.guard true X = Y) (hl : H'.length = H.length)
   (h : ∀ E, OpStep P ops o σ (H ++ E) (optA o.guard true X) (H' ++ E))
   (hr : ARun P ops n QQ l (ks ++ [.wf]) (putS σ d Y) H') : ARun P ops n QQ (o :: l) ks σ H := by
 subst hd; subst hY
 exact ⟨.wf, _, H', hn, ⟨hl, h⟩, hr⟩
theorem ARun.box {x : Operand} {t : TypeId} {j : Nat} {X : AV} {C : List AV} {Y : AV} {d : Option Tmp} (hm : GOK m G) (hj : L.length = j) (ho : o.op = .box t x) (hd : o.dst = d) (hn : dstLt n d = true) (hg : gdS ops σ o.guard = some true)
   (hx : Ev true σ x X) (hC : X.cells = C) (hp : shaped X = true) (hY : optA o.guard true (.box (m + j) 0) = Y)
   (hr : ARun P ops n QQ l (ks ++ [.new]) (putS σ d Y) (G ++ (L ++ [.box C]))) (hpl : C.all AV.plainC = true := by first | rfl | simp [AV.plainC]) : ARun P ops n QQ (o :: l) ks σ (G ++ L) := by
 refine ARun.new (E := [.box C]) hd hn hg hY (fun H0 hl0 a W β hHr hl => ?_) (by rw [List.append_assoc]; exact hr)
 have h0 := hx.rep rfl hl (by simp [ho, Op.operands])
 generalize hv : a.eval x = v at h0
 subst hC
 have hcells := h0.cells (shaped_spec hp)
 have hb : Below W.heap.size W (W.alloc (.cells v.cells t)) := (Below.refl _ _).alloc (Nat.le_refl _) _
 have hsn := hHr.snoc (w' := W.alloc (.cells v.cells t)) hb (x := .box W.heap.size) (o := .box X.cells) ⟨v.cells, t, heap_alloc_new W _, hcells.1, fun q u y h1 h2 => by
   refine (hcells.2 q u y h1 h2).ext ⟨hb.os, hb.tape, hb.output, hb.size, fun k hk _ => hb.block k hk, fun k hk hs y hy => ?_, fun i y hy => ⟨y, by rw [List.getElem?_append_left (List.getElem?_eq_some_iff.1 hy).1]; exact hy, y.to_refl⟩, fun _ b _ _ hlt => hb.block b hlt⟩
   rcases List.mem_append.1 hy with hy | hy
   · exact hs y hy
   · simp at hy; subst hy; intro e; simp [Hd.blks] at e; omega, hpl⟩ (fun b hb => by simp [Hd.blks] at hb; omega)
 have hlen : β.length = m + j := by rw [hHr.len, hl0, List.length_append, hm.1, hj]
 refine ⟨.pointer (some ⟨W.heap.size, 0, none⟩), _, β ++ [.box W.heap.size], ?_, hsn.1, hsn.2, .box _ _ _ (by rw [List.length_append, hlen]; simp) fun x b hb hcb => ?_⟩
 · simp [execOp, ho, hv, Instr.box, newVar, newRow]
 · rw [List.getElem?_append_right (by omega), hlen, Nat.sub_self] at hb
   cases hb; cases hcb; rfl
theorem OpStep.skip {H H' : List AO} {gd : Bool} (hg : gdS ops σ o.guard = some true) (hgd : gd = true)
   (h : ∀ (a : Act) (W : World) (β : List Hd), HRel β H W → LRep β W a σ (o.looksAt ops) → ∃ W' β', (execOp a.eval o).run P W = .ok .skip W' ∧ Ext β W β' W' ∧ HRel β' H' W') :
   OpStep P ops o σ H (.raw undef) H' := by
 intro a W β hHr hl K Q hK
 rw [gd_wanted hg hl, if_pos rfl]
 obtain ⟨W', β', hr, h1, h2⟩ := h a W β hHr hl
 unfold Oper.wp
 rw [hr, Oper.upon_skip]
 exact hK undef W' β' h1 h2 (.raw _)
theorem ARun.store {H : List AO} {x y : Operand} {t : TypeId} {i off z : Nat} {cs C cs' : List AV} {X : AV} (ho : o.op = .store t x y) (hd : o.dst = none) (hg : gdS ops σ o.guard = some true) (hz : Sz P t z)
   (hx : Ev true σ x (.box i off)) (hy : Ev true σ y X) (hH : H[i]? = some (.box cs)) (hX : shaped X = true) (hC : X.cells = C) (hCz : C.length = z) (hone : C.all AV.one = true)
   (hoff : off + z ≤ cs.length) (hcs : cs.take off ++ C ++ cs.drop (off + z) = cs')
   (hr : ARun P ops n QQ l (ks ++ [.write]) σ (H.set i (.box cs'))) (hsp : ((cs.drop off).take z).all AV.plainC = true := by first | rfl | exact plain_take rfl | exact plain_take (by simp [AV.plainC])) : ARun P ops n QQ (o :: l) ks σ H := by
 refine ⟨.write, .raw undef, H.set i (.box cs'), by rw [hd]; rfl, OpStep.skip (gd := true) hg rfl (fun a W β hHr hl => ?_), by rw [hd]; exact hr⟩
 obtain ⟨b, arr, T, h1, h2, h3, h4, h5⟩ := (hx.rep rfl hl (by simp [ho, Op.operands])).box_at hHr hH
 have h0 := hy.rep rfl hl (by simp [ho, Op.operands])
 generalize hv : a.eval y = v at h0
 obtain ⟨c1, c2⟩ := h0.cells (shaped_spec hX)
 rw [hC] at c1 c2
 have hcone : ∀ u, u ∈ v.cells.toList → u.oneCell' = true := by
   intro u hu
   obtain ⟨q, hq, rfl⟩ := List.mem_iff_getElem.1 hu
   have hq' : q < v.cells.size := by simpa using hq
   have hqc : q < C.length := by omega
   have := c2 q _ _ (Array.getElem?_eq_getElem hq') (List.getElem?_eq_getElem hqc)
   have h7 := this.one (List.all_eq_true.1 hone _ (List.getElem_mem hqc))
   simpa using h7
 have hlen : v.cells.toList.length = z := by rw [Array.length_toList, c1, hCz]
 have hst := run_storeCells_at P b off T v.cells.toList 0 arr W h3 (by rw [hlen, h4]; omega) hcone
 rw [Nat.add_zero, hlen] at hst
 have hset := hHr.setB h1 hH (cs' := cs') (w' := W.setRow b (arr.toList.take off ++ v.cells.toList ++ arr.toList.drop (off + z)).toArray) (by simp) (by simp) (by simp) (by simp) (fun k hk => setRow_other W b k _ hk) (fun hx => by
   refine ⟨_, setRow_heap W b arr _ T (0, 0) h3, ?_, fun q u y' hq hy' => ?_, fun q y' hq hpl => ?_, fun hpl => ?_⟩
   · rw [← hcs]; simp [hCz, h4]; rw [← Array.length_toList, hlen]
   · rw [← hcs] at hy'
     refine VRep.ext hx ?_
     simp only [List.getElem?_toArray] at hq
     by_cases q1 : q < off
     · rw [List.append_assoc, List.getElem?_append_left (by rw [List.length_take]; simp; omega), List.getElem?_take_of_lt q1] at hq
       rw [List.append_assoc, List.getElem?_append_left (by rw [List.length_take]; omega), List.getElem?_take_of_lt q1] at hy'
       exact h5 q u y' (by simpa using hq) hy'
     · by_cases q2 : q < off + z
       · rw [List.append_assoc, List.getElem?_append_right (by rw [List.length_take]; omega), List.length_take, Array.length_toList, List.getElem?_append_left (by rw [hlen]; omega)] at hq
         rw [List.append_assoc, List.getElem?_append_right (by rw [List.length_take]; omega), List.length_take, List.getElem?_append_left (by rw [hCz]; omega)] at hy'
         rw [show min off arr.size = min off cs.length by rw [h4]] at hq
         exact c2 _ u y' (by simpa using hq) hy'
       · rw [List.getElem?_append_right (by rw [List.length_append, List.length_take, hlen]; simp; omega), List.getElem?_drop, List.length_append, List.length_take, hlen, Array.length_toList] at hq
         rw [List.getElem?_append_right (by rw [List.length_append, List.length_take, hCz]; omega), List.getElem?_drop, List.length_append, List.length_take, hCz] at hy'
         rw [show min off arr.size = min off cs.length by rw [h4]] at hq
         exact h5 _ u y' (by simpa using hq) hy'
   · have hout : q < off ∨ off + z ≤ q := by
       rcases Nat.lt_or_ge q off with h | h
       · exact .inl h
       · refine .inr (Nat.le_of_not_lt fun h2 => ?_)
         have hin : ((cs.drop off).take z)[q - off]? = some y' := by
           rw [List.getElem?_take_of_lt (by omega), List.getElem?_drop, show off + (q - off) = q by omega]; exact hq
         have := List.all_eq_true.1 hsp _ (List.mem_of_getElem? hin)
         rw [hpl] at this; cases this
     rw [← hcs]
     simp only [List.getElem?_toArray]
     rcases hout with q1 | q1
     · rw [List.append_assoc, List.getElem?_append_left (by rw [List.length_take]; simp; omega), List.getElem?_take_of_lt q1]
       rw [List.append_assoc, List.getElem?_append_left (by rw [List.length_take]; omega), List.getElem?_take_of_lt q1]
       exact ⟨by simp, rfl⟩
     · rw [List.getElem?_append_right (by rw [List.length_append, List.length_take, hlen]; simp; omega), List.getElem?_drop, List.length_append, List.length_take, hlen, Array.length_toList]
       rw [List.getElem?_append_right (by rw [List.length_append, List.length_take, hCz]; omega), List.getElem?_drop, List.length_append, List.length_take, hCz]
       rw [show min off arr.size = off by omega, show min off cs.length = off by omega, show off + z + (q - (off + z)) = q by omega]
       exact ⟨by simp, rfl⟩
   · rw [← hcs, List.all_eq_true]
     intro y hy
     have hp := List.all_eq_true.1 hpl
     rcases List.mem_append.1 hy with hy | hy
     · rcases List.mem_append.1 hy with hy | hy
       · exact hp y (List.mem_of_mem_take hy)
       · exact one_plain (List.all_eq_true.1 hone y hy)
     · exact hp y (List.mem_of_mem_drop hy))
 refine ⟨_, β, ?_, hset.1, hset.2⟩
 have hsz : v.cells.size = z := by rw [← hlen]; simp
 simp [execOp, ho, hv, h2, Instr.storeAt, Instr.sureAddr, storeVar, hz.run, hsz, hst]
theorem ARun.storeL {x y : Operand} {t : TypeId} {j off z : Nat} {cs C cs' : List AV} {X : AV} {L' : List AO} (hm : GOK m G) (ho : o.op = .store t x y) (hd : o.dst = none) (hg : gdS ops σ o.guard = some true) (hz : Sz P t z)
   (hx : Ev true σ x (.box (m + j) off)) (hy : Ev true σ y X) (hH : L[j]? = some (.box cs)) (hX : shaped X = true) (hC : X.cells = C) (hCz : C.length = z) (hone : C.all AV.one = true)
   (hoff : off + z ≤ cs.length) (hcs : cs.take off ++ C ++ cs.drop (off + z) = cs') (hL : L.set j (.box cs') = L')
   (hr : ARun P ops n QQ l (ks ++ [.write]) σ (G ++ L')) (hsp : ((cs.drop off).take z).all AV.plainC = true := by first | rfl | exact plain_take rfl | exact plain_take (by simp [AV.plainC])) : ARun P ops n QQ (o :: l) ks σ (G ++ L) :=
 ARun.store ho hd hg hz hx hy (by rw [hm.at]; exact hH) hX hC hCz hone hoff hcs (by rw [hm.set, hL]; exact hr) hsp
end
end Go.Proofs.YtnlpojjfkgnhhaaGreatDoor
namespace Go.Proofs.YtnlpojjfkgnhhaaGreatDoor
open Go.RowKit
def Zv (P : Program) (t : TypeId) (v : Value) : Prop := (P.info? t).map (·.zero) = some (some v)
theorem Zv.run {P : Program} {t : TypeId} {v : Value} (h : Zv P t v) (w : World) : (zeroValue t).run P w = .ok v w := by
 unfold Zv at h
 cases hi : P.info? t with
 | none => rw [hi] at h; cases h
 | some i =>
   rw [hi] at h
   have hz : i.zero = some v := by simpa using h
   simp [zeroValue, typeInfo, hi, hz]
inductive EvP (gd : Bool) (σ : Sl) : List (Nat × Operand) → List (Nat × AV) → Prop where
 | nil : EvP gd σ [] []
 | cons {i : Nat} {x : Operand} {X : AV} {l : List (Nat × Operand)} {m : List (Nat × AV)} (h : Ev gd σ x X) (t : EvP gd σ l m) : EvP gd σ ((i, x) :: l) ((i, X) :: m)
inductive EvL (gd : Bool) (σ : Sl) : List Operand → List AV → Prop where
 | nil : EvL gd σ [] []
 | cons {x : Operand} {X : AV} {l : List Operand} {m : List AV} (h : Ev gd σ x X) (t : EvL gd σ l m) : EvL gd σ (x :: l) (X :: m)
def fillA (pl : Nat → Option (Nat × Nat)) : List AV → List (Nat × AV) → Option (List AV)
 | cs, [] => some cs
 | cs, (i, X) :: r => match pl i with
   | none => none
   | some (off, size) => bif Nat.beq X.cells.length size && Nat.ble (off + size) cs.length then fillA pl (cs.take off ++ X.cells ++ cs.drop (off + size)) r else none
theorem fold_set (off : Nat) : ∀ (vs : List Value) (k : Nat) (cells : Array Value), off + k + vs.length ≤ cells.size →
   ((vs.zipIdx k).foldl (fun cs (c, j) => cs.setIfInBounds (off + j) c) cells).toList = cells.toList.take (off + k) ++ vs ++ cells.toList.drop (off + k + vs.length) := by
 intro vs
 induction vs with
 | nil => intro k cells _; simp
 | cons v vs ih =>
   intro k cells h
   rw [List.zipIdx_cons, List.foldl_cons]
   have hk : off + k < cells.size := by simp at h; omega
   rw [ih (k + 1) _ (by simp at h ⊢; omega)]
   simp only [Array.toList_setIfInBounds, List.length_cons]
   rw [show off + (k + 1) = off + k + 1 by omega, List.take_succ_eq_append_getElem (by simpa using hk)]
   rw [List.getElem_set_self, List.take_set_of_le (Nat.le_refl _), List.drop_set_of_lt (by omega)]
   rw [show off + k + (vs.length + 1) = off + k + 1 + vs.length by omega]
   simp
def StOk (P : Program) (t : TypeId) (zv : Value) (pl : List (Nat × Nat)) : Prop := ∃ fields : Array Field, P.underlying t = some (.struct fields) ∧ Zv P t zv ∧ (fields.toList.all fun f => (P.info? f.type).isSome) = true ∧ fields.toList.map (fun f => (f.offset, P.cellsOf f.type)) = pl
def CRep (β : List Hd) (w : World) (vs : Array Value) (cs : List AV) : Prop := vs.size = cs.length ∧ ∀ (j : Nat) (u : Value) (x : AV), vs[j]? = some u → cs[j]? = some x → VRep β w u x
theorem fill_rep {β : List Hd} {w : World} {gd : Bool} (pl : Nat → Option (Nat × Nat)) {a : Act} {σ : Sl} : ∀ (parts : List (Nat × Operand)) (ps : List (Nat × AV)), EvP gd σ parts ps → (∀ x, x ∈ parts.map (·.2) → ∀ X, Ev gd σ x X → VRep β w (a.eval x) X) →
   (ps.all fun p => shaped p.2) = true → ∀ (vs : Array Value) (cs cs' : List AV), CRep β w vs cs → fillA pl cs ps = some cs' →
   ∃ vs', Instr.fill pl vs (parts.map fun p => (p.1, a.eval p.2)) = some vs' ∧ CRep β w vs' cs' := by
 intro parts ps h
 induction h with
 | nil => intro _ _ vs cs cs' hc hf; cases hf; exact ⟨vs, rfl, hc⟩
 | @cons i x X l m hx ht ih =>
   intro hr hs vs cs cs' hc hf
   rw [List.all_cons, Bool.and_eq_true] at hs
   have h0 := (hr x (by simp) X hx).cells (shaped_spec hs.1)
   unfold fillA at hf
   rw [List.map_cons]
   unfold Instr.fill
   cases hp : pl i with
   | none => rw [hp] at hf; cases hf
   | some os =>
     obtain ⟨off, size⟩ := os
     rw [hp] at hf
     simp only at hf ⊢
     cases hb : Nat.beq X.cells.length size && Nat.ble (off + size) cs.length with
     | false => rw [hb] at hf; cases hf
     | true =>
       rw [hb] at hf
       rw [Bool.and_eq_true] at hb
       have e1 := Nat.eq_of_beq_eq_true hb.1
       have e2 := Nat.le_of_ble_eq_true hb.2
       have hsz : (a.eval x).cells.size = size := by rw [h0.1, e1]
       have hv : vs.size = cs.length := hc.1
       have hsz2 : (a.eval x).cells.toList.length = size := by simpa using hsz
       rw [if_neg (by simp [hsz]; omega)]
       refine ih (fun y hy => hr y (List.mem_cons_of_mem _ hy)) hs.2 _ _ _ ?_ hf
       have hfs := fold_set off (a.eval x).cells.toList 0 vs (by simp [hsz]; omega)
       rw [Nat.add_zero, Array.length_toList, hsz] at hfs
       have hto : ((a.eval x).cells.zipIdx.foldl (fun cs (c, j) => cs.setIfInBounds (off + j) c) vs).toList = vs.toList.take off ++ (a.eval x).cells.toList ++ vs.toList.drop (off + size) := by
         rw [← hfs, ← Array.foldl_toList]; simp
       constructor
       · rw [← Array.length_toList, hto]; simp [hsz, e1]; omega
       · intro q u y hq hy
         rw [← Array.getElem?_toList, hto] at hq
         by_cases q1 : q < off
         · rw [List.append_assoc, List.getElem?_append_left (by rw [List.length_take]; simp; omega), List.getElem?_take_of_lt q1] at hq
           rw [List.append_assoc, List.getElem?_append_left (by rw [List.length_take]; omega), List.getElem?_take_of_lt q1] at hy
           exact hc.2 q u y (by simpa using hq) hy
         · by_cases q2 : q < off + size
           · rw [List.append_assoc, List.getElem?_append_right (by rw [List.length_take]; omega), List.length_take, Array.length_toList, List.getElem?_append_left (by rw [hsz2]; omega)] at hq
             rw [List.append_assoc, List.getElem?_append_right (by rw [List.length_take]; omega), List.length_take, List.getElem?_append_left (by rw [e1]; omega)] at hy
             rw [show min off vs.size = min off cs.length by rw [hv]] at hq
             exact h0.2 _ u y (by simpa using hq) hy
           · rw [List.getElem?_append_right (by rw [List.length_append, List.length_take, hsz2]; simp; omega), List.getElem?_drop, List.length_append, List.length_take, hsz2, Array.length_toList] at hq
             rw [List.getElem?_append_right (by rw [List.length_append, List.length_take, e1]; omega), List.getElem?_drop, List.length_append, List.length_take, e1] at hy
             rw [show min off vs.size = min off cs.length by rw [hv]] at hq
             exact hc.2 _ u y (by simpa using hq) hy
theorem CRep.zero (β : List Hd) (w : World) (vs : Array Value) : CRep β w vs (vs.toList.map cAV) :=
 ⟨by simp, fun j u x h1 h2 => by
   rw [List.getElem?_map, Array.getElem?_toList, h1] at h2
   cases h2; exact cAV_rep _ _ _⟩
def placesOf (P : Program) (fields : List Field) : List (Nat × Nat) := fields.map fun f => (f.offset, P.cellsOf f.type)
theorem places_run {P : Program} {w : World} : ∀ (fields : List Field), (fields.all fun f => (P.info? f.type).isSome) = true →
   (fields.mapM (m := Sem) fun f => do pure (f.offset, ← sizeOf f.type)).run P w = .ok (placesOf P fields) w := by
 intro fields
 induction fields with
 | nil => intro _; simp [placesOf]
 | cons f fields ih =>
   intro h
   rw [List.all_cons, Bool.and_eq_true] at h
   obtain ⟨i, hi⟩ := Option.isSome_iff_exists.1 h.1
   have ih' := ih h.2
   simp [sizeOf, typeInfo, hi, Program.cellsOf] at ih' ⊢
   simp [ih', placesOf, hi, Program.cellsOf]
section
variable {P : Program} {ops : Array Oper} {n m : Nat} {QQ : List Kd → Sl → List AO → Prop} {l : List Oper} {ks : List Kd} {σ : Sl} {G L H : List AO} {o : Oper} {gd : Bool}
theorem EvP.looks {β : List Hd} {W : World} {a : Act} (hg : gd = true) (hl : LRep β W a σ (o.looksAt ops)) {parts : Array (Nat × Operand)} (hp : ∀ x, x ∈ parts.toList.map (·.2) → x ∈ o.op.operands) :
   ∀ x, x ∈ parts.toList.map (·.2) → ∀ X, Ev gd σ x X → VRep β W (a.eval x) X := fun x hx X h => h.rep hg hl (hp x hx)
theorem ARun.build {t : TypeId} {parts : Array (Nat × Operand)} {ps : List (Nat × AV)} {zv : Value} {C : List AV} {Y : AV} {d : Option Tmp} (ho : o.op = .build t parts) (hd : o.dst = d) (hn : dstLt n d = true) (hG : gdS ops σ o.guard = some gd)
   {pl : List (Nat × Nat)} (hst : StOk P t zv pl)
   (hx : EvP gd σ parts.toList ps) (hs : (ps.all fun p => shaped p.2) = true) (hC : fillA (fun i => pl[i]?) (zv.cells.toList.map cAV) ps = some C) (hY : optA o.guard gd (.agg C) = Y)
   (hr : ARun P ops n QQ l (ks ++ [.pure]) (putS σ d Y) H) : ARun P ops n QQ (o :: l) ks σ H := by
 obtain ⟨fields, hu, hz, hi, hpl⟩ := hst
 change placesOf P fields.toList = pl at hpl
 subst hpl
 refine ARun.same hd hn hG hY (fun hg a W β hl => ?_) hr
 obtain ⟨vs', h1, h2⟩ := fill_rep (β := β) (w := W) (a := a) (fun i => (placesOf P fields.toList)[i]?) parts.toList ps hx (EvP.looks hg hl (by simp [ho, Op.operands])) hs zv.cells _ C (CRep.zero _ _ _) hC
 refine ⟨.agg vs', ?_, .agg _ _ h2.1 h2.2⟩
 have h3 := places_run (P := P) (w := W) fields.toList hi
 have h4 : (fields.mapM (m := Sem) fun f => do pure (f.offset, ← sizeOf f.type)).run P W = .ok (placesOf P fields.toList).toArray W := by
   rw [Array.mapM_eq_mapM_toList]
   have h3' : (List.mapM (m := Sem) (fun f : Field => Prod.mk f.offset <$> sizeOf f.type) fields.toList).run P W = .ok (placesOf P fields.toList) W := by simpa using h3
   simp [h3']
 have h4' : (Array.mapM (m := Sem) (fun f : Field => Prod.mk f.offset <$> sizeOf f.type) fields).run P W = .ok (placesOf P fields.toList).toArray W := by simpa using h4
 have h6 : (Instr.build t (parts.map fun (i, x) => (i, a.eval x))).run P W = .ok (.agg vs') W := by
   unfold Instr.build
   simp only [Sem.run_bind, hz.run, run_underlying hu]
   simp [h4', h1]
 simp only [execOp, ho]
 simp [h6]
end
end Go.Proofs.YtnlpojjfkgnhhaaGreatDoor
namespace Go.Proofs.YtnlpojjfkgnhhaaGreatDoor
open Go.RowKit
theorem CRep.newrow {β : List Hd} {W : World} {vs : Array Value} {C : List AV} {xs : List AV} {z : Nat} {t : TypeId} (hβ : ∀ h, h ∈ β → ∀ b, b ∈ h.blks → b < W.heap.size) (h : CRep β W vs C) (hC : C = xs.flatMap AV.cells) (hz : ∀ x, x ∈ xs → x.cells.length = z) (hm : xs.length ≤ maxLen) :
   VRep β (W.alloc (.cells vs t)) (.slice (some ⟨W.heap.size, 0, none⟩) xs.length xs.length) (.sl xs) := by
 have hget : ∀ (ys : List AV), (∀ x, x ∈ ys → x.cells.length = z) → ∀ (i j : Nat) (x y : AV), ys[i]? = some x → x.cells[j]? = some y → (ys.flatMap AV.cells)[i * z + j]? = some y := by
   intro ys
   induction ys with
   | nil => intro _ i j x y h1; simp at h1
   | cons x0 ys ih =>
     intro hz2 i j x y h1 h2
     rw [List.flatMap_cons]
     have hl0 := hz2 x0 List.mem_cons_self
     cases i with
     | zero =>
       simp at h1; subst h1
       have hj := (List.getElem?_eq_some_iff.1 h2).1
       rw [Nat.zero_mul, Nat.zero_add, List.getElem?_append_left hj]; exact h2
     | succ i =>
       rw [List.getElem?_append_right (by rw [hl0, Nat.add_mul]; omega), hl0, show (i + 1) * z + j - z = i * z + j by rw [Nat.add_mul]; omega]
       exact ih (fun x hx => hz2 x (List.mem_cons_of_mem _ hx)) i j x y (by simpa using h1) h2
 have hcell : ∀ q, (W.alloc (.cells vs t)).cell? ⟨W.heap.size, q, none⟩ = vs[q]? := fun q => World.cell?_alloc_new _ _ _ _
 have hext : Ext β W β (W.alloc (.cells vs t)) := Ext.of_below β ((Below.refl _ _).alloc (Nat.le_refl _) _)
 refine .sl W.heap.size 0 xs.length z xs (Nat.le_refl _) hm (by simp) (fun y hy e => by have := hβ y hy _ e; omega) hz (fun i j x y h1 h2 => ?_) (fun i j x y u h1 h2 h3 => ?_)
 · have h4 := hget xs hz i j x y h1 h2
   rw [← hC] at h4
   have hlt : i * z + j < vs.size := by rw [h.1]; exact (List.getElem?_eq_some_iff.1 h4).1
   exact ⟨_, by rw [Nat.zero_add, hcell]; exact Array.getElem?_eq_getElem hlt⟩
 · have h4 := hget xs hz i j x y h1 h2
   rw [← hC] at h4
   rw [Nat.zero_add, hcell] at h3
   exact (h.2 _ u y h3 h4).ext hext
theorem zeros_eq (zv : Value) (n : Nat) : ((Array.range n).map (zv.cells[· % zv.cells.size]!)).toList.map cAV = (List.range n).map fun j => cAV (zv.cells.toList.getD (j % zv.cells.size) default) := by
 rw [Array.toList_map, Array.toList_range, List.map_map]
 apply List.map_congr_left
 intro j _
 simp only [Function.comp]
 congr 1
 rw [getElem!_def, List.getD]
 by_cases h : j % zv.cells.size < zv.cells.size
 · rw [Array.getElem?_eq_getElem h, List.getElem?_eq_getElem (by simpa using h)]; simp
 · rw [Array.getElem?_eq_none (by omega), List.getElem?_eq_none (by simpa using h)]; rfl
section
variable {P : Program} {ops : Array Oper} {n m : Nat} {QQ : List Kd → Sl → List AO → Prop} {l : List Oper} {ks : List Kd} {σ : Sl} {G L H : List AO} {o : Oper} {gd : Bool}
theorem ARun.valH {X Y : AV} {d : Option Tmp} (hd : o.dst = d) (hn : dstLt n d = true) (hG : gdS ops σ o.guard = some gd) (hY : optA o.guard gd X = Y)
   (h : gd = true → ∀ (a : Act) (W : World) (β : List Hd), (∀ h, h ∈ β → ∀ b, b ∈ h.blks → b < W.heap.size) → LRep β W a σ (o.looksAt ops) → ∃ v W', (execOp a.eval o).run P W = .ok (.value v) W' ∧ Below W.heap.size W W' ∧ VRep β W' v X)
   (hr : ARun P ops n QQ l (ks ++ [.pure]) (putS σ d Y) H) : ARun P ops n QQ (o :: l) ks σ H := by
 subst hd; subst hY
 refine ⟨.pure, _, H, hn, ⟨rfl, fun G => OpStep.val hG (.inr rfl) (fun _ => trivial) fun hg a W β hHr hl => ?_⟩, hr⟩
 obtain ⟨v, W', h1, h2, h3⟩ := h hg a W β (fun y hy b hb => by
   obtain ⟨i, hi, rfl⟩ := List.mem_iff_getElem.1 hy
   exact hHr.lt (List.getElem?_eq_getElem hi) hb) hl
 exact ⟨v, W', β, h1, Ext.of_below β h2, hHr.below h2, h3⟩
theorem ARun.buildSl {t e : TypeId} {len : Nat} {parts : Array (Nat × Operand)} {ps : List (Nat × AV)} {z : Nat} {zv : Value} {C xs : List AV} {Y : AV} {d : Option Tmp} (ho : o.op = .buildSlice t len parts) (hd : o.dst = d) (hn : dstLt n d = true) (hG : gdS ops σ o.guard = some gd)
   (hu : P.underlying t = some (.slice e)) (hz : Sz P e z) (hzv : Zv P e zv) (hzs : zv.cells.size = z) (hbig : len * z ≤ 2 ^ 24)
   (hx : EvP gd σ parts.toList ps) (hs : (ps.all fun p => shaped p.2) = true) (hxs : ps.map (·.2) = xs) (hlen : xs.length = len) (hall : (xs.all fun x => Nat.beq x.cells.length z) = true) (hm : len ≤ maxLen)
   (hC : fillA (fun i => some (i * z, z)) ((List.range (len * z)).map fun j => cAV (zv.cells.toList.getD (j % zv.cells.size) default)) ps = some C) (hCx : C = xs.flatMap AV.cells) (hY : optA o.guard gd (.sl xs) = Y)
   (hr : ARun P ops n QQ l (ks ++ [.pure]) (putS σ d Y) H) : ARun P ops n QQ (o :: l) ks σ H := by
 rw [← zeros_eq] at hC
 refine ARun.valH hd hn hG hY (fun hg a W β hβ hl => ?_) hr
 obtain ⟨vs', h1, h2⟩ := fill_rep (β := β) (w := W) (a := a) (fun i => some (i * z, z)) parts.toList ps hx (EvP.looks hg hl (by simp [ho, Op.operands])) hs _ _ C (CRep.zero β W ((Array.range (len * z)).map (zv.cells[· % zv.cells.size]!))) hC
 refine ⟨.slice (some ⟨W.heap.size, 0, none⟩) len len, W.alloc (.cells vs' e), ?_, (Below.refl _ _).alloc (Nat.le_refl _) _, ?_⟩
 · have hnb : ¬ len * z > 2 ^ 24 := by omega
   by_cases h0 : len * z = 0
   · have e1 : ((Array.range (len * z)).map (zv.cells[· % zv.cells.size]!)) = (#[] : Array Value) := by rw [h0]; simp
     rw [e1] at h1
     have e2 : Array.range 0 = #[] := rfl
     simp [execOp, ho, Instr.buildSlice, run_underlying hu, hz.run, h0, h1, e2, newRow]
   · simp [execOp, ho, Instr.buildSlice, run_underlying hu, hz.run, h0, hnb, hzv.run, h1, newRow]
 · have := CRep.newrow (t := e) (xs := xs) (z := z) hβ h2 hCx (fun x hx => Nat.eq_of_beq_eq_true (List.all_eq_true.1 hall x hx)) (by omega)
   rw [hlen] at this
   exact this
theorem ARun.makeFunc {fn : Fn} {fs cs : Array Operand} {xs ys : List AV} {Y : AV} {d : Option Tmp} (ho : o.op = .makeFunc fn fs cs) (hd : o.dst = d) (hn : dstLt n d = true) (hG : gdS ops σ o.guard = some gd)
   (hx : EvL gd σ fs.toList xs) (hy : EvL gd σ cs.toList ys) (hY : optA o.guard gd (.fn fn xs ys) = Y)
   (hr : ARun P ops n QQ l (ks ++ [.pure]) (putS σ d Y) H) : ARun P ops n QQ (o :: l) ks σ H := by
 have key : ∀ (l : List Operand) (xs : List AV), EvL gd σ l xs → l.length = xs.length ∧ ∀ (j : Nat) (x : Operand) (X : AV), l[j]? = some x → xs[j]? = some X → Ev gd σ x X := by
   intro l xs h
   induction h with
   | nil => exact ⟨rfl, fun j x X h => by simp at h⟩
   | cons h t ih =>
     refine ⟨by simp [ih.1], fun j x X h1 h2 => ?_⟩
     cases j with
     | zero => simp at h1 h2; subst h1; subst h2; exact h
     | succ j => exact ih.2 j x X (by simpa using h1) (by simpa using h2)
 obtain ⟨k1, k2⟩ := key _ _ hx
 obtain ⟨k3, k4⟩ := key _ _ hy
 refine ARun.same hd hn hG hY (fun hg a W β hl => ⟨.func fn (fs.map a.eval) (cs.map a.eval), ?_, ?_⟩) hr
 · simp [execOp, ho, Instr.makeFunc]
 · refine .fn _ _ _ _ _ (by simpa using k1) (by simpa using k3) (fun j u X h1 h2 => ?_) (fun j u X h1 h2 => ?_)
   · simp only [Array.getElem?_map, Option.map_eq_some_iff] at h1
     obtain ⟨x, hx1, rfl⟩ := h1
     have hx2 : fs.toList[j]? = some x := by simpa using hx1
     exact (k2 j x X hx2 h2).rep hg hl (by simp only [ho, Op.operands]; exact Array.mem_append.2 (.inl (Array.mem_of_getElem? hx1)))
   · simp only [Array.getElem?_map, Option.map_eq_some_iff] at h1
     obtain ⟨x, hx1, rfl⟩ := h1
     have hx2 : cs.toList[j]? = some x := by simpa using hx1
     exact (k4 j x X hx2 h2).rep hg hl (by simp only [ho, Op.operands]; exact Array.mem_append.2 (.inr (Array.mem_of_getElem? hx1)))
theorem ARun.iface {t : TypeId} {x : Operand} {X Y : AV} {d : Option Tmp} (ho : o.op = .makeInterface t x) (hd : o.dst = d) (hn : dstLt n d = true) (hG : gdS ops σ o.guard = some gd) (hc : P.concrete t = true)
   (hx : Ev gd σ x X) (hY : optA o.guard gd (.ifc t X) = Y)
   (hr : ARun P ops n QQ l (ks ++ [.pure]) (putS σ d Y) H) : ARun P ops n QQ (o :: l) ks σ H := by
 refine ARun.same hd hn hG hY (fun hg a W β hl => ⟨.iface t (a.eval x), ?_, .ifc _ _ _ (hx.rep hg hl (by simp [ho, Op.operands]))⟩) hr
 simp [execOp, ho, run_makeInterface W t _ hc]
inductive EvF (gd : Bool) (σ : Sl) : Operand → FuncId → List AV → List AV → Prop where
 | fn {x : Operand} {f : FuncId} {fs cs : List AV} (h : Ev gd σ x (.fn (.func f) fs cs)) : EvF gd σ x f fs cs
theorem EvL.reps {β : List Hd} {W : World} {a : Act} : ∀ {ls : List Operand} {xs : List AV}, EvL gd σ ls xs → (∀ x, x ∈ ls → ∀ X, Ev gd σ x X → VRep β W (a.eval x) X) → (ls.map a.eval).length = xs.length ∧ ∀ (j : Nat) (u : Value) (x : AV), (ls.map a.eval)[j]? = some u → xs[j]? = some x → VRep β W u x := by
 intro ls xs h
 induction h with
 | nil => intro _; exact ⟨rfl, fun j u x h => by simp at h⟩
 | cons h t ih =>
   intro hr
   obtain ⟨i1, i2⟩ := ih (fun x hx => hr x (List.mem_cons_of_mem _ hx))
   refine ⟨by simpa using i1, fun j u x h1 h2 => ?_⟩
   cases j with
   | zero => simp at h1 h2; subst h1; subst h2; exact hr _ List.mem_cons_self _ h
   | succ j => exact i2 j u x (by simpa using h1) (by simpa using h2)
theorem reps_append {β : List Hd} {W : World} {us vs : List Value} {xs ys : List AV} (h : us.length = xs.length ∧ ∀ (j : Nat) (u : Value) (x : AV), us[j]? = some u → xs[j]? = some x → VRep β W u x)
   (k : vs.length = ys.length ∧ ∀ (j : Nat) (u : Value) (x : AV), vs[j]? = some u → ys[j]? = some x → VRep β W u x) : (us ++ vs).length = (xs ++ ys).length ∧ ∀ (j : Nat) (u : Value) (x : AV), (us ++ vs)[j]? = some u → (xs ++ ys)[j]? = some x → VRep β W u x := by
 refine ⟨by simp [h.1, k.1], fun j u x h1 h2 => ?_⟩
 by_cases hj : j < us.length
 · rw [List.getElem?_append_left hj] at h1
   rw [List.getElem?_append_left (by rw [← h.1]; exact hj)] at h2
   exact h.2 j u x h1 h2
 · rw [List.getElem?_append_right (by omega)] at h1
   rw [List.getElem?_append_right (by rw [← h.1]; omega), ← h.1] at h2
   exact k.2 _ u x h1 h2
theorem call_step {f : Operand} {args : Array Operand} {ats : Array TypeId} {F : FuncId} {fs cs xs : List AV} {r : AV} {H H' : List AO} (ho : o.op = .call { callee := .value f, args := args, argTypes := ats }) (hG : gdS ops σ o.guard = some gd) (hH : gd = true ∨ H' = H)
   (hcf : ∀ (as_ : Array Value) (W : World), (callFunc F as_).run P W = .ok (.enter F as_) W)
   (hf : Ev gd σ f (.fn (.func F) fs cs)) (hx : EvL gd σ args.toList xs) (hF : gd = true → FnH P F (fs ++ xs ++ cs) H r H') : OpStep P ops o σ H (optA o.guard gd r) H' := by
 intro a W β hHr hl K Q hK
 rw [gd_wanted hG hl]
 cases gd with
 | false =>
   rw [if_neg (by simp)]
   rcases hH with hH | rfl
   · cases hH
   refine hK undef W β (Ext.refl _ _) hHr ?_
   cases hg : o.guard with
   | none => rw [hg] at hG; cases hG
   | some g => exact .opt _ _ _ (fun e => by cases e) (fun _ => rfl)
 | true =>
   rw [if_pos rfl]
   have h0 := hf.rep rfl hl (by simp [ho, Op.operands, Call.operands])
   generalize hv : a.eval f = v at h0
   cases h0 with
   | fn _ us vs _ _ hl1 hl2 h1 h2 =>
     have ha := EvL.reps (β := β) (W := W) (a := a) hx (fun x hx X h => h.rep rfl hl (by simp only [ho, Op.operands, Call.operands]; exact Array.mem_append.2 (.inr (by simpa using hx))))
     have hus : us.toList.length = fs.length ∧ ∀ (j : Nat) (u : Value) (x : AV), us.toList[j]? = some u → fs[j]? = some x → VRep β W u x := ⟨by simpa using hl1, fun j u x p q => h1 j u x (by simpa using p) q⟩
     have hvs : vs.toList.length = cs.length ∧ ∀ (j : Nat) (u : Value) (x : AV), vs.toList[j]? = some u → cs[j]? = some x → VRep β W u x := ⟨by simpa using hl2, fun j u x p q => h2 j u x (by simpa using p) q⟩
     have hall := reps_append (reps_append hus ha) hvs
     have hrun : (execOp a.eval o).run P W = .ok (.enter F (us ++ args.map a.eval ++ vs)) W := by
       simp [execOp, ho, resolve, hv, Deferred.ofValue, invoke, hcf]
     unfold Oper.wp
     rw [hrun, Oper.upon_enter]
     refine (hF rfl W β (us ++ args.map a.eval ++ vs) hHr ⟨?_, ?_⟩).mono ?_
     · rw [← Array.length_toList]; simpa using hall.1
     · intro j u x p q
       exact hall.2 j u x (by rw [← Array.getElem?_toList] at p; simpa using p) q
     · rintro e w' ⟨v', β', rfl, k1, k2, k3⟩
       refine hK v' w' β' k1 k2 ?_
       cases o.guard with
       | none => exact k3
       | some g => exact .opt _ _ _ (fun _ => k3) (fun e => by cases e)
theorem callP_step {f : Operand} {args : Array Operand} {ats : Array TypeId} {F : FuncId} {fs cs xs : List AV} {r : AV} {H : List AO} (ho : o.op = .call { callee := .value f, args := args, argTypes := ats }) (hG : gdS ops σ o.guard = some gd)
   (hcf : ∀ (as_ : Array Value) (W : World), (callFunc F as_).run P W = .ok (.enter F as_) W)
   (hf : Ev gd σ f (.fn (.func F) fs cs)) (hx : EvL gd σ args.toList xs) (hF : gd = true → FnP P F (fs ++ xs ++ cs) r) : OpStep P ops o σ H (optA o.guard gd r) H := by
 intro a W β hHr hl K Q hK
 rw [gd_wanted hG hl]
 cases gd with
 | false =>
   rw [if_neg (by simp)]
   refine hK undef W β (Ext.refl _ _) hHr ?_
   cases hg : o.guard with
   | none => rw [hg] at hG; cases hG
   | some g => exact .opt _ _ _ (fun e => by cases e) (fun _ => rfl)
 | true =>
   rw [if_pos rfl]
   have h0 := hf.rep rfl hl (by simp [ho, Op.operands, Call.operands])
   generalize hv : a.eval f = v at h0
   cases h0 with
   | fn _ us vs _ _ hl1 hl2 h1 h2 =>
     have ha := EvL.reps (β := β) (W := W) (a := a) hx (fun x hx X h => h.rep rfl hl (by simp only [ho, Op.operands, Call.operands]; exact Array.mem_append.2 (.inr (by simpa using hx))))
     have hus : us.toList.length = fs.length ∧ ∀ (j : Nat) (u : Value) (x : AV), us.toList[j]? = some u → fs[j]? = some x → VRep β W u x := ⟨by simpa using hl1, fun j u x p q => h1 j u x (by simpa using p) q⟩
     have hvs : vs.toList.length = cs.length ∧ ∀ (j : Nat) (u : Value) (x : AV), vs.toList[j]? = some u → cs[j]? = some x → VRep β W u x := ⟨by simpa using hl2, fun j u x p q => h2 j u x (by simpa using p) q⟩
     have hall := reps_append (reps_append hus ha) hvs
     have hrun : (execOp a.eval o).run P W = .ok (.enter F (us ++ args.map a.eval ++ vs)) W := by
       simp [execOp, ho, resolve, hv, Deferred.ofValue, invoke, hcf]
     unfold Oper.wp
     rw [hrun, Oper.upon_enter]
     refine (pure_call (hF rfl) hHr (vs := us ++ args.map a.eval ++ vs) ⟨?_, ?_⟩).mono ?_
     · rw [← Array.length_toList]; simpa using hall.1
     · intro j u x p q
       exact hall.2 j u x (by rw [← Array.getElem?_toList] at p; simpa using p) q
     · rintro e w' ⟨v', rfl, k1, k3⟩
       refine hK v' w' β (Ext.of_below β k1) (hHr.below k1) ?_
       cases o.guard with
       | none => exact k3
       | some g => exact .opt _ _ _ (fun _ => k3) (fun e => by cases e)
theorem ARun.call {f : Operand} {args : Array Operand} {ats : Array TypeId} {F : FuncId} {fs cs xs as_ : List AV} {r Y : AV} {d : Option Tmp} (ho : o.op = .call { callee := .value f, args := args, argTypes := ats }) (hd : o.dst = d) (hn : dstLt n d = true) (hG : gdS ops σ o.guard = some gd)
   (hcf : ∀ (as_ : Array Value) (W : World), (callFunc F as_).run P W = .ok (.enter F as_) W)
   (hf : Ev gd σ f (.fn (.func F) fs cs)) (hx : EvL gd σ args.toList xs) (has : fs ++ xs ++ cs = as_) (hF : gd = true → FnP P F as_ r) (hY : optA o.guard gd r = Y)
   (hr : ARun P ops n QQ l (ks ++ [.pure]) (putS σ d Y) H) : ARun P ops n QQ (o :: l) ks σ H := by
 subst hd; subst hY; subst has
 exact ⟨.pure, _, H, hn, ⟨rfl, fun G => callP_step ho hG hcf hf hx hF⟩, hr⟩
theorem ARun.callH {f : Operand} {args : Array Operand} {ats : Array TypeId} {F : FuncId} {fs cs xs as_ : List AV} {r Y : AV} {d : Option Tmp} {H' : List AO} (ho : o.op = .call { callee := .value f, args := args, argTypes := ats }) (hd : o.dst = d) (hn : dstLt n d = true) (hG : gdS ops σ o.guard = some true)
   (hcf : ∀ (as_ : Array Value) (W : World), (callFunc F as_).run P W = .ok (.enter F as_) W)
   (hf : Ev true σ f (.fn (.func F) fs cs)) (hx : EvL true σ args.toList xs) (has : fs ++ xs ++ cs = as_) (hF : FnH P F as_ H r H') (hY : optA o.guard true r = Y)
   (hr : ARun P ops n QQ l (ks ++ [.write]) (putS σ d Y) H') : ARun P ops n QQ (o :: l) ks σ H := by
 subst hd; subst hY; subst has
 exact ⟨.write, _, H', hn, call_step ho hG (.inl rfl) hcf hf hx (fun _ => hF), hr⟩
/-! ### texts and slices, cut -/
def BO (gd : Bool) (σ : Sl) (x : Option Operand) (dflt l : Nat) : Prop := match x with
 | none => gd = true → l = dflt
 | some x => ∃ k i, Ev gd σ x (.int k i) ∧ (gd = true → i = (l : Int))
theorem bound_run {P : Program} {W : World} (k : IntKind) (l y : Nat) (code : BoundsCode) (h : l ≤ y) : (Instr.sliceBound (.int k (l : Int)) y code).run P W = .ok l W := by
 unfold Instr.sliceBound
 simp [asIntOf, h]
theorem bounds_run {P : Program} {W : World} {gd : Bool} {σ : Sl} {lo hi : Option Operand} {s : Bool} {len cap a b : Nat} {act : Act} (hg : gd = true) (hlo : BO gd σ lo 0 a) (hhi : BO gd σ hi len b) (h1 : a ≤ b) (h2 : b ≤ cap) {β : List Hd}
   (hr : ∀ x, (lo = some x ∨ hi = some x) → ∀ X, Ev gd σ x X → VRep β W (act.eval x) X) : (Instr.sliceBounds s len cap (lo.map act.eval) (hi.map act.eval) none).run P W = .ok (a, b, cap) W := by
 unfold Instr.sliceBounds
 cases lo with
 | none =>
   have ha : a = 0 := hlo hg
   subst ha
   cases hi with
   | none =>
     have hb : b = len := hhi hg
     subst hb
     simp
   | some y =>
     obtain ⟨k, i, e1, e2⟩ := hhi
     have e3 := (hr y (.inr rfl) _ e1).int_inv
     rw [e2 hg] at e3
     simp [e3, bound_run _ _ _ _ h2]
 | some x =>
   obtain ⟨k, i, e1, e2⟩ := hlo
   have e3 := (hr x (.inl rfl) _ e1).int_inv
   rw [e2 hg] at e3
   cases hi with
   | none =>
     have hb : b = len := hhi hg
     subst hb
     simp [e3, bound_run _ _ _ _ h1]
   | some y =>
     obtain ⟨k', i', f1, f2⟩ := hhi
     have f3 := (hr y (.inr rfl) _ f1).int_inv
     rw [f2 hg] at f3
     simp [e3, f3, bound_run _ _ _ _ h2, bound_run _ _ _ _ h1]
theorem ARun.cutStr {t : TypeId} {x : Operand} {lo hi : Option Operand} {a b : Nat} {s r : ByteArray} {Y : AV} {d : Option Tmp} (ho : o.op = .slice t x lo hi none) (hd : o.dst = d) (hn : dstLt n d = true) (hG : gdS ops σ o.guard = some gd)
   (hu : P.underlying t = some .string) (hx : Ev gd σ x (.str s)) (hlo : BO gd σ lo 0 a) (hhi : BO gd σ hi s.size b) (h1 : gd = true → a ≤ b ∧ b ≤ s.size) (hr' : s.extract a b = r) (hY : optA o.guard gd (.str r) = Y)
   (hr : ARun P ops n QQ l (ks ++ [.pure]) (putS σ d Y) H) : ARun P ops n QQ (o :: l) ks σ H := by
 refine ARun.same hd hn hG hY (fun hg act W β hl => ⟨.string r, ?_, .str _⟩) hr
 have h0 := (hx.rep hg hl (by simp [ho, Op.operands])).str_inv
 have hb := bounds_run (P := P) (W := W) (s := false) (β := β) (act := act) hg hlo hhi (h1 hg).1 (h1 hg).2 (fun y hy X hX => hX.rep hg hl (by rcases hy with rfl | rfl <;> simp [ho, Op.operands]))
 simp [execOp, ho, h0, Instr.sliceAt, Instr.slice, run_underlying hu, hb, hr']
theorem ARun.cutSl {t e : TypeId} {x : Operand} {lo hi : Option Operand} {a b z : Nat} {xs r : List AV} {Y : AV} {d : Option Tmp} (ho : o.op = .slice t x lo hi none) (hd : o.dst = d) (hn : dstLt n d = true) (hG : gdS ops σ o.guard = some gd)
   (hu : P.underlying t = some (.slice e)) (hz : Sz P e z) (hx : Ev gd σ x (.sl xs)) (hxz : gd = true → ∀ x, x ∈ xs → x.cells.length = z) (hlo : BO gd σ lo 0 a) (hhi : BO gd σ hi xs.length b) (h1 : gd = true → a ≤ b ∧ b ≤ xs.length) (hr' : (xs.take b).drop a = r) (hY : optA o.guard gd (.sl r) = Y)
   (hr : ARun P ops n QQ l (ks ++ [.pure]) (putS σ d Y) H) : ARun P ops n QQ (o :: l) ks σ H := by
 refine ARun.same hd hn hG hY (fun hg act W β hl => ?_) hr
 have h0 := hx.rep hg hl (by simp [ho, Op.operands])
 obtain ⟨hab, hbn⟩ := h1 hg
 generalize hv : act.eval x = v at h0
 subst hr'
 cases h0 with
 | slnil =>
   have hb0 : b = 0 := by simpa using hbn
   have ha0 : a = 0 := by omega
   subst hb0; subst ha0
   have hb := bounds_run (P := P) (W := W) (s := true) (cap := 0) (β := β) (act := act) hg hlo hhi (Nat.le_refl _) (Nat.le_refl _) (fun y hy X hX => hX.rep hg hl (by rcases hy with rfl | rfl <;> simp [ho, Op.operands]))
   refine ⟨.slice none 0 0, ?_, .slnil⟩
   simp only [List.length_nil] at hb
   simp [execOp, ho, hv, Instr.sliceAt, Instr.slice, run_underlying hu, hb, hz.run]
 | slemp p cap hm =>
   have hb0 : b = 0 := by simpa using hbn
   have ha0 : a = 0 := by omega
   subst hb0; subst ha0
   have hb := bounds_run (P := P) (W := W) (s := true) (cap := cap) (β := β) (act := act) hg hlo hhi (Nat.le_refl _) (Nat.zero_le _) (fun y hy X hX => hX.rep hg hl (by rcases hy with rfl | rfl <;> simp [ho, Op.operands]))
   simp only [List.length_nil] at hb
   by_cases hca : cap = 0
   · subst hca
     refine ⟨.slice (some p) 0 0, ?_, .slemp p 0 (Nat.zero_le _)⟩
     simp [execOp, ho, hv, Instr.sliceAt, Instr.slice, run_underlying hu, hb, hz.run]
   · refine ⟨.slice (some (p.add 0)) 0 cap, ?_, .slemp _ cap hm⟩
     have hca' : ¬ cap = 0 := hca
     simp [execOp, ho, hv, Instr.sliceAt, Instr.slice, run_underlying hu, hb, hz.run, hca']
 | sl p off cap z' _ hc hm hbk hS hz' hdd h =>
   have hb := bounds_run (P := P) (W := W) (s := true) (cap := cap) (β := β) (act := act) hg hlo hhi hab (by omega) (fun y hy X hX => hX.rep hg hl (by rcases hy with rfl | rfl <;> simp [ho, Op.operands]))
   have hget : ∀ i x, ((xs.take b).drop a)[i]? = some x → xs[a + i]? = some x := by
     intro i x hi
     rw [List.getElem?_drop, List.getElem?_take] at hi
     split at hi
     · exact hi
     · cases hi
   have hlen : ((xs.take b).drop a).length = b - a := by simp; omega
   have hmem : ∀ x, x ∈ (xs.take b).drop a → x ∈ xs := fun x hx => List.mem_of_mem_take (List.mem_of_mem_drop hx)
   by_cases hca : cap = a
   · subst hca
     refine ⟨.slice (some ⟨p, off, none⟩) (b - cap) (cap - cap), ?_, ?_⟩
     · simp [execOp, ho, hv, Instr.sliceAt, Instr.slice, run_underlying hu, hb, hz.run]
     · have e0 : (xs.take b).drop cap = [] := List.eq_nil_of_length_eq_zero (by rw [hlen]; omega)
       rw [e0, show b - cap = ([] : List AV).length by simp; omega]
       exact .sl p off _ z [] (by simp) (by omega) hbk hS (fun x hx => by cases hx) (fun i j x y hi => by simp at hi) (fun i j x y u hi => by simp at hi)
   · refine ⟨.slice (some ⟨p, off + a * z, none⟩) (b - a) (cap - a), ?_, ?_⟩
     · simp [execOp, ho, hv, Instr.sliceAt, Instr.slice, run_underlying hu, hb, hz.run, hca, aadd]
     · rw [← hlen]
       have ez : ∀ x, x ∈ xs → z' = z := fun x hx => by rw [← hz' x hx, hxz hg x hx]
       refine .sl p _ _ z _ (by rw [hlen]; omega) (by omega) hbk hS (fun x hx => hxz hg x (hmem x hx)) (fun i j x y hi hj => ?_) (fun i j x y u hi hj hu2 => ?_)
       · have h3 := hget i x hi
         rw [show off + a * z + i * z + j = off + (a + i) * z + j by rw [Nat.add_mul]; omega, ← ez x (List.mem_of_getElem? h3)]
         exact hdd _ j x y h3 hj
       · have h3 := hget i x hi
         rw [show off + a * z + i * z + j = off + (a + i) * z + j by rw [Nat.add_mul]; omega, ← ez x (List.mem_of_getElem? h3)] at hu2
         exact h _ j x y u h3 hj hu2
end
end Go.Proofs.YtnlpojjfkgnhhaaGreatDoor
namespace Go.Proofs.YtnlpojjfkgnhhaaGreatDoor
open Go.RowKit
theorem flat_at {z : Nat} : ∀ (ys : List AV), (∀ x, x ∈ ys → x.cells.length = z) → ∀ (i j : Nat) (x y : AV), ys[i]? = some x → x.cells[j]? = some y → (ys.flatMap AV.cells)[i * z + j]? = some y := by
 intro ys
 induction ys with
 | nil => intro _ i j x y h1; simp at h1
 | cons x0 ys ih =>
   intro hz2 i j x y h1 h2
   rw [List.flatMap_cons]
   have hl0 := hz2 x0 List.mem_cons_self
   cases i with
   | zero =>
     simp at h1; subst h1
     have hj := (List.getElem?_eq_some_iff.1 h2).1
     rw [Nat.zero_mul, Nat.zero_add, List.getElem?_append_left hj]; exact h2
   | succ i =>
     rw [List.getElem?_append_right (by rw [hl0, Nat.add_mul]; omega), hl0, show (i + 1) * z + j - z = i * z + j by rw [Nat.add_mul]; omega]
     exact ih (fun x hx => hz2 x (List.mem_cons_of_mem _ hx)) i j x y (by simpa using h1) h2
theorem flat_len' {z : Nat} : ∀ (ys : List AV), (∀ x, x ∈ ys → x.cells.length = z) → (ys.flatMap AV.cells).length = ys.length * z := by
 intro ys
 induction ys with
 | nil => intro _; simp
 | cons x ys ih => intro h; rw [List.flatMap_cons, List.length_append, ih (fun y hy => h y (List.mem_cons_of_mem _ hy)), h x List.mem_cons_self, List.length_cons, Nat.add_mul]; omega
theorem sl_cells {β : List Hd} {W : World} {z : Nat} {b : Nat} : ∀ (ys : List AV) (off : Nat), (∀ x, x ∈ ys → x.cells.length = z) →
   (∀ (i j : Nat) (x y : AV), ys[i]? = some x → x.cells[j]? = some y → ∃ u, W.cell? ⟨b, off + i * z + j, none⟩ = some u) →
   (∀ (i j : Nat) (x y : AV) (u : Value), ys[i]? = some x → x.cells[j]? = some y → W.cell? ⟨b, off + i * z + j, none⟩ = some u → VRep β W u y) →
   ∃ news : List Value, news.length = ys.length * z ∧ (∀ (j : Nat) (u : Value), news[j]? = some u → W.cell? ⟨b, off + j, none⟩ = some u) ∧ ∀ (j : Nat) (u : Value) (y : AV), news[j]? = some u → (ys.flatMap AV.cells)[j]? = some y → VRep β W u y := by
 intro ys
 induction ys with
 | nil => intro off _ _ _; exact ⟨[], by simp, fun j u h => by simp at h, fun j u y h => by simp at h⟩
 | cons x ys ih =>
   intro off hz hd h
   have hx := hz x List.mem_cons_self
   obtain ⟨vs, h1, h2, h3⟩ := cells_list W b off x.cells β (fun j y hy => by have := hd 0 j x y rfl hy; simpa using this) (fun j y u hy hu => by have := h 0 j x y u rfl hy (by simpa using hu); exact this)
   obtain ⟨news, k1, k2, k3⟩ := ih (off + z) (fun y hy => hz y (List.mem_cons_of_mem _ hy)) (fun i j y w hy hw => by
     have := hd (i + 1) j y w (by simpa using hy) hw
     rw [show off + z + i * z + j = off + (i + 1) * z + j by rw [Nat.add_mul]; omega]; exact this) (fun i j y w u hy hw hu => by
     rw [show off + z + i * z + j = off + (i + 1) * z + j by rw [Nat.add_mul]; omega] at hu
     exact h (i + 1) j y w u (by simpa using hy) hw hu)
   refine ⟨vs ++ news, by rw [List.length_append, h1, k1, hx, List.length_cons, Nat.add_mul]; omega, fun j u hj => ?_, fun j u y hj hy => ?_⟩
   · by_cases hlt : j < z
     · rw [List.getElem?_append_left (by rw [h1, hx]; exact hlt)] at hj; exact h2 j u hj
     · rw [List.getElem?_append_right (by rw [h1, hx]; omega), h1, hx] at hj
       have := k2 _ u hj
       rw [show off + z + (j - z) = off + j by omega] at this; exact this
   · rw [List.flatMap_cons] at hy
     by_cases hlt : j < z
     · rw [List.getElem?_append_left (by rw [h1, hx]; exact hlt)] at hj
       rw [List.getElem?_append_left (by rw [hx]; exact hlt)] at hy
       exact h3 j u y hj hy
     · rw [List.getElem?_append_right (by rw [h1, hx]; omega), h1, hx] at hj
       rw [List.getElem?_append_right (by rw [hx]; omega), hx] at hy
       exact k3 _ u y hj hy
theorem HRel.change {β : List Hd} {H : List AO} {w w' : World} (h : HRel β H w) {i : Nat} {x x' : Hd} (hi : β[i]? = some x) (hto : x.to x') (hng : ∀ bs, x ≠ .guard bs) (hos : w'.os = w.os) (htp : w'.tape = w.tape) (hout : w'.output = w.output) (hsz : w.heap.size ≤ w'.heap.size)
   (hbl : ∀ k, k < w.heap.size → k ∉ x.blks → w'.heap[k]? = w.heap[k]?) (hb : ∀ b, b ∈ x'.blks → b ∈ x.blks ∨ w.heap.size ≤ b) {o : AO}
   (ho : Ext β w (β.set i x') w' → ORep (β.set i x') w' x' o) : Ext β w (β.set i x') w' ∧ HRel (β.set i x') (H.set i o) w' := by
 have hlt := (List.getElem?_eq_some_iff.1 hi).1
 have hext : Ext β w (β.set i x') w' := by
   refine ⟨hos, htp, hout, hsz, fun k hk hs => hbl k hk (hs _ (List.mem_of_getElem? hi)), fun k hk hs y hy => ?_, fun j y hy => ?_, ?_⟩
   · rcases List.mem_or_eq_of_mem_set hy with hy | rfl
     · exact hs y hy
     · intro e
       rcases hb k e with h1 | h1
       · exact hs _ (List.mem_of_getElem? hi) h1
       · omega
   · by_cases e : i = j
     · subst e
       rw [hi] at hy; cases hy
       exact ⟨_, List.getElem?_set_self hlt, hto⟩
     · exact ⟨y, by rw [List.getElem?_set_ne e]; exact hy, y.to_refl⟩
   · intro bs b hb' hm hltb
     refine hbl b hltb fun e => ?_
     obtain ⟨j, hj, ej⟩ := List.mem_iff_getElem.1 hb'
     have hj2 : β[j]? = some (.guard bs) := by rw [List.getElem?_eq_getElem hj, ej]
     have hne : i ≠ j := fun e2 => by subst e2; rw [hi] at hj2; cases hj2; exact hng _ rfl
     exact h.ap i j _ _ b hne hi hj2 e hm
 refine ⟨hext, ⟨h.gl.ext hext, by simp [h.len], fun j o' y h1 h2 => ?_, fun j k hj hk b hne h1 h2 h3 => ?_⟩⟩
 · by_cases e : i = j
   · subst e
     rw [List.getElem?_set_self (by rw [← h.len]; exact hlt)] at h1
     rw [List.getElem?_set_self hlt] at h2
     cases h1; cases h2
     exact ho hext
   · rw [List.getElem?_set_ne e] at h1 h2
     refine (h.ob j o' y h1 h2).ext hext fun b hb' hlt' => hbl b hlt' fun e2 => ?_
     exact h.ap i j _ y b e hi h2 e2 hb'
 · by_cases e1 : i = j <;> by_cases e2 : i = k
   · omega
   · subst e1
     rw [List.getElem?_set_self hlt] at h1; cases h1
     rw [List.getElem?_set_ne e2] at h2
     intro e
     rcases hb b h3 with hb | hb
     · exact h.ap i k _ hk b e2 hi h2 hb e
     · have := h.lt h2 e; omega
   · subst e2
     rw [List.getElem?_set_self hlt] at h2; cases h2
     rw [List.getElem?_set_ne e1] at h1
     intro e
     rcases hb b e with hb | hb
     · exact h.ap i j _ hj b e1 hi h1 hb h3
     · have := h.lt h1 h3; omega
   · rw [List.getElem?_set_ne e1] at h1
     rw [List.getElem?_set_ne e2] at h2
     exact h.ap j k hj hk b hne h1 h2 h3
theorem HRel.grow {β : List Hd} {H : List AO} {w w' : World} (h : HRel β H w) {i g : Nat} {v v' : Value} (hi : β[i]? = some (.row v g)) (hgr : w.grownBy w' v.ownBlock) (hb : v'.ownBlock = v.ownBlock ∨ v'.ownBlock = some w.heap.size) {o : AO}
   (ho : Ext β w (β.set i (.row v' (g + 1))) w' → ORep (β.set i (.row v' (g + 1))) w' (.row v' (g + 1)) o) : Ext β w (β.set i (.row v' (g + 1))) w' ∧ HRel (β.set i (.row v' (g + 1))) (H.set i o) w' := by
 refine h.change hi (x' := .row v' (g + 1)) (Or.inl (Nat.lt_succ_self g)) (fun _ e => by cases e) hgr.os hgr.tape hgr.output hgr.size (fun k hk hs => hgr.block k hk fun e => hs (opt_mem.2 e.symm)) (fun b hb' => ?_) ho
 have := opt_mem.1 hb'
 rcases hb with hb | hb
 · exact .inl (opt_mem.2 (by rw [← hb]; exact this))
 · rw [hb] at this; cases this; exact .inr (Nat.le_refl _)
def Ti (P : Program) (t : TypeId) (zv : Value) (z by_ : Nat) : Prop := (P.info? t).map (fun i => (i.zero, i.size, i.bytes)) = some (some zv, z, by_)
theorem Ti.sz {P : Program} {t : TypeId} {zv : Value} {z b : Nat} (h : Ti P t zv z b) : Sz P t z := by
 unfold Ti at h; unfold Sz
 cases hi : P.info? t with
 | none => rw [hi] at h; cases h
 | some i => rw [hi] at h; simp at h; simp [h.2.1]
theorem Ti.zv {P : Program} {t : TypeId} {zv : Value} {z b : Nat} (h : Ti P t zv z b) : Zv P t zv := by
 unfold Ti at h; unfold Zv
 cases hi : P.info? t with
 | none => rw [hi] at h; cases h
 | some i => rw [hi] at h; simp at h; simp [h.1]
theorem append_none_run {P : Program} {W : World} {t ty e : TypeId} {z base : Nat} {v : Value} {k : Nat} {xs : List Value} (hu : P.underlying t = some (.slice e)) (hz : Sz P e z) (h : W.ownsRow base e z v k xs) :
   (Builtin.append_ #[t, t] ty #[v, .slice none 0 0]).run P W = .ok v W := by
 rcases h.2 with ⟨rfl, rfl⟩ | ⟨g, cap, cur, rfl, _, _, hc, _⟩
 · simp [Builtin.append_, run_underlying hu, hz.run, Builtin.lenOf, run_firstCells_none]
 · simp [Builtin.append_, run_underlying hu, hz.run, Builtin.lenOf, run_firstCells_none, hc, storeCells]
section
variable {P : Program} {ops : Array Oper} {n m : Nat} {QQ : List Kd → Sl → List AO → Prop} {l : List Oper} {ks : List Kd} {σ : Sl} {G L H : List AO} {o : Oper} {gd : Bool}
theorem ARun.nilOwn {c : Operand} {e : TypeId} {z j : Nat} {d : Option Tmp} {Y : AV} (hm : GOK m G) (hj : L.length = j) (ho : (o.op = .assign c ∨ o.op = .move c) ∧ evS σ c = some (.sl [])) (hv : ∀ a : Act, a.eval c = .slice none 0 0) (hd : o.dst = d) (hn : dstLt n d = true) (hg : gdS ops σ o.guard = some true) (hY : optA o.guard true (.own (m + j) 0) = Y)
   (hr : ARun P ops n QQ l (ks ++ [.write]) (putS σ d Y) (G ++ (L ++ [.row 0 e z []]))) : ARun P ops n QQ (o :: l) ks σ (G ++ L) := by
 refine ARun.write hd hn hg hY (fun a W β hHr hl => ?_) hr
 have hlen : β.length = m + j := by rw [hHr.len, List.length_append, hm.1, hj]
 have hsn := hHr.snoc (w' := W) (Below.refl _ _) (x := .row (.slice none 0 0) 0) (o := .row 0 e z []) ⟨rfl, [], World.ownsRow_nil W 0 e z, (fun x hx => by cases hx), (fun q u y h1 => by simp at h1)⟩ (fun b hb => by simp [Hd.blks, Value.ownBlock] at hb)
 refine ⟨.slice none 0 0, W, β ++ [.row (.slice none 0 0) 0], ?_, hsn.1, by rw [← List.append_assoc]; exact hsn.2, .own _ _ _ (by rw [List.length_append, hlen]; simp) fun u g' hb => ?_⟩
 · rcases ho.1 with ho | ho <;> simp [execOp, ho, hv]
 · rw [List.getElem?_append_right (by omega), hlen, Nat.sub_self] at hb
   cases hb; exact ⟨Nat.le_refl _, fun _ => rfl⟩
theorem VRep.own_at {β : List Hd} {H : List AO} {W : World} {v : Value} {i g : Nat} {e : TypeId} {z : Nat} {xs : List AV} (h : VRep β W v (.own i g)) (hH : HRel β H W) (hi : H[i]? = some (.row g e z xs)) :
   ∃ us, β[i]? = some (.row v g) ∧ W.ownsRow 0 e z v xs.length us ∧ (∀ x, x ∈ xs → x.cells.length = z) ∧ ∀ (j : Nat) (u : Value) (y : AV), us[j]? = some u → (xs.flatMap AV.cells)[j]? = some y → VRep β W u y := by
 cases h with
 | own _ _ _ hi2 h =>
   have hg : β[i]? = some β[i] := List.getElem?_eq_getElem hi2
   have ho := hH.ob i _ _ hi hg
   cases hb : β[i] with
   | box b => rw [hb] at ho; exact ho.elim
   | dead => rw [hb] at ho; exact ho.elim
   | guard b => rw [hb] at ho; exact ho.elim
   | map b => rw [hb] at ho; exact ho.elim
   | bld b v => rw [hb] at ho; exact ho.elim
   | row v' g' =>
     rw [hb] at ho hg
     obtain ⟨e1, us, h1, h2, h3⟩ := ho
     subst e1
     obtain ⟨_, h5⟩ := h v' _ hg
     obtain rfl := h5 rfl
     exact ⟨us, hg, h1, h2, h3⟩
theorem append_step {x y : Operand} {t e : TypeId} {i g z by_ : Nat} {zv : Value} {xs ys zs : List AV} (ho : o.op = .call { callee := .builtin .append, args := #[x, y], argTypes := #[t, t] })
   (hu : P.underlying t = some (.slice e)) (hT : Ti P e zv z by_) (hzs : zv.cells.size = z) (hz0 : 0 < z)
   (hx : Ev true σ x (.own i g)) (hy : Ev true σ y (.sl ys)) (hH : H[i]? = some (.row g e z xs)) (hys : (ys.all fun y => Nat.beq y.cells.length z && y.cells.all AV.one) = true)
   (hm : xs.length + ys.length ≤ maxLen) (hby : (xs.length + ys.length) * by_ ≤ 140737488355328) (hzz : xs ++ ys = zs) (a : Act) (W : World) (β : List Hd) (hHr : HRel β H W) (hl : LRep β W a σ (o.looksAt ops)) : ∃ v W' β', (execOp a.eval o).run P W = .ok (.value v) W' ∧ Ext β W β' W' ∧ HRel β' (H.set i (.row (g + 1) e z zs)) W' ∧ VRep β' W' v (.own i (g + 1)) := by
 have hyz : ∀ y, y ∈ ys → y.cells.length = z := fun y hy => by
   have := List.all_eq_true.1 hys y hy
   rw [Bool.and_eq_true] at this; exact Nat.eq_of_beq_eq_true this.1
 have hyo : ∀ y, y ∈ ys → ∀ c, c ∈ y.cells → c.one = true := fun y hy c hc => by
   have := List.all_eq_true.1 hys y hy
   rw [Bool.and_eq_true] at this; exact List.all_eq_true.1 this.2 c hc
 subst hzz
 obtain ⟨us, h1, h2, h3, h4⟩ := (hx.rep rfl hl (by simp [ho, Op.operands, Call.operands])).own_at hHr hH
 have h0 := hy.rep rfl hl (by simp [ho, Op.operands, Call.operands])
 generalize hvx : a.eval x = v at h1 h2
 generalize hvy : a.eval y = w at h0
 obtain ⟨ti, hti, htz, hts, htb⟩ : ∃ ti, P.info? e = some ti ∧ ti.zero = some zv ∧ ti.size = z ∧ ti.bytes = by_ := by
   unfold Ti at hT
   cases hi : P.info? e with
   | none => rw [hi] at hT; cases hT
   | some i => rw [hi] at hT; simp at hT; exact ⟨i, rfl, hT⟩
 have hlt := (List.getElem?_eq_some_iff.1 h1).1
 have hallz : ∀ x, x ∈ xs ++ ys → x.cells.length = z := fun x hx => by
   rcases List.mem_append.1 hx with hx | hx
   · exact h3 x hx
   · exact hyz x hx
 have hexec : ∀ v' w', (Builtin.append_ #[t, t] o.type #[v, w]).run P W = .ok v' w' → (execOp a.eval o).run P W = .ok (.value v') w' := by
   intro v' w' hrun
   simp [execOp, ho, resolve, hvx, hvy, invoke, builtin, hrun]
 have fin : ∀ (v' : Value) (w' : World) (news : List Value), w'.ownsRow 0 e z v' (xs.length + ys.length) (us ++ news) → W.grownBy w' v.ownBlock → (v'.ownBlock = v.ownBlock ∨ v'.ownBlock = some W.heap.size) →
     (∀ (j : Nat) (u : Value) (y : AV), news[j]? = some u → (ys.flatMap AV.cells)[j]? = some y → VRep β W u y) → news.length = ys.length * z → (execOp a.eval o).run P W = .ok (.value v') w' →
     ∃ v W' β', (execOp a.eval o).run P W = .ok (.value v) W' ∧ Ext β W β' W' ∧ HRel β' (H.set i (.row (g + 1) e z (xs ++ ys))) W' ∧ VRep β' W' v (.own i (g + 1)) := by
   intro v' w' news q1 q2 q3 q4 q5 q6
   have hus : us.length = xs.length * z := h2.1
   have hgrow := hHr.grow h1 q2 q3 (o := .row (g + 1) e z (xs ++ ys)) (fun hx => ⟨rfl, us ++ news, by rw [List.length_append]; exact q1, hallz, fun q u y p1 p2 => by
     refine VRep.ext hx ?_
     rw [List.flatMap_append] at p2
     have hfl := flat_len' xs h3
     by_cases hq : q < xs.length * z
     · rw [List.getElem?_append_left (by rw [hus]; exact hq)] at p1
       rw [List.getElem?_append_left (by rw [hfl]; exact hq)] at p2
       exact h4 q u y p1 p2
     · rw [List.getElem?_append_right (by rw [hus]; omega), hus] at p1
       rw [List.getElem?_append_right (by rw [hfl]; omega), hfl] at p2
       exact q4 _ u y p1 p2⟩)
   refine ⟨v', w', _, q6, hgrow.1, hgrow.2, .own _ _ _ (by simpa using hlt) (fun u g' hb => ?_) (ownsRow_one q1)⟩
   rw [List.getElem?_set_self hlt] at hb
   cases hb
   exact ⟨Nat.le_refl _, fun _ => rfl⟩
 cases h0 with
 | slnil =>
   refine fin v W [] (by simpa using h2) ⟨rfl, rfl, rfl, Nat.le_refl _, fun _ _ _ => rfl⟩ (.inl rfl) (fun j u y hj => by simp at hj) (by simp) (hexec v W (append_none_run hu hT.sz h2))
 | slemp p cap hmm =>
   obtain ⟨v', w', r1, r2, r3, _, r5⟩ := run_append_own_at (P := P) (w := W) 0 t o.type e ti zv z by_ hu hti htz hts htb hzs hz0 v xs.length us h2 p 0 cap [] (by simp) (fun j u hj => by simp at hj) (fun u hu => by cases hu) (by simpa using hm) (by simpa using hby) (Nat.zero_le _)
   exact fin v' w' [] (by simpa using r2) r3 r5 (fun j u y hj => by simp at hj) (by simp) (hexec v' w' r1)
 | sl b off cap z' _ hc hmm hb hS hz' hdd h =>
   have hcells : ∃ news : List Value, news.length = ys.length * z ∧ (∀ (j : Nat) (u : Value), news[j]? = some u → W.cell? ⟨b, off + j, none⟩ = some u) ∧ ∀ (j : Nat) (u : Value) (y : AV), news[j]? = some u → (ys.flatMap AV.cells)[j]? = some y → VRep β W u y := by
     cases ys with
     | nil => exact ⟨[], by simp, fun j u h => by simp at h, fun j u y h => by simp at h⟩
     | cons y0 ys0 =>
       have ez : z' = z := by rw [← hz' y0 List.mem_cons_self, hyz y0 List.mem_cons_self]
       subst ez
       exact sl_cells (y0 :: ys0) off hyz hdd h
   obtain ⟨news, k1, k2, k3⟩ := hcells
   have hone : ∀ u, u ∈ news → u.oneCell' = true := by
     intro u hu
     obtain ⟨q, hq, rfl⟩ := List.mem_iff_getElem.1 hu
     have hq2 : q < (ys.flatMap AV.cells).length := by rw [flat_len' ys hyz, ← k1]; exact hq
     refine (k3 q _ _ (List.getElem?_eq_getElem hq) (List.getElem?_eq_getElem hq2)).one ?_
     obtain ⟨y, hy1, hy2⟩ := List.mem_flatMap.1 (List.getElem_mem hq2)
     exact hyo y hy1 _ hy2
   obtain ⟨v', w', r1, r2, r3, _, r5⟩ := run_append_own_at (P := P) (w := W) 0 t o.type e ti zv z by_ hu hti htz hts htb hzs hz0 v xs.length us h2 ⟨b, off, none⟩ ys.length cap news k1 (fun j u hj => by rw [aadd]; exact k2 j u hj) hone hm hby (Nat.zero_le _)
   exact fin v' w' news r2 r3 r5 k3 k1 (hexec v' w' r1)
theorem ARun.append {x y : Operand} {t e : TypeId} {i g z by_ : Nat} {zv : Value} {xs ys zs : List AV} {d : Option Tmp} {Y : AV} (ho : o.op = .call { callee := .builtin .append, args := #[x, y], argTypes := #[t, t] }) (hd : o.dst = d) (hn : dstLt n d = true) (hg : gdS ops σ o.guard = some true)
   (hu : P.underlying t = some (.slice e)) (hT : Ti P e zv z by_) (hzs : zv.cells.size = z) (hz0 : 0 < z)
   (hx : Ev true σ x (.own i g)) (hy : Ev true σ y (.sl ys)) (hH : H[i]? = some (.row g e z xs)) (hys : (ys.all fun y => Nat.beq y.cells.length z && y.cells.all AV.one) = true)
   (hm : xs.length + ys.length ≤ maxLen) (hby : (xs.length + ys.length) * by_ ≤ 140737488355328) (hzz : xs ++ ys = zs) (hY : optA o.guard true (.own i (g + 1)) = Y)
   (hr : ARun P ops n QQ l (ks ++ [.write]) (putS σ d Y) (H.set i (.row (g + 1) e z zs))) : ARun P ops n QQ (o :: l) ks σ H :=
 ARun.write hd hn hg hY (append_step ho hu hT hzs hz0 hx hy hH hys hm hby hzz) hr
theorem ARun.appendL {x y : Operand} {t e : TypeId} {j g z by_ : Nat} {zv : Value} {xs ys zs : List AV} {L' : List AO} {d : Option Tmp} {Y : AV} (hmG : GOK m G) (ho : o.op = .call { callee := .builtin .append, args := #[x, y], argTypes := #[t, t] }) (hd : o.dst = d) (hn : dstLt n d = true) (hg : gdS ops σ o.guard = some true)
   (hu : P.underlying t = some (.slice e)) (hT : Ti P e zv z by_) (hzs : zv.cells.size = z) (hz0 : 0 < z)
   (hx : Ev true σ x (.own (m + j) g)) (hy : Ev true σ y (.sl ys)) (hH : L[j]? = some (.row g e z xs)) (hys : (ys.all fun y => Nat.beq y.cells.length z && y.cells.all AV.one) = true)
   (hm : xs.length + ys.length ≤ maxLen) (hby : (xs.length + ys.length) * by_ ≤ 140737488355328) (hzz : xs ++ ys = zs) (hY : optA o.guard true (.own (m + j) (g + 1)) = Y) (hL : L.set j (.row (g + 1) e z zs) = L')
   (hr : ARun P ops n QQ l (ks ++ [.write]) (putS σ d Y) (G ++ L')) : ARun P ops n QQ (o :: l) ks σ (G ++ L) :=
 ARun.append ho hd hn hg hu hT hzs hz0 hx hy (by rw [hmG.at]; exact hH) hys hm hby hzz hY (by rw [hmG.set, hL]; exact hr)
end
theorem HRel.setRow {β : List Hd} {H : List AO} {w w' : World} (h : HRel β H w) {i g : Nat} {v : Value} {b : Nat} (hi : β[i]? = some (.row v g)) (hvb : v.ownBlock = some b) {o : AO} (hs : w'.heap.size = w.heap.size) (hos : w'.os = w.os) (htp : w'.tape = w.tape) (hout : w'.output = w.output)
   (hbl : ∀ k, k ≠ b → w'.heap[k]? = w.heap[k]?) (ho : Ext β w β w' → ORep β w' (.row v g) o) : Ext β w β w' ∧ HRel β (H.set i o) w' := by
 have hm : b ∈ (Hd.row v g).blks := opt_mem.2 hvb
 have hst : ∀ k, Still β k → k ≠ b := fun k hk e => hk _ (List.mem_of_getElem? hi) (by rw [e]; exact hm)
 have hext : Ext β w β w' := ⟨hos, htp, hout, by omega, fun k hk hs => hbl k (hst k hs), fun k hk hs => hs, fun i y hy => ⟨y, hy, y.to_refl⟩, fun bs b' hb' hm' _ => hbl b' fun e => by
   obtain ⟨j, hj, ej⟩ := List.mem_iff_getElem.1 hb'
   have hj2 : β[j]? = some (.guard bs) := by rw [List.getElem?_eq_getElem hj, ej]
   have hne : i ≠ j := fun e2 => by subst e2; rw [hi] at hj2; cases hj2
   exact h.ap i j _ _ b hne hi hj2 hm (by rw [← e]; exact hm')⟩
 refine ⟨hext, ⟨h.gl.ext hext, by simp [h.len], fun j o' y h1 h2 => ?_, h.ap⟩⟩
 by_cases e : i = j
 · subst e
   have hlt : i < H.length := by have := (List.getElem?_eq_some_iff.1 hi).1; rw [h.len] at this; exact this
   rw [List.getElem?_set_self hlt] at h1
   cases h1
   rw [hi] at h2; cases h2
   exact ho hext
 · rw [List.getElem?_set_ne e] at h1
   refine (h.ob j o' y h1 h2).ext hext fun b' hb' _ => hbl b' ?_
   intro e2; subst e2
   exact h.ap i j _ y b' e hi h2 hm hb'
section
variable {P : Program} {ops : Array Oper} {n m : Nat} {QQ : List Kd → Sl → List AO → Prop} {l : List Oper} {ks : List Kd} {σ : Sl} {G L H : List AO} {o : Oper} {gd : Bool}
end
theorem AWP.freeze {P : Program} {n m : Nat} {c : Code} {Q : QA} {σ σ' : Sl} {G L : List AO} {j g : Nat} {e : TypeId} {z : Nat} {xs : List AV} {L' : List AO} (hm : GOK m G) (hj : L[j]? = some (.row g e z xs)) (hz0 : 0 < z) (hml : xs.length ≤ maxLen) (hL : L.set j .dead = L')
   (hs : ∀ t X, look σ' t = some X → look σ t = some X ∨ (look σ t = some (.own (m + j) g) ∧ X = .sl xs)) (h : AWP P n m c Q σ' G L') : AWP P n m c Q σ G L := by
 intro D a W β hmG hn hd hHr hs0
 have hiH : (G ++ L)[m + j]? = some (.row g e z xs) := by rw [hm.at]; exact hj
 obtain ⟨hlt, v, hβ⟩ : m + j < β.length ∧ ∃ v, β[m + j]? = some (.row v g) := by
   have hlt : m + j < β.length := by rw [hHr.len]; exact (List.getElem?_eq_some_iff.1 hiH).1
   refine ⟨hlt, ?_⟩
   have ho := hHr.ob _ _ _ hiH (List.getElem?_eq_getElem hlt)
   cases hb : β[m + j] with
   | box b => rw [hb] at ho; exact ho.elim
   | dead => rw [hb] at ho; exact ho.elim
   | guard b => rw [hb] at ho; exact ho.elim
   | map b => rw [hb] at ho; exact ho.elim
   | bld b v => rw [hb] at ho; exact ho.elim
   | row v' g' => rw [hb] at ho; obtain ⟨rfl, _⟩ := ho; exact ⟨v', by rw [List.getElem?_eq_getElem hlt, hb]⟩
 have ho := hHr.ob _ _ _ hiH hβ
 obtain ⟨_, us, h2, h3, h4⟩ := ho
 have hext : Ext β W (β.set (m + j) .dead) W := by
   refine ⟨rfl, rfl, rfl, Nat.le_refl _, fun _ _ _ => rfl, fun k hk hst x hx => ?_, fun i x hx => ?_, ?_⟩
   · rcases List.mem_or_eq_of_mem_set hx with hx | rfl
     · exact hst x hx
     · intro e; cases e
   · by_cases e : m + j = i
     · subst e; rw [hβ] at hx; cases hx; exact ⟨.dead, List.getElem?_set_self hlt, trivial⟩
     · exact ⟨x, by rw [List.getElem?_set_ne e]; exact hx, x.to_refl⟩
   · intro _ _ _ _ _; rfl
 have hH2 : HRel (β.set (m + j) .dead) (G ++ L') W := by
   rw [← hL, ← hm.set]
   refine ⟨hHr.gl.ext hext, by simp [hHr.len], fun i o x h1 h5 => ?_, fun i k hi hk b hne h1 h5 h6 => ?_⟩
   · by_cases e : m + j = i
     · subst e
       rw [List.getElem?_set_self (by rw [← hHr.len]; exact hlt)] at h1
       rw [List.getElem?_set_self hlt] at h5
       cases h1; cases h5; trivial
     · rw [List.getElem?_set_ne e] at h1 h5
       exact (hHr.ob i o x h1 h5).ext hext fun _ _ _ => rfl
   · have g1 : β[i]? = some hi := by
       by_cases e : m + j = i
       · subst e; rw [List.getElem?_set_self hlt] at h1; cases h1; cases h6
       · rw [List.getElem?_set_ne e] at h1; exact h1
     intro e6
     have g2 : β[k]? = some hk := by
       by_cases e : m + j = k
       · subst e; rw [List.getElem?_set_self hlt] at h5; cases h5; cases e6
       · rw [List.getElem?_set_ne e] at h5; exact h5
     exact hHr.ap i k hi hk b hne g1 g2 h6 e6
 have hsl : VRep (β.set (m + j) .dead) W v (.sl xs) := by
   rcases h2.2 with ⟨rfl, h0⟩ | ⟨gb, cap, cur, rfl, _, hgg, hnc, hcm, hcs, htake⟩
   · have : xs = [] := List.eq_nil_of_length_eq_zero h0
     subst this; exact .slnil
   · have hgl := (Array.getElem?_eq_some_iff.1 hgg).1
     have hcell : ∀ q u, us[q]? = some u → W.cell? ⟨gb, q, none⟩ = some u := by
       intro q u hq
       have hc := cell_of_row W gb q cur e (0, 0) hgg
       rw [hc, ← htake] at *
       rw [List.getElem?_take] at hq
       split at hq
       · simpa using hq
       · cases hq
     have hus : us.length = xs.length * z := h2.1
     have hfl := flat_len' xs h3
     refine .sl gb 0 cap z xs hnc hcm hgl (fun x hx e5 => ?_) h3 (fun i q x y hi hq => ?_) (fun i q x y u hi hq hu => ?_)
     · obtain ⟨k, hk, rfl⟩ := List.mem_iff_getElem.1 hx
       have hk2 : (β.set (m + j) .dead)[k]? = some ((β.set (m + j) .dead)[k]) := List.getElem?_eq_getElem hk
       by_cases e : m + j = k
       · subst e; rw [List.getElem_set_self] at e5; cases e5
       · rw [List.getElem?_set_ne e] at hk2
         exact hHr.ap _ _ _ _ gb e hβ hk2 (opt_mem.2 rfl) e5
     · have h7 := flat_at xs h3 i q x y hi hq
       have hlt7 : i * z + q < us.length := by rw [hus, ← hfl]; exact (List.getElem?_eq_some_iff.1 h7).1
       exact ⟨_, by rw [Nat.zero_add]; exact hcell _ _ (List.getElem?_eq_getElem hlt7)⟩
     · have h7 := flat_at xs h3 i q x y hi hq
       have hlt7 : i * z + q < us.length := by rw [hus, ← hfl]; exact (List.getElem?_eq_some_iff.1 h7).1
       rw [Nat.zero_add, hcell _ _ (List.getElem?_eq_getElem hlt7)] at hu
       cases hu
       exact (h4 _ _ y (List.getElem?_eq_getElem hlt7) h7).ext hext
 refine Code.wp_mono (fun e a' W' hp => hp.ext hext) (h D a W _ hmG hn hd hH2 fun t X ht => ?_)
 rcases hs t X ht with h8 | ⟨h8, rfl⟩
 · obtain ⟨u, k1, k2⟩ := hs0 t X h8
   exact ⟨u, k1, k2.ext hext⟩
 · obtain ⟨u, k1, k2⟩ := hs0 t _ h8
   refine ⟨u, k1, ?_⟩
   cases k2 with
   | own _ _ _ _ h9 =>
     obtain ⟨_, h10⟩ := h9 v g hβ
     rw [h10 rfl]; exact hsl
theorem AWP.frzOwn {P : Program} {n m : Nat} {c : Code} {Q : QA} {σ : Sl} {G L : List AO} {j g : Nat} {e : TypeId} {z : Nat} {xs : List AV} {L' : List AO} (t : Nat) (hm : GOK m G) (ht : look σ t = some (.own (m + j) g)) (hj : L[j]? = some (.row g e z xs)) (hz0 : 0 < z) (hml : xs.length ≤ maxLen) (hL : L.set j .dead = L')
   (h : AWP P n m c Q ((t, .sl xs) :: σ) G L') : AWP P n m c Q σ G L := by
 refine AWP.freeze hm hj hz0 hml hL (fun t' X hX => ?_) h
 change (bif Nat.beq t t' then some (AV.sl xs) else look σ t') = some X at hX
 cases hb : Nat.beq t t' with
 | true => rw [hb] at hX; obtain rfl := Nat.eq_of_beq_eq_true hb; cases hX; exact .inr ⟨ht, rfl⟩
 | false => rw [hb] at hX; exact .inl hX
theorem AWP.frzBox {P : Program} {n m : Nat} {c : Code} {Q : QA} {σ : Sl} {G L : List AO} {j : Nat} {cs : List AV} {L' : List AO} (t : Nat) (hm : GOK m G) (ht : look σ t = some (.box (m + j) 0)) (hj : L[j]? = some (.box cs)) (hL : L.set j .dead = L')
   (h : AWP P n m c Q ((t, .pe cs) :: σ) G L') : AWP P n m c Q σ G L := by
 intro D a W β hmG hn hd hHr hs0
 have hiH : (G ++ L)[m + j]? = some (.box cs) := by rw [hm.at]; exact hj
 obtain ⟨u, ku, hu⟩ := hs0 t _ ht
 obtain ⟨b, arr, T, hβ, hub, hhp, hsz, hcs⟩ := hu.box_at hHr hiH
 have hlt : m + j < β.length := hβ.lt
 obtain ⟨x0, hx0, hxb, hxd⟩ : ∃ x0, β[m + j]? = some x0 ∧ x0.cb = some b ∧ x0.to .dead := by
   rcases hβ with h | ⟨v, h, _⟩
   · exact ⟨_, h, rfl, trivial⟩
   · exact ⟨_, h, rfl, trivial⟩
 have hβ := hx0
 have hext : Ext β W (β.set (m + j) .dead) W := by
   refine ⟨rfl, rfl, rfl, Nat.le_refl _, fun _ _ _ => rfl, fun k hk hst x hx => ?_, fun i x hx => ?_, ?_⟩
   · rcases List.mem_or_eq_of_mem_set hx with hx | rfl
     · exact hst x hx
     · intro e; cases e
   · by_cases e : m + j = i
     · subst e; rw [hβ] at hx; cases hx; exact ⟨.dead, List.getElem?_set_self hlt, hxd⟩
     · exact ⟨x, by rw [List.getElem?_set_ne e]; exact hx, x.to_refl⟩
   · intro _ _ _ _ _; rfl
 have hH2 : HRel (β.set (m + j) .dead) (G ++ L') W := by
   rw [← hL, ← hm.set]
   refine ⟨hHr.gl.ext hext, by simp [hHr.len], fun i o x h1 h5 => ?_, fun i k hi hk b hne h1 h5 h6 => ?_⟩
   · by_cases e : m + j = i
     · subst e
       rw [List.getElem?_set_self (by rw [← hHr.len]; exact hlt)] at h1
       rw [List.getElem?_set_self hlt] at h5
       cases h1; cases h5; trivial
     · rw [List.getElem?_set_ne e] at h1 h5
       exact (hHr.ob i o x h1 h5).ext hext fun _ _ _ => rfl
   · have g1 : β[i]? = some hi := by
       by_cases e : m + j = i
       · subst e; rw [List.getElem?_set_self hlt] at h1; cases h1; cases h6
       · rw [List.getElem?_set_ne e] at h1; exact h1
     intro e6
     have g2 : β[k]? = some hk := by
       by_cases e : m + j = k
       · subst e; rw [List.getElem?_set_self hlt] at h5; cases h5; cases e6
       · rw [List.getElem?_set_ne e] at h5; exact h5
     exact hHr.ap i k hi hk b hne g1 g2 h6 e6
 have hcell : ∀ q, W.cell? ⟨b, q, none⟩ = arr[q]? := by intro q; simp [World.cell?, hhp]
 have hpe : VRep (β.set (m + j) .dead) W u (.pe cs) := by
   rw [hub]
   refine .pe b 0 cs (Array.getElem?_eq_some_iff.1 hhp).1 (fun x hx e5 => ?_) (fun q y hq => ?_) (fun q y u hq hu => ?_)
   · obtain ⟨k, hk, rfl⟩ := List.mem_iff_getElem.1 hx
     have hk2 : (β.set (m + j) .dead)[k]? = some ((β.set (m + j) .dead)[k]) := List.getElem?_eq_getElem hk
     by_cases e : m + j = k
     · subst e; rw [List.getElem_set_self] at e5; cases e5
     · rw [List.getElem?_set_ne e] at hk2
       exact hHr.ap _ _ _ _ b e hβ hk2 (Hd.cb_mem hxb) e5
   · have hl : q < arr.size := by rw [hsz]; exact (List.getElem?_eq_some_iff.1 hq).1
     exact ⟨_, by rw [Nat.zero_add, hcell]; exact Array.getElem?_eq_getElem hl⟩
   · rw [Nat.zero_add, hcell] at hu
     exact (hcs q u y hu hq).ext hext
 refine Code.wp_mono (fun e a' W' hp => hp.ext hext) (h D a W _ hmG hn hd hH2 fun t' X hX => ?_)
 change (bif Nat.beq t t' then some (AV.pe cs) else look σ t') = some X at hX
 cases hb : Nat.beq t t' with
 | true => rw [hb] at hX; obtain rfl := Nat.eq_of_beq_eq_true hb; cases hX; exact ⟨u, ku, hpe⟩
 | false =>
   rw [hb] at hX
   obtain ⟨u', k1, k2⟩ := hs0 t' X hX
   exact ⟨u', k1, k2.ext hext⟩
section
variable {P : Program} {ops : Array Oper} {n m : Nat} {QQ : List Kd → Sl → List AO → Prop} {l : List Oper} {ks : List Kd} {σ : Sl} {G L H : List AO} {o : Oper} {gd : Bool}
end
end Go.Proofs.YtnlpojjfkgnhhaaGreatDoor
namespace Go.Proofs.YtnlpojjfkgnhhaaGreatDoor
open Go.RowKit
section
variable {P : Program} {ops : Array Oper} {n m : Nat} {QQ : List Kd → Sl → List AO → Prop} {l : List Oper} {ks : List Kd} {σ : Sl} {G L H : List AO} {o : Oper} {gd : Bool}
theorem cAV_plainC (v : Value) : (cAV v).plainC = true := by unfold cAV; split <;> rfl
theorem ARun.alloc {t : TypeId} {j : Nat} {zv : Value} {C : List AV} {Y : AV} {d : Option Tmp} (hm : GOK m G) (hj : L.length = j) (ho : o.op = .alloc t) (hd : o.dst = d) (hn : dstLt n d = true) (hg : gdS ops σ o.guard = some true)
   (hz : Zv P t zv) (hC : zv.cells.toList.map cAV = C) (hY : optA o.guard true (.box (m + j) 0) = Y)
   (hr : ARun P ops n QQ l (ks ++ [.new]) (putS σ d Y) (G ++ (L ++ [.box C]))) : ARun P ops n QQ (o :: l) ks σ (G ++ L) := by
 refine ARun.new (E := [.box C]) hd hn hg hY (fun H0 hl0 a W β hHr hl => ?_) (by rw [List.append_assoc]; exact hr)
 subst hC
 have hb : Below W.heap.size W (W.alloc (.cells zv.cells t)) := (Below.refl _ _).alloc (Nat.le_refl _) _
 have hsn := hHr.snoc (w' := W.alloc (.cells zv.cells t)) hb (x := .box W.heap.size) (o := .box (zv.cells.toList.map cAV)) ⟨zv.cells, t, heap_alloc_new W _, by simp, fun q u y h1 h2 => by
   rw [List.getElem?_map, Array.getElem?_toList, h1] at h2
   cases h2; exact cAV_rep _ _ _, List.all_eq_true.2 fun y hy => by
   obtain ⟨v, _, rfl⟩ := List.mem_map.1 hy
   exact cAV_plainC v⟩ (fun b hb => by simp [Hd.blks] at hb; omega)
 have hlen : β.length = m + j := by rw [hHr.len, hl0, List.length_append, hm.1, hj]
 refine ⟨.pointer (some ⟨W.heap.size, 0, none⟩), _, β ++ [.box W.heap.size], ?_, hsn.1, hsn.2, .box _ _ _ (by rw [List.length_append, hlen]; simp) fun x b hb hcb => ?_⟩
 · simp [execOp, ho, Instr.alloc, hz.run, newVar, newRow]
 · rw [List.getElem?_append_right (by omega), hlen, Nat.sub_self] at hb
   cases hb; cases hcb; rfl
theorem ARun.allocBld {t e : TypeId} {j : Nat} {zv : Value} {C : List AV} {Y : AV} {d : Option Tmp} (hm : GOK m G) (hj : L.length = j) (ho : o.op = .alloc t) (hd : o.dst = d) (hn : dstLt n d = true) (hg : gdS ops σ o.guard = some true)
   (hz : Zv P t zv) (hk : zv.cells[0]? = some (.pointer none)) (hk1 : zv.cells[1]? = some (.slice none 0 0)) (hC : ((zv.cells.toList.map cAV).set 0 (.adr t)).set 1 (.buf e ⟨#[]⟩) = C) (hY : optA o.guard true (.box (m + j) 0) = Y)
   (hr : ARun P ops n QQ l (ks ++ [.new]) (putS σ d Y) (G ++ (L ++ [.box C]))) : ARun P ops n QQ (o :: l) ks σ (G ++ L) := by
 refine ARun.new (E := [.box C]) hd hn hg hY (fun H0 hl0 a W β hHr hl => ?_) (by rw [List.append_assoc]; exact hr)
 subst hC
 have hkl : 0 < zv.cells.size := (Array.getElem?_eq_some_iff.1 hk).1
 have hkl1 : 1 < zv.cells.size := (Array.getElem?_eq_some_iff.1 hk1).1
 have hb : Below W.heap.size W (W.alloc (.cells zv.cells t)) := (Below.refl _ _).alloc (Nat.le_refl _) _
 have hsn := hHr.snoc (w' := W.alloc (.cells zv.cells t)) hb (x := .bld W.heap.size (.slice none 0 0)) (o := .box (((zv.cells.toList.map cAV).set 0 (.adr t)).set 1 (.buf e ⟨#[]⟩))) ⟨zv.cells, t, heap_alloc_new W _, by simp, fun q u y h1 h2 => by
   by_cases e1 : 1 = q
   · subst e1
     rw [List.getElem?_set_self (by simp; omega)] at h2
     cases h2; exact .buf _ _ _
   · rw [List.getElem?_set_ne e1] at h2
     by_cases e2 : 0 = q
     · subst e2
       rw [List.getElem?_set_self (by simp; omega)] at h2
       cases h2; exact .adr _ _
     · rw [List.getElem?_set_ne e2, List.getElem?_map, Array.getElem?_toList, h1] at h2
       cases h2; exact cAV_rep _ _ _,
   e, ⟨#[]⟩, by rw [List.getElem?_set_ne (by omega), List.getElem?_set_self (by simp; omega)], by rw [List.getElem?_set_self (by simp; omega)], hk1, .inl hk, World.ownsRow_nil _ 0 e 1, by simp [Value.ownBlock], fun _ => rfl⟩ (fun b hb => by simp [Hd.blks, Value.ownBlock] at hb; omega)
 have hlen : β.length = m + j := by rw [hHr.len, hl0, List.length_append, hm.1, hj]
 refine ⟨.pointer (some ⟨W.heap.size, 0, none⟩), _, β ++ [.bld W.heap.size (.slice none 0 0)], ?_, hsn.1, hsn.2, .box _ _ _ (by rw [List.length_append, hlen]; simp) fun x b hb hcb => ?_⟩
 · simp [execOp, ho, Instr.alloc, hz.run, newVar, newRow]
 · rw [List.getElem?_append_right (by omega), hlen, Nat.sub_self] at hb
   cases hb; cases hcb; rfl
theorem ARun.nilPe {x : Operand} {cs : List AV} {Y : AV} {d : Option Tmp} (ho : o.op = .nilCheck x) (hd : o.dst = d) (hn : dstLt n d = true) (hG : gdS ops σ o.guard = some gd)
   (hx : Ev gd σ x (.pe cs)) (hY : optA o.guard gd (.pe cs) = Y)
   (hr : ARun P ops n QQ l (ks ++ [.pure]) (putS σ d Y) H) : ARun P ops n QQ (o :: l) ks σ H := by
 refine ARun.same hd hn hG hY (fun hg a W β hl => ⟨a.eval x, ?_, hx.rep hg hl (by simp [ho, Op.operands])⟩) hr
 have h0 := hx.rep hg hl (by simp [ho, Op.operands])
 generalize hv : a.eval x = v at h0
 cases h0; simp [execOp, ho, hv]
theorem ARun.nilFn {x : Operand} {f : FuncId} {fs cs : List AV} {Y : AV} {d : Option Tmp} (ho : o.op = .nilCheck x) (hd : o.dst = d) (hn : dstLt n d = true) (hG : gdS ops σ o.guard = some gd)
   (hx : Ev gd σ x (.fn (.func f) fs cs)) (hY : optA o.guard gd (.fn (.func f) fs cs) = Y)
   (hr : ARun P ops n QQ l (ks ++ [.pure]) (putS σ d Y) H) : ARun P ops n QQ (o :: l) ks σ H := by
 refine ARun.same hd hn hG hY (fun hg a W β hl => ⟨a.eval x, ?_, hx.rep hg hl (by simp [ho, Op.operands])⟩) hr
 have h0 := hx.rep hg hl (by simp [ho, Op.operands])
 generalize hv : a.eval x = v at h0
 cases h0; simp [execOp, ho, hv]
theorem ARun.nilBox {x : Operand} {i off : Nat} {cs : List AV} {Y : AV} {d : Option Tmp} (ho : o.op = .nilCheck x) (hd : o.dst = d) (hn : dstLt n d = true) (hG : gdS ops σ o.guard = some gd)
   (hx : Ev gd σ x (.box i off)) (hH : H[i]? = some (.box cs)) (hY : optA o.guard gd (.box i off) = Y)
   (hr : ARun P ops n QQ l (ks ++ [.pure]) (putS σ d Y) H) : ARun P ops n QQ (o :: l) ks σ H := by
 refine ARun.same hd hn hG hY (fun hg a W β hl => ⟨a.eval x, ?_, hx.rep hg hl (by simp [ho, Op.operands])⟩) hr
 obtain ⟨b, h2, _⟩ := (hx.rep hg hl (by simp [ho, Op.operands])).box_inv
 simp [execOp, ho, h2]
end
theorem getMap {α : Type} [Inhabited α] (f : α → AV) (l : List α) (j : Nat) (h : j < l.length) : (l.map f)[j]? = some (f (l.getD j default)) := by
 rw [List.getElem?_map, List.getElem?_eq_getElem h, List.getD, List.getElem?_eq_getElem h]; rfl
theorem ofNonneg {i : Int} (h : 0 ≤ i) : i = ((i.toNat : Nat) : Int) := by omega
/-! ### structs, the same or not -/
inductive K1 where
 | int | str | bool
deriving DecidableEq
def kindOf (P : Program) (t : TypeId) : Option K1 := match P.underlying t with
 | some (.int _) => some .int
 | some .string => some .str
 | some .bool => some .bool
 | _ => none
def eqAV : K1 → AV → AV → Option Bool
 | .int, .int k i, .int k' j => if k = k' then some (decide (i = j)) else none
 | .str, .str s, .str t => some (decide (s = t))
 | .bool, .bool a, .bool b => some (a == b)
 | _, _, _ => none
def eqL : List K1 → List AV → List AV → Option Bool
 | [], [], [] => some true
 | k :: ks, x :: xs, y :: ys => match eqAV k x y, eqL ks xs ys with
   | some a, some b => some (a && b)
   | _, _ => none
 | _, _, _ => none
def EqOk (P : Program) (t : TypeId) (sh : List K1) : Prop := ∃ fields : Array Field, P.underlying t = some (.struct fields) ∧ P.stoodInHeld t = false ∧ P.eqGuardType P.depth t = false ∧
 (fields.toList.zipIdx.all fun (f, i) => Nat.beq f.offset i && f.name != "_") = true ∧ fields.toList.map (fun f => kindOf P f.type) = sh.map some
theorem part_run {P : Program} {t : TypeId} {k : K1} (h : kindOf P t = some k) {xs : Array Value} {off : Nat} {v : Value} (hv : xs[off]? = some v) (w : World) : (part t xs off).run P w = .ok v w := by
 unfold kindOf at h
 have : ∃ u, P.underlying t = some u ∧ isA u = false := by
   split at h
   · rename_i q hq; exact ⟨_, hq, rfl⟩
   · rename_i hq; exact ⟨_, hq, rfl⟩
   · rename_i hq; exact ⟨_, hq, rfl⟩
   · cases h
 obtain ⟨u, h1, h2⟩ := this
 simp only [part, Sem.run_bind, isAgg_run h1, h2]
 simp [hv]
theorem eqAV_run {P : Program} {t : TypeId} {k : K1} (h : kindOf P t = some k) {β : List Hd} {w : World} {u v : Value} {x y : AV} (hu : VRep β w u x) (hv : VRep β w v y) {r : Bool} (hr : eqAV k x y = some r) (d : Nat) : (Op.equalIn (d + 1) t u v).run P w = .ok r w := by
 unfold kindOf at h
 unfold eqAV at hr
 split at hr
 · rename_i q i q' j
   split at hr
   · rename_i e
     subst e
     cases hr
     obtain rfl := hu.int_inv
     obtain rfl := hv.int_inv
     split at h <;> first | cases h | skip
     rename_i q2 hq
     exact run_equalIn_int w d t _ _ _ _ hq
   · cases hr
 · rename_i a b
   cases hr
   obtain rfl := hu.str_inv
   obtain rfl := hv.str_inv
   split at h <;> first | cases h | skip
   rename_i hq
   rw [run_equalIn_string w d t _ _ hq, toList_beq]
 · rename_i a b
   cases hr
   obtain rfl := hu.bool_inv
   obtain rfl := hv.bool_inv
   split at h <;> first | cases h | skip
   rename_i hq
   exact run_equalIn_bool w d t _ _ hq
 · cases hr
theorem eqFields_run {P : Program} {β : List Hd} {w : World} (d : Nat) (us vs : Array Value) : ∀ (fs : List Field) (sh : List K1) (k : Nat) (xs ys : List AV) (r : Bool), (fs.zipIdx k).all (fun (f, i) => Nat.beq f.offset i && f.name != "_") = true → fs.map (fun f => kindOf P f.type) = sh.map some →
   us.size = k + xs.length → vs.size = k + ys.length →
   (∀ (j : Nat) (u : Value) (x : AV), us[k + j]? = some u → xs[j]? = some x → VRep β w u x) → (∀ (j : Nat) (u : Value) (x : AV), vs[k + j]? = some u → ys[j]? = some x → VRep β w u x) →
   eqL sh xs ys = some r → (Op.eqFields (d + 1) us vs fs).run P w = .ok r w := by
 intro fs
 induction fs with
 | nil =>
   intro sh k xs ys r _ h2 _ _ _ _ h5
   cases sh with
   | cons _ _ => cases h2
   | nil =>
     cases xs <;> cases ys <;> cases h5
     simp [Op.eqFields]
 | cons f fs ih =>
   intro sh k xs ys r h1 h2 hus hvs h3 h4 h5
   cases sh with
   | nil => cases h2
   | cons kd sh =>
     cases xs with
     | nil => cases h5
     | cons x xs =>
       cases ys with
       | nil => cases h5
       | cons y ys =>
         rw [List.map_cons, List.map_cons, List.cons.injEq] at h2
         rw [List.zipIdx_cons, List.all_cons, Bool.and_eq_true, Bool.and_eq_true] at h1
         obtain ⟨⟨e1, e2⟩, e3⟩ := h1
         have e1 := Nat.eq_of_beq_eq_true e1
         have e2 : f.name ≠ "_" := by simpa using e2
         unfold eqL at h5
         split at h5
         · rename_i ra rb q1 q2
           cases h5
           have hku : us[k]? = some (us[k]'(by simp at hus; omega)) := Array.getElem?_eq_getElem (by simp at hus; omega)
           have hkv : vs[k]? = some (vs[k]'(by simp at hvs; omega)) := Array.getElem?_eq_getElem (by simp at hvs; omega)
           have hr1 := eqAV_run h2.1 (h3 0 _ x (by rw [Nat.add_zero]; exact hku) rfl) (h4 0 _ y (by rw [Nat.add_zero]; exact hkv) rfl) q1 d
           have hrest := ih sh (k + 1) xs ys rb e3 h2.2 (by simp at hus; omega) (by simp at hvs; omega)
             (fun j u z a b => h3 (j + 1) u z (by rw [← a]; congr 1; omega) (by simpa using b)) (fun j u z a b => h4 (j + 1) u z (by rw [← a]; congr 1; omega) (by simpa using b)) q2
           simp only [Op.eqFields, e2, ne_eq, not_false_eq_true, if_true, Sem.run_bind, part_run h2.1 (show us[f.offset]? = some _ by rw [e1]; exact hku), part_run h2.1 (show vs[f.offset]? = some _ by rw [e1]; exact hkv), Result.andThen_ok, hr1]
           cases ra
           · simp
           · simpa using hrest
         · cases h5
section
variable {P : Program} {ops : Array Oper} {n m : Nat} {QQ : List Kd → Sl → List AO → Prop} {l : List Oper} {ks : List Kd} {σ : Sl} {G L H : List AO} {o : Oper} {gd : Bool}
theorem ARun.eqAgg {bo : BinOp} {x y : Operand} {t1 t2 : TypeId} {sh : List K1} {xs ys : List AV} {b r : Bool} {Y : AV} {d : Option Tmp} (ho : o.op = .binOp bo t1 x y t2) (hd : o.dst = d) (hn : dstLt n d = true) (hG : gdS ops σ o.guard = some gd)
   (hE : EqOk P t1 sh) (hx : Ev gd σ x (.agg xs)) (hy : Ev gd σ y (.agg ys)) (he : eqL sh xs ys = some b) (hb : bo = .eql ∧ r = b ∨ bo = .neq ∧ r = !b) (hY : optA o.guard gd (.bool r) = Y)
   (hr : ARun P ops n QQ l (ks ++ [.pure]) (putS σ d Y) H) : ARun P ops n QQ (o :: l) ks σ H := by
 refine ARun.same hd hn hG hY (fun hg a W β hl => ⟨.bool r, ?_, .bool _⟩) hr
 obtain ⟨fields, hu, hst, hgt, hz, hm⟩ := hE
 have h1 := hx.rep hg hl (by simp [ho, Op.operands])
 have h2 := hy.rep hg hl (by simp [ho, Op.operands])
 generalize hvx : a.eval x = u at h1
 generalize hvy : a.eval y = v at h2
 cases h1 with
 | agg us _ hl1 k1 =>
   cases h2 with
   | agg vs _ hl2 k2 =>
     have hf := eqFields_run (P := P) (β := β) (w := W) 9998 us vs fields.toList sh 0 xs ys b hz hm (by omega) (by omega) (fun j u x p q => k1 j u x (by simpa using p) q) (fun j u x p q => k2 j u x (by simpa using p) q) he
     have hfo : P.fieldsOf t1 = fields := by unfold Program.fieldsOf; rw [hu]
     have heq : (Op.equal t1 (.agg us) (.agg vs)).run P W = .ok b W := by
       have := run_equalIn_agg (P := P) W 9999 t1 us vs (by rw [hfo]; exact hu) hst
       unfold Op.equal Op.maxDepth
       rw [this, hfo]; exact hf
     rcases hb with ⟨rfl, rfl⟩ | ⟨rfl, rfl⟩ <;> simp [execOp, ho, hvx, hvy, run_eqGuard_agg W _ t1 x y us vs hgt, binOp, heq]
theorem ARun.cmpB {bo : BinOp} {x y : Operand} {t1 t2 : TypeId} {i j r : Bool} {Y : AV} {d : Option Tmp} (ho : o.op = .binOp bo t1 x y t2) (hd : o.dst = d) (hn : dstLt n d = true) (hG : gdS ops σ o.guard = some gd)
   (hu : P.underlying t1 = some .bool) (hx : Ev gd σ x (.bool i)) (hy : Ev gd σ y (.bool j)) (he : cmpB bo i j = some r) (hY : optA o.guard gd (.bool r) = Y)
   (hr : ARun P ops n QQ l (ks ++ [.pure]) (putS σ d Y) H) : ARun P ops n QQ (o :: l) ks σ H := by
 refine ARun.same hd hn hG hY (fun hg a W β hl => ⟨.bool r, ?_, .bool _⟩) hr
 have h1 := (hx.rep hg hl (by simp [ho, Op.operands])).bool_inv
 have h2 := (hy.rep hg hl (by simp [ho, Op.operands])).bool_inv
 cases bo <;> cases he <;> simp [execOp, ho, h1, h2, eqGuard, binOp, run_equal_bool W t1 _ _ hu, bne]
theorem ARun.convI {t1 t2 : TypeId} {x : Operand} {k k2 : IntKind} {i r : Int} {Y : AV} {d : Option Tmp} (ho : o.op = .convert t1 t2 x) (hd : o.dst = d) (hn : dstLt n d = true) (hG : gdS ops σ o.guard = some gd)
   (hu1 : P.underlying t1 = some (.int k)) (hu2 : P.underlying t2 = some (.int k2)) (hx : Ev gd σ x (.int k i)) (hw : gd = true → k2.wrap i = r) (hY : optA o.guard gd (.int k2 r) = Y)
   (hr : ARun P ops n QQ l (ks ++ [.pure]) (putS σ d Y) H) : ARun P ops n QQ (o :: l) ks σ H := by
 refine ARun.same hd hn hG hY (fun hg a W β hl => ⟨.int k2 r, ?_, .int _ _⟩) hr
 have h1 := (hx.rep hg hl (by simp [ho, Op.operands])).int_inv
 rw [← hw hg]
 simp [execOp, ho, h1, convert, run_underlying hu1, run_underlying hu2, Conv.intToInt]
end
/-! ### results -/
inductive RV1 (P : Program) (σ : Sl) (H : List AO) : ResultVar → AV → Prop where
 | tmp {t : Nat} {X : AV} (h : look σ t = some X) : RV1 P σ H (.tmp t) X
 | cell {a : Nat} {t : TypeId} {i off : Nat} {cs : List AV} {u : TypeDesc} {X : AV} (h : look σ a = some (.box i off)) (hH : H[i]? = some (.box cs)) (hu : P.underlying t = some u) (hA : isA u = false) (hC : cs[off]? = some X) : RV1 P σ H (.cell a t) X
 | cellA {a : Nat} {t : TypeId} {i off z : Nat} {cs C : List AV} {u : TypeDesc} (h : look σ a = some (.box i off)) (hH : H[i]? = some (.box cs)) (hu : P.underlying t = some u) (hA : isA u = true) (hz : Sz P t z) (hC : (cs.drop off).take z = C) (hl : C.length = z) : RV1 P σ H (.cell a t) (.agg C)
inductive RVs (P : Program) (σ : Sl) (H : List AO) : List ResultVar → List AV → Prop where
 | nil : RVs P σ H [] []
 | cons {r : ResultVar} {X : AV} {rs : List ResultVar} {Xs : List AV} (h : RV1 P σ H r X) (t : RVs P σ H rs Xs) : RVs P σ H (r :: rs) (X :: Xs)
def runRes (a : Act) : ResultVar → Sem Value
 | .tmp t => pure (a.tmps.getD t undef)
 | .cell b t => do loadVar t (← asAddr (a.tmps.getD b undef))
theorem RV1.run {P : Program} {σ : Sl} {H : List AO} {r : ResultVar} {X : AV} (h : RV1 P σ H r X) {β : List Hd} {a : Act} {W : World} (hH : HRel β H W) (hs : SRep β W a σ) : ∃ v, (runRes a r).run P W = .ok v W ∧ VRep β W v X := by
 have hget : ∀ t X, look σ t = some X → VRep β W (a.tmps.getD t undef) X := by
   intro t X h
   obtain ⟨u, h1, h2⟩ := hs t X h
   have : a.tmps.getD t undef = u := by rw [Array.getD_eq_getD_getElem?, h1]; rfl
   rw [this]; exact h2
 cases h with
 | tmp h => exact ⟨_, rfl, hget _ _ h⟩
 | cell h hi hu hA hC =>
   rename_i ad t i off cs u
   obtain ⟨b, arr, T, h1, h2, h3, h4, h5⟩ := (hget _ _ h).box_at hH hi
   have hlt : off < arr.size := by rw [h4]; exact (List.getElem?_eq_some_iff.1 hC).1
   have hc : W.cell? ⟨b, off, none⟩ = some arr[off] := by simp [World.cell?, h3, hlt]
   refine ⟨arr[off], ?_, h5 off _ _ (Array.getElem?_eq_getElem hlt) hC⟩
   have h6 : (loadVar t ⟨b, off, none⟩).run P W = .ok arr[off] W := by
     simp only [loadVar, Sem.run_bind, isAgg_run hu, hA]
     simp [hc]
   simp only [runRes, h2]
   simp [asAddr, h6]
 | cellA h hi hu hA hz hC hl =>
   rename_i ad t i off z cs C u
   obtain ⟨b, arr, T, h1, h2, h3, h4, h5⟩ := (hget _ _ h).box_at hH hi
   subst hC
   have hget2 : ∀ q y, ((cs.drop off).take z)[q]? = some y → cs[off + q]? = some y := by
     intro q y hq
     rw [List.getElem?_take] at hq
     split at hq
     · rw [List.getElem?_drop] at hq; exact hq
     · cases hq
   have hcell : ∀ q y, ((cs.drop off).take z)[q]? = some y → ∃ u, arr[off + q]? = some u ∧ W.cell? ⟨b, off + q, none⟩ = some u := by
     intro q y hq
     have hlt : off + q < arr.size := by rw [h4]; exact (List.getElem?_eq_some_iff.1 (hget2 q y hq)).1
     exact ⟨_, Array.getElem?_eq_getElem hlt, by simp [World.cell?, h3, hlt]⟩
   obtain ⟨vs, k1, k2, k3⟩ := cells_list W b off ((cs.drop off).take z) β (fun q y hq => by obtain ⟨u, _, h⟩ := hcell q y hq; exact ⟨u, h⟩) (fun q y u hq hu2 => by
     obtain ⟨u', e1, e2⟩ := hcell q y hq
     rw [e2] at hu2; cases hu2
     exact h5 _ _ _ e1 (hget2 q y hq))
   refine ⟨.agg vs.toArray, ?_, .agg _ _ (by simpa using k1) (fun j u y hj hy => k3 j u y (by simpa using hj) hy)⟩
   have h6 : (loadVar t ⟨b, off, none⟩).run P W = .ok (.agg vs.toArray) W := by
     simp only [loadVar, Sem.run_bind, isAgg_run hu, hA, if_true]
     have h7 := run_loadCells_list (P := P) (w := W) ⟨b, off, none⟩ vs (fun j u hj => by rw [aadd]; exact k2 j u hj)
     rw [← hl, ← k1] at hz
     simp [hz.run, h7]
   simp only [runRes, h2]
   simp [asAddr, h6]
theorem RVs.run {P : Program} {σ : Sl} {H : List AO} {β : List Hd} {a : Act} {W : World} (hH : HRel β H W) (hs : SRep β W a σ) : ∀ {rs : List ResultVar} {Xs : List AV}, RVs P σ H rs Xs →
   ∃ vs : List Value, (rs.mapM (runRes a)).run P W = .ok vs W ∧ vs.length = Xs.length ∧ ∀ (j : Nat) (u : Value) (x : AV), vs[j]? = some u → Xs[j]? = some x → VRep β W u x := by
 intro rs Xs h
 induction h with
 | nil => exact ⟨[], by simp, rfl, fun j u x h => by simp at h⟩
 | cons h t ih =>
   obtain ⟨v, h1, h2⟩ := h.run hH hs
   obtain ⟨vs, k1, k2, k3⟩ := ih
   refine ⟨v :: vs, by simp [h1, k1], by simp [k2], fun j u x p q => ?_⟩
   cases j with
   | zero => simp at p q; subst p; subst q; exact h2
   | succ j => exact k3 j u x (by simpa using p) (by simpa using q)
theorem results_eq (fn : Func) (a : Act) : results fn a.tmps = (do let vs ← fn.results.mapM (runRes a); pure (if h : vs.size = 1 then vs[0] else .tuple vs)) := by
 rfl
theorem RVs.len {P : Program} {σ : Sl} {H : List AO} {rs : List ResultVar} {Xs : List AV} (h : RVs P σ H rs Xs) : rs.length = Xs.length := by
 induction h with
 | nil => rfl
 | cons _ _ ih => simp [ih]
theorem Tells.list {P : Program} {fn : Func} {β : List Hd} {a : Act} {W : World} {σ : Sl} {H : List AO} {rs : List ResultVar} {Xs : List AV} (hH : HRel β H W) (hs : SRep β W a σ) (hr : fn.results = rs.toArray) (h : RVs P σ H rs Xs) (h1 : Xs.length ≠ 1) : Tells P fn β a W (.tup Xs) := by
 obtain ⟨vs, k1, k2, k3⟩ := h.run hH hs
 refine ⟨.tuple vs.toArray, ?_, .tup _ _ (by simpa using k2) (fun j u x p q => k3 j u x (by simpa using p) q)⟩
 rw [results_eq, hr]
 have hne : ¬ vs.length = 1 := by rw [k2]; exact h1
 simp [k1, hne]
theorem Tells.single {P : Program} {fn : Func} {β : List Hd} {a : Act} {W : World} {σ : Sl} {H : List AO} {r : ResultVar} {X : AV} (hH : HRel β H W) (hs : SRep β W a σ) (hr : fn.results = #[r]) (h : RV1 P σ H r X) : Tells P fn β a W X := by
 obtain ⟨v, k1, k2⟩ := h.run hH hs
 refine ⟨v, ?_, k2⟩
 rw [results_eq, hr]
 simp [k1]
theorem endF.many {P : Program} {fn : Func} {Xs Xs' : List AV} {σ : Sl} {G L : List AO} {rs : List ResultVar} {e : Exit} (he : e = .normal ∨ e = .ret) (hr : fn.results = rs.toArray) (h : RVs P σ (G ++ L) rs Xs) (h1 : Xs.length ≠ 1) (hX : Xs = Xs') (hn : NoH G.length (.tup Xs')) : endF P fn (.tup Xs') G e σ G L := by
 subst hX
 exact ⟨he, rfl, hn, fun β a W hH hs => Tells.list hH hs hr h h1⟩
theorem endF.one {P : Program} {fn : Func} {X X' : AV} {σ : Sl} {G L : List AO} {r : ResultVar} {e : Exit} (he : e = .normal ∨ e = .ret) (hr : fn.results = #[r]) (h : RV1 P σ (G ++ L) r X) (hX : X = X') (hn : NoH G.length X') : endF P fn X' G e σ G L := by
 subst hX
 exact ⟨he, rfl, hn, fun β a W hH hs => Tells.single hH hs hr h⟩
end Go.Proofs.YtnlpojjfkgnhhaaGreatDoor
namespace Go.Proofs.YtnlpojjfkgnhhaaGreatDoor
section
variable {P : Program} {ops : Array Oper} {n m : Nat} {l : List Oper} {ks : List Kd} {σ : Sl} {H G L : List AO}
theorem mv {QQ : List Kd → Sl → List AO → Prop} {x : Operand} {X : AV} {d : Option Tmp} {t : TypeId} {p : String} {A : Array Edge}
   (hr : ARun P ops n QQ l (ks ++ [.pure]) (putS σ d X) H) (hn : dstLt n d = true := by exact rfl) (hx : evS σ x = some X := by exact rfl) : ARun P ops n QQ ({ dst := d, op := .move x, type := t, pos := p, after := A, guard := none } :: l) ks σ H := ARun.move (.inl rfl) rfl hn rfl (Ev.plain hx) optN hr
theorem ma {QQ : List Kd → Sl → List AO → Prop} {x : Operand} {X : AV} {d : Option Tmp} {t : TypeId} {p : String} {A : Array Edge}
   (hr : ARun P ops n QQ l (ks ++ [.pure]) (putS σ d X) H) (hn : dstLt n d = true := by exact rfl) (hx : evS σ x = some X := by exact rfl) : ARun P ops n QQ ({ dst := d, op := .assign x, type := t, pos := p, after := A, guard := none } :: l) ks σ H := ARun.move (.inr rfl) rfl hn rfl (Ev.plain hx) optN hr
theorem ez {next : Sl → List AO → List AO → Prop} {Q : QA} (h : next σ G L) (hG : GOK m G := by assumption) : ARun P ops n (endQ m (thenA next Q)) [] ks σ (G ++ L) := ⟨_, _, rfl, hG, thenA_n h⟩
theorem mz {next : Sl → List AO → List AO → Prop} {Q : QA} {x : Operand} {X : AV} {d : Option Tmp} {t : TypeId} {p : String} {A : Array Edge}
   (h : next (putS σ d X) G L) (hn : dstLt n d = true := by exact rfl) (hx : evS σ x = some X := by exact rfl) (hG : GOK m G := by assumption) : ARun P ops n (endQ m (thenA next Q)) [{ dst := d, op := .assign x, type := t, pos := p, after := A, guard := none }] ks σ (G ++ L) := ma (ez h hG) hn hx
theorem ep {gd : Bool} {x : Operand} {X : AV} (h : evS σ x = some X) : Ev gd σ x X := .inl h
theorem sr {Q : QA} {id : Nat} {y : Code} (h : GOK m G → ARun P ops n (endQ m (thenA (AWP P n m y Q) Q)) ops.toList [] σ (G ++ L)) : AWP P n m (.seq (.region id ops false) y) Q σ G L := AWP.seq (AWP.region h)
end
end Go.Proofs.YtnlpojjfkgnhhaaGreatDoor
namespace Go.Proofs.YtnlpojjfkgnhhaaGreatDoor
open Go.ChangeShapes Go.WideShapes Go.ChangeAt Go.RowKit
def bs (l : List UInt8) : ByteArray := ⟨l.toArray⟩
def bl (s : ByteArray) : List UInt8 := s.data.toList
@[go_sem] theorem bs_toList (l : List UInt8) : (bs l).toList = l := ByteArray.toList_mk l
@[go_sem] theorem bs_size (l : List UInt8) : (bs l).size = l.length := rfl
theorem bl_bs (l : List UInt8) : bl (bs l) = l := rfl
theorem bs_bl (s : ByteArray) : bs (bl s) = s := rfl
theorem bl_len (s : ByteArray) : (bl s).length = s.size := Array.length_toList
theorem bl_inj {s t : ByteArray} (h : bl s = bl t) : s = t := by
 apply ByteArray.ext; apply Array.toList_inj.1; exact h
theorem bl_append (s t : ByteArray) : bl (s ++ t) = bl s ++ bl t := by simp [bl]
@[go_sem] theorem bs_append (s t : List UInt8) : bs s ++ bs t = bs (s ++ t) := by
 apply ByteArray.ext; simp [bs]
theorem bl_get (s : ByteArray) (k : Nat) (h : k < s.size) : (bl s)[k]? = some s[k] := by
 unfold bl; rw [List.getElem?_eq_getElem (by simpa using h)]; rfl
theorem bl_getD (s : ByteArray) (k : Nat) (h : k < s.size) : (bl s).getD k 0 = s[k] := by
 rw [List.getD, bl_get s k h]; rfl
theorem bl_extract (s : ByteArray) (a b : Nat) : bl (s.extract a b) = ((bl s).take b).drop a := by
 unfold bl; simp [ByteArray.data_extract, List.drop_take]
theorem bl_extract0 (s : ByteArray) (b : Nat) : s.extract 0 b = bs ((bl s).take b) := by
 apply bl_inj; rw [bl_extract, bl_bs, List.drop_zero]
theorem bl_take_succ (s : ByteArray) (k : Nat) (h : k < s.size) : (bl s).take (k + 1) = (bl s).take k ++ [s[k]] := by
 unfold bl; rw [List.take_succ_eq_append_getElem (by simpa using h)]; rfl
theorem bl_take_all (s : ByteArray) : (bl s).take s.size = bl s := List.take_of_length_le (by rw [bl_len]; exact Nat.le_refl _)
theorem byte_bd (b : UInt8) : (b.toNat : Int) ≤ 255 := by have := b.toNat_lt; omega
theorem ret_str {a b : ByteArray} (h : a = b) : Ending.returned (.string a) = .returned (.string b) := by rw [h]
theorem ret_int {k : IntKind} {a b : Int} (h : a = b) : Ending.returned (.int k a) = .returned (.int k b) := by rw [h]
theorem ret_si {a b : ByteArray} {x y : Int} (h : a = b) (g : x = y) : Ending.returned (.tuple #[.string a, .int .i64 x]) = .returned (.tuple #[.string b, .int .i64 y]) := by rw [h, g]
theorem ret_gii {g : Int × Int} {a b : Int} (h : g = (a, b)) : Ending.returned (.tuple #[.int .i64 a, .int .i64 b]) = .returned (.tuple #[.int .i64 g.1, .int .i64 g.2]) := by rw [h]
theorem ret_giii {g : Int × Int × Int} {a b c : Int} (h : g = (a, b, c)) : Ending.returned (.tuple #[.int .i64 a, .int .i64 b, .int .i64 c]) = .returned (.tuple #[.int .i64 g.1, .int .i64 g.2.1, .int .i64 g.2.2]) := by rw [h]
/-! ### a slice that reads as a list: every element lies in sz cells -/
def Reads {α : Type} (enc : α → List Value) (sz : Nat) (w : World) (a : Option Addr) (xs : List α) : Prop :=
 ∀ i, (h : i < xs.length) → ∃ b off, a = some ⟨b, off, none⟩ ∧ b < w.heap.size ∧ ∀ j, j < sz → w.cell? ⟨b, off + i * sz + j, none⟩ = (enc xs[i])[j]?
theorem Reads.below {α : Type} {enc : α → List Value} {sz : Nat} {w w' : World} {a : Option Addr} {xs : List α} (h : Reads enc sz w a xs) (k : Below w.heap.size w w') : Reads enc sz w' a xs := by
 intro i hi
 obtain ⟨b, off, ha, hb, hc⟩ := h i hi
 refine ⟨b, off, ha, Nat.lt_of_lt_of_le hb k.size, fun j hj => ?_⟩
 rw [k.cell (p := ⟨b, off + i * sz + j, none⟩) hb]
 exact hc j hj
theorem Reads.drew {α : Type} {enc : α → List Value} {sz : Nat} {w : World} {a : Option Addr} {xs : List α} (h : Reads enc sz w a xs) : Reads enc sz w.drew a xs := h
theorem Reads.nil {α : Type} (enc : α → List Value) (sz : Nat) (w : World) (a : Option Addr) : Reads enc sz w a [] := fun i hi => absurd hi (Nat.not_lt_zero i)
theorem flat_get {α : Type} (enc : α → List Value) (sz : Nat) (hz : ∀ x, (enc x).length = sz) (xs : List α) : ∀ i, (h : i < xs.length) → ∀ j, j < sz → (xs.flatMap enc)[i * sz + j]? = (enc xs[i])[j]? := by
 induction xs with
 | nil => intro i h; exact absurd h (Nat.not_lt_zero i)
 | cons x xs ih =>
   intro i h j hj
   rw [List.flatMap_cons]
   cases i with
   | zero => rw [List.getElem?_append_left (by rw [hz]; omega)]; simp
   | succ i =>
     rw [List.getElem?_append_right (by rw [hz, Nat.add_mul]; omega), hz]
     rw [show (i + 1) * sz + j - sz = i * sz + j by rw [Nat.add_mul]; omega]
     exact ih i (by simpa using h) j hj
def IsSl {α : Type} (enc : α → List Value) (sz : Nat) (w : World) (v : Value) (xs : List α) : Prop := ∃ a cap, v = .slice a xs.length cap ∧ xs.length ≤ cap ∧ cap ≤ maxLen ∧ Reads enc sz w a xs
theorem IsSl.below {α : Type} {enc : α → List Value} {sz : Nat} {w w' : World} {v : Value} {xs : List α} (h : IsSl enc sz w v xs) (k : Below w.heap.size w w') : IsSl enc sz w' v xs := by
 obtain ⟨a, cap, h1, h2, h3, h4⟩ := h
 exact ⟨a, cap, h1, h2, h3, h4.below k⟩
theorem IsSl.nil {α : Type} (enc : α → List Value) (sz : Nat) (w : World) : IsSl enc sz w (.slice none 0 0) [] := ⟨none, 0, rfl, Nat.le_refl _, Nat.zero_le _, Reads.nil _ _ _ _⟩
def Above (B : Nat) (v : Value) : Prop := ∀ b off s n c, v = .slice (some ⟨b, off, s⟩) n c → B ≤ b
theorem Above.nil (B : Nat) : Above B (.slice none 0 0) := by intro b off s n c h; cases h
theorem Above.mono {B C : Nat} {v : Value} (h : Above B v) (k : C ≤ B) : Above C v := fun b off s n c e => Nat.le_trans k (h b off s n c e)
theorem IsSl.set {α : Type} {enc : α → List Value} {sz : Nat} {w : World} {v : Value} {xs : List α} (h : IsSl enc sz w v xs) (p : Addr) (u : Value) (hne : ∀ b off s n c, v = .slice (some ⟨b, off, s⟩) n c → b ≠ p.block) : IsSl enc sz (w.setCell p u) v xs := by
 obtain ⟨a, cap, h1, h2, h3, h4⟩ := h
 refine ⟨a, cap, h1, h2, h3, fun i hi => ?_⟩
 obtain ⟨b, off, ha, hb, hc⟩ := h4 i hi
 refine ⟨b, off, ha, by simpa using hb, fun j hj => ?_⟩
 have hn : p ≠ ⟨b, off + i * sz + j, none⟩ := fun e => hne b off none _ _ (by rw [h1, ha]) (by rw [e])
 rw [World.cell?_setCell_other _ _ _ _ hn]
 exact hc j hj
theorem addr_add (b off j : Nat) : (⟨b, off, none⟩ : Addr).add j = ⟨b, off + j, none⟩ := by unfold Addr.add; split <;> simp_all
theorem new_cells (w : World) (l : List Value) (T : TypeId) : ∀ j u, l[j]? = some u → (w.alloc (.cells l.toArray T)).cell? ((⟨w.heap.size, 0, none⟩ : Addr).add j) = some u := by
 intro j u h
 rw [addr_add, World.cell?_alloc_new]
 simpa using h
def NewRow (n : Nat) (cs : List Value) (v : Value) (W : World) : Prop := ∃ b, v = .slice (some ⟨b, 0, none⟩) n n ∧ b < W.heap.size ∧ ∀ j u, cs[j]? = some u → W.cell? ((⟨b, 0, none⟩ : Addr).add j) = some u
theorem NewRow.below {n : Nat} {cs : List Value} {v : Value} {W W' : World} (h : NewRow n cs v W) (k : Below W.heap.size W W') : NewRow n cs v W' := by
 obtain ⟨b, h1, h2, h3⟩ := h
 refine ⟨b, h1, Nat.lt_of_lt_of_le h2 k.size, fun j u hu => ?_⟩
 have := h3 j u hu
 rw [addr_add] at this ⊢
 rw [k.cell (p := ⟨b, 0 + j, none⟩) h2]; exact this
theorem NewRow.new (n : Nat) (cs : List Value) (W : World) (T : TypeId) : NewRow n cs (.slice (some ⟨W.heap.size, 0, none⟩) n n) (W.alloc (.cells cs.toArray T)) :=
 ⟨W.heap.size, rfl, by simp, new_cells W cs T⟩
def encI (x : Int) : List Value := [.int .i64 x]
theorem Reads.int {w : World} {a : Option Addr} {xs : List Int} (h : Reads encI 1 w a xs) (i : Nat) (hi : i < xs.length) : ∃ b off, a = some ⟨b, off, none⟩ ∧ b < w.heap.size ∧ w.cell? ⟨b, off + i, none⟩ = some (.int .i64 xs[i]) := by
 obtain ⟨b, off, ha, hb, hc⟩ := h i hi
 refine ⟨b, off, ha, hb, ?_⟩
 have := hc 0 (by omega)
 simpa [encI] using this
end Go.Proofs.YtnlpojjfkgnhhaaGreatDoor
namespace Go.Proofs.YtnlpojjfkgnhhaaGreatDoor
open Go.RowKit
def plainV : Value → Bool
 | .int _ _ | .bool _ | .string _ => true
 | _ => false
theorem VRep.plain {β : List Hd} {w : World} {u v : Value} (h : VRep β w u (cAV v)) (hv : plainV v = true) : u = v := by
 cases v <;> cases hv
 · exact h.bool_inv
 · exact h.int_inv
 · exact h.str_inv
/-! ### slices that are lent -/
inductive Flat : AV → Prop where
 | int (k : IntKind) (n : Int) : Flat (.int k n)
 | bool (b : Bool) : Flat (.bool b)
 | str (s : ByteArray) : Flat (.str s)
 | raw (v : Value) : Flat (.raw v)
 | agg (cs : List AV) (h : ∀ x, x ∈ cs → Flat x) : Flat (.agg cs)
 | tup (cs : List AV) (h : ∀ x, x ∈ cs → Flat x) : Flat (.tup cs)
theorem VRep.flat {β β' : List Hd} {w : World} {v : Value} {X : AV} (h : VRep β w v X) (hf : Flat X) : VRep β' w v X := by
 induction h with
 | int k n => exact .int k n
 | bool b => exact .bool b
 | str s => exact .str s
 | raw v => exact .raw v
 | agg vs cs hl _ ih => cases hf with | agg _ h => exact .agg vs cs hl fun j u x a b => ih j u x a b (h x (List.mem_of_getElem? b))
 | tup vs cs hl _ ih => cases hf with | tup _ h => exact .tup vs cs hl fun j u x a b => ih j u x a b (h x (List.mem_of_getElem? b))
 | slnil => cases hf
 | slemp p cap hm => cases hf
 | lit b n e us hb2 hS hh => cases hf
 | sl b off cap z xs hc hm2 hb hS hz hd _ ih => cases hf
 | pe b off cs hb hS hd _ ih => cases hf
 | box b i off hi h => cases hf
 | own v i g hi h _ => cases hf
 | elt v i g off hi h => cases hf
 | fn f us vs fs cs hl1 hl _ _ ih1 ih => cases hf
 | ifc t v x _ ih => cases hf
 | opt c v x _ h0 ih => cases hf
 | adr T v => cases hf
 | buf e s v => cases hf
 | mh b i hi h => cases hf
 | mp b es hb hS hm => cases hf
 | rc b F vs cs hb hS hc hl _ ih => cases hf
inductive Lent (H : List AO) : List AV → List AV → Prop where
 | nil : Lent H [] []
 | same {x : AV} {l m : List AV} (t : Lent H l m) : Lent H (x :: l) (x :: m)
 | own {i g : Nat} {e : TypeId} {z : Nat} {zs : List AV} {l m : List AV} (hi : H[i]? = some (.row g e z zs)) (hm : zs.length ≤ maxLen) (t : Lent H l m) : Lent H (.own i g :: l) (.sl zs :: m)
theorem row_reads {β : List Hd} {H : List AO} {w : World} (hH : HRel β H w) {i g : Nat} {e : TypeId} {z : Nat} {zs : List AV} (hi : H[i]? = some (.row g e z zs)) {v : Value} (hv : VRep β w v (.own i g)) {β' : List Hd} (hs : ∀ b, v.ownBlock = some b → Still β' b) (hx : Ext β w β' w ∨ ∀ u X, VRep β w u X → VRep β' w u X) : VRep β' w v (.sl zs) := by
 obtain ⟨us, h1, h2, h3, h4⟩ := hv.own_at hH hi
 have hcv : ∀ u X, VRep β w u X → VRep β' w u X := by
   rcases hx with hx | hx
   · exact fun u X h => h.ext hx
   · exact hx
 rcases h2.2 with ⟨rfl, h0⟩ | ⟨gb, cap, cur, rfl, _, hgg, hnc, hcm, hcs, htake⟩
 · have : zs = [] := List.eq_nil_of_length_eq_zero h0
   subst this; exact .slnil
 · have hgl := (Array.getElem?_eq_some_iff.1 hgg).1
   have hcell : ∀ q u, us[q]? = some u → w.cell? ⟨gb, q, none⟩ = some u := by
     intro q u hq
     have hc := cell_of_row w gb q cur e (0, 0) hgg
     rw [hc]
     rw [← htake, List.getElem?_take] at hq
     split at hq
     · simpa using hq
     · cases hq
   have hus : us.length = zs.length * z := h2.1
   have hfl := flat_len' zs h3
   refine .sl gb 0 cap z zs hnc hcm hgl (hs gb rfl) h3 (fun i q x y hi hq => ?_) (fun i q x y u hi hq hu => ?_)
   · have h7 := flat_at zs h3 i q x y hi hq
     have hlt7 : i * z + q < us.length := by rw [hus, ← hfl]; exact (List.getElem?_eq_some_iff.1 h7).1
     exact ⟨_, by rw [Nat.zero_add]; exact hcell _ _ (List.getElem?_eq_getElem hlt7)⟩
   · have h7 := flat_at zs h3 i q x y hi hq
     have hlt7 : i * z + q < us.length := by rw [hus, ← hfl]; exact (List.getElem?_eq_some_iff.1 h7).1
     rw [Nat.zero_add, hcell _ _ (List.getElem?_eq_getElem hlt7)] at hu
     cases hu
     exact hcv _ _ (h4 _ _ y (List.getElem?_eq_getElem hlt7) h7)
section
variable {P : Program} {ops : Array Oper} {n m : Nat} {QQ : List Kd → Sl → List AO → Prop} {l : List Oper} {ks : List Kd} {σ : Sl} {G L H : List AO} {o : Oper} {gd : Bool}
theorem ARun.callSet {f : Operand} {args : Array Operand} {ats : Array TypeId} {F j : Nat} {fs cs xs ax : List AV} {r Y : AV} {d : Option Tmp} {ob : AO} {L' : List AO} (hm : GOK m G) (ho : o.op = .call { callee := .value f, args := args, argTypes := ats }) (hd : o.dst = d) (hn : dstLt n d = true) (hG : gdS ops σ o.guard = some true)
   (hcf : ∀ (va : Array Value) (W : World), (callFunc F va).run P W = .ok (.enter F va) W)
   (hf : Ev true σ f (.fn (.func F) fs cs)) (hx : EvL true σ args.toList xs) (has : fs ++ xs ++ cs = ax) (hF : FnH P F ax (G ++ L) r ((G ++ L).set (m + j) ob)) (hL : L.set j ob = L') (hY : optA o.guard true r = Y)
   (hr : ARun P ops n QQ l (ks ++ [.write]) (putS σ d Y) (G ++ L')) : ARun P ops n QQ (o :: l) ks σ (G ++ L) :=
 ARun.callH ho hd hn hG hcf hf hx has hF hY (by rw [hm.set, hL]; exact hr)
end
@[simp] theorem flat_int (k : IntKind) (i : Int) : Flat (.int k i) := .int k i
@[simp] theorem flat_bool (b : Bool) : Flat (.bool b) := .bool b
@[simp] theorem flat_str (s : ByteArray) : Flat (.str s) := .str s
@[simp] theorem flat_agg (cs : List AV) : Flat (.agg cs) ↔ ∀ x, x ∈ cs → Flat x := ⟨fun h => by cases h with | agg _ h => exact h, .agg cs⟩
@[simp] theorem flat_tup (cs : List AV) : Flat (.tup cs) ↔ ∀ x, x ∈ cs → Flat x := ⟨fun h => by cases h with | tup _ h => exact h, .tup cs⟩
end Go.Proofs.YtnlpojjfkgnhhaaGreatDoor
