/- The abstract machine: more operations. -/
import Derived.Test.YtfeeohbapnolcaaAmLib
namespace Go.Proofs.Ytfeeohbapnolcaa
set_option linter.unusedVariables false
set_option linter.unusedSimpArgs false
open Go.RowKit
/-- a plain cell, as a value -/
def litV : AV → Value
  | .int k n => .int k n
  | .bool b => .bool b
  | .str s => .string s
  | _ => undef
def litOk : AV → Bool
  | .int _ _ => true
  | .bool _ => true
  | .str _ => true
  | _ => false
theorem VRep.litV {β : List Hd} {w : World} {u : Value} {x : AV} (h : VRep β w u x) (hx : litOk x = true) : u = litV x := by
  cases x <;> first | exact h.int_inv | exact h.bool_inv | exact h.str_inv | cases hx
section
variable {P : Program} {ops : Array Oper} {n m : Nat} {QQ : List Kd → Sl → List AO → Prop} {l : List Oper} {ks : List Kd} {σ : Sl} {G L H : List AO} {o : Oper} {gd : Bool}
theorem ARun.minmax3 {x y z : Operand} {b : Builtin} {ts : Array TypeId} {k : IntKind} {i j q r : Int} {Y : AV} {d : Option Tmp} (ho : o.op = .call { callee := .builtin b, args := #[x, y, z], argTypes := ts }) (hd : o.dst = d) (hn : dstLt n d = true) (hG : gdS ops σ o.guard = some gd)
    (hx : Ev gd σ x (.int k i)) (hy : Ev gd σ y (.int k j)) (hz : Ev gd σ z (.int k q)) (hb : (b = .min ∧ r = min (min i j) q) ∨ (b = .max ∧ r = max (max i j) q)) (hY : optA o.guard gd (.int k r) = Y)
    (hr : ARun P ops n QQ l (ks ++ [.pure]) (putS σ d Y) H) : ARun P ops n QQ (o :: l) ks σ H := by
  refine ARun.same hd hn hG hY (fun hg a W β hl => ⟨.int k r, ?_, .int _ _⟩) hr
  have h1 := (hx.rep hg hl (by simp [ho, Op.operands, Call.operands])).int_inv
  have h2 := (hy.rep hg hl (by simp [ho, Op.operands, Call.operands])).int_inv
  have h3 := (hz.rep hg hl (by simp [ho, Op.operands, Call.operands])).int_inv
  rcases hb with ⟨rfl, rfl⟩ | ⟨rfl, rfl⟩
  · have e1 : (if j < i then j else i) = min i j := by omega
    have e2 : (if q < min i j then q else min i j) = min (min i j) q := by omega
    have hm : (Builtin.min_ ts o.type #[.int k i, .int k j, .int k q]).run P W = .ok (.int k (min (min i j) q)) W := by simp [go_sem, e1, e2]
    simp [execOp, ho, resolve, h1, h2, h3, invoke, builtin, hm]
  · have e1 : (if i < j then j else i) = max i j := by omega
    have e2 : (if max i j < q then q else max i j) = max (max i j) q := by omega
    have hm : (Builtin.max_ ts o.type #[.int k i, .int k j, .int k q]).run P W = .ok (.int k (max (max i j) q)) W := by simp [go_sem, e1, e2]
    simp [execOp, ho, resolve, h1, h2, h3, invoke, builtin, hm]
/-- a place of an array that nobody writes -/
theorem ARun.indexPe {x y : Operand} {t e : TypeId} {len z j : Nat} {k : IntKind} {i : Int} {cs C : List AV} {Y : AV} {d : Option Tmp} (ho : o.op = .indexAddr t x y) (hd : o.dst = d) (hn : dstLt n d = true) (hG : gdS ops σ o.guard = some gd)
    (hu : P.underlying t = some (.array len e)) (hz : Sz P e z)
    (hx : Ev gd σ x (.pe cs)) (hy : Ev gd σ y (.int k i)) (hi : gd = true → i = (j : Int)) (hj : gd = true → j < len) (hC : (cs.drop (j * z)).take z = C) (hY : optA o.guard gd (.pe C) = Y)
    (hr : ARun P ops n QQ l (ks ++ [.pure]) (putS σ d Y) H) : ARun P ops n QQ (o :: l) ks σ H := by
  refine ARun.same hd hn hG hY (fun hg a W β hl => ?_) hr
  have h0 := hx.rep hg hl (by simp [ho, Op.operands])
  have h1 := (hy.rep hg hl (by simp [ho, Op.operands])).int_inv
  have hij := hi hg
  have hjx := hj hg
  subst hij
  subst hC
  generalize hv : a.eval x = v at h0
  cases h0 with
  | pe b off _ hb hS hdd h =>
    have hget : ∀ q y, ((cs.drop (j * z)).take z)[q]? = some y → cs[j * z + q]? = some y := by
      intro q y hq
      rw [List.getElem?_take] at hq
      split at hq
      · rw [List.getElem?_drop] at hq; exact hq
      · cases hq
    refine ⟨.pointer (some ⟨b, off + j * z, none⟩), ?_, .pe b _ _ hb hS (fun q y hq => ?_) (fun q y u hq hu2 => ?_)⟩
    · simp [execOp, ho, hv, h1, Instr.indexAt, asIntOf, run_underlying hu, hz.run, hjx, Instr.sureAddr, aadd]
    · rw [Nat.add_assoc]; exact hdd _ y (hget q y hq)
    · rw [Nat.add_assoc] at hu2; exact h _ y u (hget q y hq) hu2
/-- a slice's literal, of plain cells: what it is in memory stays known -/
theorem ARun.buildLit {t e : TypeId} {len : Nat} {parts : Array (Nat × Operand)} {ps : List (Nat × AV)} {z : Nat} {zv : Value} {C xs : List AV} {us : List Value} {Y : AV} {d : Option Tmp} (ho : o.op = .buildSlice t len parts) (hd : o.dst = d) (hn : dstLt n d = true) (hG : gdS ops σ o.guard = some gd)
    (hu : P.underlying t = some (.slice e)) (hz : Sz P e z) (hzv : Zv P e zv) (hbig : len * z ≤ 2 ^ 24)
    (hx : EvP gd σ parts.toList ps) (hs : (ps.all fun p => shaped p.2) = true) (hxs : ps.map (·.2) = xs)
    (hC : fillA (fun i => some (i * z, z)) ((List.range (len * z)).map fun j => cAV (zv.cells.toList.getD (j % zv.cells.size) default)) ps = some C) (hCx : C = xs.flatMap AV.cells) (hlit : (C.all litOk) = true) (hus : C.map litV = us) (hY : optA o.guard gd (.lit len e us) = Y)
    (hr : ARun P ops n QQ l (ks ++ [.pure]) (putS σ d Y) H) : ARun P ops n QQ (o :: l) ks σ H := by
  rw [← zeros_eq] at hC
  refine ARun.valH hd hn hG hY (fun hg a W β hβ hl => ?_) hr
  obtain ⟨vs', h1, h2⟩ := fill_rep (β := β) (w := W) (a := a) (fun i => some (i * z, z)) parts.toList ps hx (EvP.looks hg hl (by simp [ho, Op.operands])) hs _ _ C (CRep.zero β W ((Array.range (len * z)).map (zv.cells[· % zv.cells.size]!))) hC
  refine ⟨.slice (some ⟨W.heap.size, 0, none⟩) len len, W.alloc (.cells vs' e), ?_, (Below.refl _ _).alloc (Nat.le_refl _) _, ?_⟩
  · have hnb : ¬ len * z > 2 ^ 24 := by omega
    by_cases h0 : len * z = 0
    · have e1 : ((Array.range (len * z)).map (zv.cells[· % zv.cells.size]!)) = (#[] : Array Value) := by rw [h0]; simp
      rw [e1] at h1
      have e2 : Array.range 0 = #[] := rfl
      simp [execOp, ho, Instr.buildSlice, run_underlying hu, hz.run, h0, h1, e2, newRow]
    · simp [execOp, ho, Instr.buildSlice, run_underlying hu, hz.run, h0, hnb, hzv.run, h1, newRow]
  · have hv : vs'.toList = us := by
      rw [← hus]
      refine List.ext_getElem? fun j => ?_
      rw [List.getElem?_map]
      by_cases hj : j < C.length
      · have hj2 : j < vs'.size := by rw [h2.1]; exact hj
        have h3 := h2.2 j _ _ (Array.getElem?_eq_getElem hj2) (List.getElem?_eq_getElem hj)
        rw [Array.getElem?_toList, Array.getElem?_eq_getElem hj2, List.getElem?_eq_getElem hj, h3.litV (List.all_eq_true.1 hlit _ (List.getElem_mem hj))]; rfl
      · rw [List.getElem?_eq_none (by simp [h2.1]; omega), List.getElem?_eq_none (by omega)]; rfl
    refine .lit W.heap.size len e us (by simp) (fun y hy e => by have := hβ y hy _ e; omega) ?_
    rw [← hv]
    exact heap_alloc_new W _
end
theorem VRep.lit_inv {β : List Hd} {w : World} {v : Value} {n : Nat} {e : TypeId} {us : List Value} (h : VRep β w v (.lit n e us)) : ∃ b, v = .slice (some ⟨b, 0, none⟩) n n ∧ b < w.heap.size ∧ Still β b ∧ w.heap[b]? = some (.cells us.toArray e (0, 0)) := by
  cases h with
  | lit b _ _ _ hb hS hh => exact ⟨b, rfl, hb, hS, hh⟩
end Go.Proofs.Ytfeeohbapnolcaa
