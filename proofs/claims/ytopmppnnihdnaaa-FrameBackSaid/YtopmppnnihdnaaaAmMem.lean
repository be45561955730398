/- The abstract machine: memory that is read. -/
import Derived.Test.YtopmppnnihdnaaaAmOps
import Derived.Laws.Slices
import Derived.Laws.Strings2
namespace Go.Proofs.Ytopmppnnihdnaaa
set_option linter.unusedVariables false
set_option linter.unusedSimpArgs false
open Go.RowKit
/-- how many cells a type has -/
def Sz (P : Program) (t : TypeId) (z : Nat) : Prop := (P.info? t).map (·.size) = some z
theorem Sz.run {P : Program} {t : TypeId} {z : Nat} (h : Sz P t z) (w : World) : (sizeOf t).run P w = .ok z w := by
  unfold Sz at h
  cases hi : P.info? t with
  | none => rw [hi] at h; cases h
  | some i => rw [hi] at h; cases h; simp [sizeOf, typeInfo, hi]
def isA : TypeDesc → Bool
  | .struct _ => true
  | .array _ _ => true
  | _ => false
theorem isAgg_run {P : Program} {t : TypeId} {u : TypeDesc} (h : P.underlying t = some u) (w : World) : (isAgg t).run P w = .ok (isA u) w := by
  unfold isAgg
  cases u <;> simp [run_underlying h, isA]
theorem aadd (b off k : Nat) : (⟨b, off, none⟩ : Addr).add k = ⟨b, off + k, none⟩ := by unfold Addr.add; split <;> simp_all
section
variable {P : Program} {ops : Array Oper} {n : Nat} {QQ : List Kd → Sl → List AO → Prop} {l : List Oper} {ks : List Kd} {σ : Sl} {H : List AO} {o : Oper} {gd : Bool}
/-- &x[i] of a slice -/
theorem ARun.indexSl {x y : Operand} {t e : TypeId} {z j : Nat} {k : IntKind} {i : Int} {xs : List AV} {X : AV} {C : List AV} {Y : AV} {d : Option Tmp} (ho : o.op = .indexAddr t x y) (hd : o.dst = d) (hn : dstLt n d = true) (hG : gdS ops σ o.guard = some gd)
    (hu : P.underlying t = some (.slice e)) (hz : Sz P e z)
    (hx : Ev gd σ x (.sl xs)) (hy : Ev gd σ y (.int k i)) (hi : gd = true → i = (j : Int)) (hj : gd = true → xs[j]? = some X) (hX : X.cells = C) (hC : C.length = z) (hY : optA o.guard gd (.pe C) = Y)
    (hr : ARun P ops n QQ l (ks ++ [.pure]) (putS σ d Y) H) : ARun P ops n QQ (o :: l) ks σ H := by
  refine ARun.same hd hn hG hY (fun hg a W β hl => ?_) hr
  have h0 := hx.rep hg hl (by simp [ho, Op.operands])
  have h1 := (hy.rep hg hl (by simp [ho, Op.operands])).int_inv
  have hij := hi hg
  have hjx := hj hg
  subst hij
  generalize hv : a.eval x = v at h0
  cases h0 with
  | slnil => simp at hjx
  | slemp p cap hm => simp at hjx
  | sl b off cap z' _ hc hm hb hS hz' hdd h =>
    have hlt := (List.getElem?_eq_some_iff.1 hjx).1
    have ez : z' = z := by rw [← hz' X (List.mem_of_getElem? hjx), hX, hC]
    subst ez
    refine ⟨.pointer (some ⟨b, off + j * z', none⟩), ?_, .pe b _ C hb hS (fun q y hq => ?_) (fun q y u hq hu2 => ?_)⟩
    · simp [execOp, ho, hv, h1, Instr.indexAt, asIntOf, run_underlying hu, hz.run, hlt, aadd]
    · exact hdd j q X y hjx (by rw [hX]; exact hq)
    · exact h j q X y u hjx (by rw [hX]; exact hq) hu2
/-- s[i] of a text -/
def byteAt (s : ByteArray) (j : Nat) : Int := ((s.data.toList.getD j 0).toNat : Int)
theorem ARun.indexStr {x y : Operand} {t : TypeId} {j : Nat} {k : IntKind} {i : Int} {s : ByteArray} {Y : AV} {d : Option Tmp} (ho : o.op = .index t x y) (hd : o.dst = d) (hn : dstLt n d = true) (hG : gdS ops σ o.guard = some gd)
    (hu : P.underlying t = some .string) (hx : Ev gd σ x (.str s)) (hy : Ev gd σ y (.int k i)) (hi : gd = true → i = (j : Int)) (hj : gd = true → j < s.size) (hY : optA o.guard gd (.int .u8 (byteAt s j)) = Y)
    (hr : ARun P ops n QQ l (ks ++ [.pure]) (putS σ d Y) H) : ARun P ops n QQ (o :: l) ks σ H := by
  refine ARun.same hd hn hG hY (fun hg a W β hl => ⟨.int .u8 (byteAt s j), ?_, .int _ _⟩) hr
  have h0 := (hx.rep hg hl (by simp [ho, Op.operands])).str_inv
  have h1 := (hy.rep hg hl (by simp [ho, Op.operands])).int_inv
  have hij := hi hg
  have hjx := hj hg
  subst hij
  have hb : byteAt s j = (s[j].toNat : Int) := by
    unfold byteAt
    rw [List.getD, List.getElem?_eq_getElem (by simpa using hjx)]; rfl
  rw [hb]
  simp [execOp, ho, h0, h1, Instr.index, asIntOf, run_underlying hu, hjx]
/-- &p.f where nobody writes -/
theorem ARun.fieldPe {x : Operand} {s : TypeId} {f fo fs : Nat} {fields : Array Field} {fld : Field} {cs C : List AV} {Y : AV} {d : Option Tmp} (ho : o.op = .fieldAddr s x f) (hd : o.dst = d) (hn : dstLt n d = true) (hG : gdS ops σ o.guard = some gd)
    (hu : P.underlying s = some (.struct fields)) (hf : fields[f]? = some fld) (hfo : fld.offset = fo) (hz : Sz P fld.type fs) (hfs : fs ≠ 0)
    (hx : Ev gd σ x (.pe cs)) (hC : (cs.drop fo).take fs = C) (hY : optA o.guard gd (.pe C) = Y)
    (hr : ARun P ops n QQ l (ks ++ [.pure]) (putS σ d Y) H) : ARun P ops n QQ (o :: l) ks σ H := by
  refine ARun.same hd hn hG hY (fun hg a W β hl => ?_) hr
  have h0 := hx.rep hg hl (by simp [ho, Op.operands])
  generalize hv : a.eval x = v at h0
  subst hC
  cases h0 with
  | pe b off _ hb hS hdd h =>
    have hget : ∀ q y, ((cs.drop fo).take fs)[q]? = some y → cs[fo + q]? = some y := by
      intro q y hq
      rw [List.getElem?_take] at hq
      split at hq
      · rw [List.getElem?_drop] at hq; exact hq
      · cases hq
    refine ⟨.pointer (some ⟨b, off + fo, none⟩), ?_, .pe b _ _ hb hS (fun q y hq => ?_) (fun q y u hq hu2 => ?_)⟩
    · simp [execOp, ho, hv, Instr.fieldAt, run_underlying hu, hf, Instr.sureAddr, fieldPlace, hz.run, hfs, aadd, hfo]
    · rw [Nat.add_assoc]; exact hdd _ y (hget q y hq)
    · rw [Nat.add_assoc] at hu2; exact h _ y u (hget q y hq) hu2
/-- a plain value where nobody writes -/
theorem ARun.loadPe {x : Operand} {t : TypeId} {u : TypeDesc} {cs : List AV} {X Y : AV} {d : Option Tmp} (ho : o.op = .load t x) (hd : o.dst = d) (hn : dstLt n d = true) (hG : gdS ops σ o.guard = some gd)
    (hu : P.underlying t = some u) (hA : isA u = false)
    (hx : Ev gd σ x (.pe cs)) (hC : cs[0]? = some X) (hY : optA o.guard gd X = Y)
    (hr : ARun P ops n QQ l (ks ++ [.pure]) (putS σ d Y) H) : ARun P ops n QQ (o :: l) ks σ H := by
  refine ARun.same hd hn hG hY (fun hg a W β hl => ?_) hr
  have h0 := hx.rep hg hl (by simp [ho, Op.operands])
  generalize hv : a.eval x = v at h0
  cases h0 with
  | pe b off _ hb hS hdd h =>
    obtain ⟨u2, hu2⟩ := hdd 0 X hC
    refine ⟨u2, ?_, h 0 X u2 hC hu2⟩
    rw [Nat.add_zero] at hu2
    have h3 : (loadVar t ⟨b, off, none⟩).run P W = .ok u2 W := by
      simp only [loadVar, Sem.run_bind, isAgg_run hu, hA]
      simp [hu2]
    simp [execOp, ho, hv, Instr.loadAt, Instr.sureAddr, h3]
theorem cells_list (w : World) (b off : Nat) : ∀ (cs : List AV) (β : List Hd), (∀ (j : Nat) (y : AV), cs[j]? = some y → ∃ u, w.cell? ⟨b, off + j, none⟩ = some u) → (∀ (j : Nat) (y : AV) (u : Value), cs[j]? = some y → w.cell? ⟨b, off + j, none⟩ = some u → VRep β w u y) →
    ∃ vs : List Value, vs.length = cs.length ∧ (∀ (j : Nat) (u : Value), vs[j]? = some u → w.cell? ⟨b, off + j, none⟩ = some u) ∧ ∀ (j : Nat) (u : Value) (x : AV), vs[j]? = some u → cs[j]? = some x → VRep β w u x := by
  intro cs β hd h
  refine ⟨(List.range cs.length).map fun j => (w.cell? ⟨b, off + j, none⟩).getD undef, by simp, fun j u hj => ?_, fun j u x hj hx => ?_⟩
  · simp only [List.getElem?_map, Option.map_eq_some_iff] at hj
    obtain ⟨q, hq, rfl⟩ := hj
    have hlt : j < cs.length := by have := (List.getElem?_eq_some_iff.1 hq).1; simpa using this
    rw [List.getElem?_range hlt] at hq
    cases hq
    obtain ⟨u, hu⟩ := hd j _ (List.getElem?_eq_getElem hlt)
    rw [hu]; rfl
  · simp only [List.getElem?_map, Option.map_eq_some_iff] at hj
    obtain ⟨q, hq, rfl⟩ := hj
    have hlt : j < cs.length := by have := (List.getElem?_eq_some_iff.1 hq).1; simpa using this
    rw [List.getElem?_range hlt] at hq
    cases hq
    obtain ⟨u, hu⟩ := hd j _ hx
    rw [hu]; exact h j x u hx hu
/-- a struct where nobody writes -/
theorem ARun.loadPeA {x : Operand} {t : TypeId} {u : TypeDesc} {cs : List AV} {z : Nat} {Y : AV} {d : Option Tmp} (ho : o.op = .load t x) (hd : o.dst = d) (hn : dstLt n d = true) (hG : gdS ops σ o.guard = some gd)
    (hu : P.underlying t = some u) (hA : isA u = true) (hz : Sz P t z)
    (hx : Ev gd σ x (.pe cs)) (hC : cs.length = z) (hY : optA o.guard gd (.agg cs) = Y)
    (hr : ARun P ops n QQ l (ks ++ [.pure]) (putS σ d Y) H) : ARun P ops n QQ (o :: l) ks σ H := by
  refine ARun.same hd hn hG hY (fun hg a W β hl => ?_) hr
  have h0 := hx.rep hg hl (by simp [ho, Op.operands])
  generalize hv : a.eval x = v at h0
  cases h0 with
  | pe b off _ hb hS hdd h =>
    obtain ⟨vs, h1, h2, h3⟩ := cells_list W b off cs β hdd h
    refine ⟨.agg vs.toArray, ?_, .agg _ _ (by simpa using h1) (fun j u y hj hy => h3 j u y (by simpa using hj) hy)⟩
    have h4 : (loadVar t ⟨b, off, none⟩).run P W = .ok (.agg vs.toArray) W := by
      simp only [loadVar, Sem.run_bind, isAgg_run hu, hA, if_true]
      have h5 := run_loadCells_list (P := P) (w := W) ⟨b, off, none⟩ vs (fun j u hj => by rw [aadd]; exact h2 j u hj)
      rw [← hC, ← h1] at hz
      simp [hz.run, h5]
    simp [execOp, ho, hv, Instr.loadAt, Instr.sureAddr, h4]
end
end Go.Proofs.Ytopmppnnihdnaaa
