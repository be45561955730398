/- The abstract machine: variables at zero, results, entries. -/
import Derived.Test.YtopmppnnihdnaaaAmRow
namespace Go.Proofs.Ytopmppnnihdnaaa
set_option linter.unusedVariables false
set_option linter.unusedSimpArgs false
open Go.RowKit
section
variable {P : Program} {ops : Array Oper} {n m : Nat} {QQ : List Kd → Sl → List AO → Prop} {l : List Oper} {ks : List Kd} {σ : Sl} {G L H : List AO} {o : Oper} {gd : Bool}
theorem cAV_plainC (v : Value) : (cAV v).plainC = true := by unfold cAV; split <;> rfl
/-- a variable at its zero -/
theorem ARun.alloc {t : TypeId} {j : Nat} {zv : Value} {C : List AV} {Y : AV} {d : Option Tmp} (hm : GOK m G) (hj : L.length = j) (ho : o.op = .alloc t) (hd : o.dst = d) (hn : dstLt n d = true) (hg : gdS ops σ o.guard = some true)
    (hz : Zv P t zv) (hC : zv.cells.toList.map cAV = C) (hY : optA o.guard true (.box (m + j) 0) = Y)
    (hr : ARun P ops n QQ l (ks ++ [.new]) (putS σ d Y) (G ++ (L ++ [.box C]))) : ARun P ops n QQ (o :: l) ks σ (G ++ L) := by
  refine ARun.new (E := [.box C]) hd hn hg hY (fun H0 hl0 a W β hHr hl => ?_) (by rw [List.append_assoc]; exact hr)
  subst hC
  have hb : Below W.heap.size W (W.alloc (.cells zv.cells t)) := (Below.refl _ _).alloc (Nat.le_refl _) _
  have hsn := hHr.snoc (w' := W.alloc (.cells zv.cells t)) hb (x := .box W.heap.size) (o := .box (zv.cells.toList.map cAV)) ⟨zv.cells, t, heap_alloc_new W _, by simp, fun q u y h1 h2 => by
    rw [List.getElem?_map, Array.getElem?_toList, h1] at h2
    cases h2; exact cAV_rep _ _ _, List.all_eq_true.2 fun y hy => by
    obtain ⟨v, _, rfl⟩ := List.mem_map.1 hy
    exact cAV_plainC v⟩ (fun b hb => by simp [Hd.blks] at hb; omega)
  have hlen : β.length = m + j := by rw [hHr.len, hl0, List.length_append, hm.1, hj]
  refine ⟨.pointer (some ⟨W.heap.size, 0, none⟩), _, β ++ [.box W.heap.size], ?_, hsn.1, hsn.2, .box _ _ _ (by rw [List.length_append, hlen]; simp) fun x b hb hcb => ?_⟩
  · simp [execOp, ho, Instr.alloc, hz.run, newVar, newRow]
  · rw [List.getElem?_append_right (by omega), hlen, Nat.sub_self] at hb
    cases hb; cases hcb; rfl
/-- a builder at its zero, or a struct that begins with one -/
theorem ARun.allocBld {t e : TypeId} {j : Nat} {zv : Value} {C : List AV} {Y : AV} {d : Option Tmp} (hm : GOK m G) (hj : L.length = j) (ho : o.op = .alloc t) (hd : o.dst = d) (hn : dstLt n d = true) (hg : gdS ops σ o.guard = some true)
    (hz : Zv P t zv) (hk : zv.cells[0]? = some (.pointer none)) (hk1 : zv.cells[1]? = some (.slice none 0 0)) (hC : ((zv.cells.toList.map cAV).set 0 (.adr t)).set 1 (.buf e ⟨#[]⟩) = C) (hY : optA o.guard true (.box (m + j) 0) = Y)
    (hr : ARun P ops n QQ l (ks ++ [.new]) (putS σ d Y) (G ++ (L ++ [.box C]))) : ARun P ops n QQ (o :: l) ks σ (G ++ L) := by
  refine ARun.new (E := [.box C]) hd hn hg hY (fun H0 hl0 a W β hHr hl => ?_) (by rw [List.append_assoc]; exact hr)
  subst hC
  have hkl : 0 < zv.cells.size := (Array.getElem?_eq_some_iff.1 hk).1
  have hkl1 : 1 < zv.cells.size := (Array.getElem?_eq_some_iff.1 hk1).1
  have hb : Below W.heap.size W (W.alloc (.cells zv.cells t)) := (Below.refl _ _).alloc (Nat.le_refl _) _
  have hsn := hHr.snoc (w' := W.alloc (.cells zv.cells t)) hb (x := .bld W.heap.size (.slice none 0 0)) (o := .box (((zv.cells.toList.map cAV).set 0 (.adr t)).set 1 (.buf e ⟨#[]⟩))) ⟨zv.cells, t, heap_alloc_new W _, by simp, fun q u y h1 h2 => by
    by_cases e1 : 1 = q
    · subst e1
      rw [List.getElem?_set_self (by simp; omega)] at h2
      cases h2; exact .buf _ _ _
    · rw [List.getElem?_set_ne e1] at h2
      by_cases e2 : 0 = q
      · subst e2
        rw [List.getElem?_set_self (by simp; omega)] at h2
        cases h2; exact .adr _ _
      · rw [List.getElem?_set_ne e2, List.getElem?_map, Array.getElem?_toList, h1] at h2
        cases h2; exact cAV_rep _ _ _,
    e, ⟨#[]⟩, by rw [List.getElem?_set_ne (by omega), List.getElem?_set_self (by simp; omega)], by rw [List.getElem?_set_self (by simp; omega)], hk1, .inl hk, World.ownsRow_nil _ 0 e 1, by simp [Value.ownBlock], fun _ => rfl⟩ (fun b hb => by simp [Hd.blks, Value.ownBlock] at hb; omega)
  have hlen : β.length = m + j := by rw [hHr.len, hl0, List.length_append, hm.1, hj]
  refine ⟨.pointer (some ⟨W.heap.size, 0, none⟩), _, β ++ [.bld W.heap.size (.slice none 0 0)], ?_, hsn.1, hsn.2, .box _ _ _ (by rw [List.length_append, hlen]; simp) fun x b hb hcb => ?_⟩
  · simp [execOp, ho, Instr.alloc, hz.run, newVar, newRow]
  · rw [List.getElem?_append_right (by omega), hlen, Nat.sub_self] at hb
    cases hb; cases hcb; rfl
/-- a nil check that passes -/
theorem ARun.nilPe {x : Operand} {cs : List AV} {Y : AV} {d : Option Tmp} (ho : o.op = .nilCheck x) (hd : o.dst = d) (hn : dstLt n d = true) (hG : gdS ops σ o.guard = some gd)
    (hx : Ev gd σ x (.pe cs)) (hY : optA o.guard gd (.pe cs) = Y)
    (hr : ARun P ops n QQ l (ks ++ [.pure]) (putS σ d Y) H) : ARun P ops n QQ (o :: l) ks σ H := by
  refine ARun.same hd hn hG hY (fun hg a W β hl => ⟨a.eval x, ?_, hx.rep hg hl (by simp [ho, Op.operands])⟩) hr
  have h0 := hx.rep hg hl (by simp [ho, Op.operands])
  generalize hv : a.eval x = v at h0
  cases h0; simp [execOp, ho, hv]
theorem ARun.nilFn {x : Operand} {f : FuncId} {fs cs : List AV} {Y : AV} {d : Option Tmp} (ho : o.op = .nilCheck x) (hd : o.dst = d) (hn : dstLt n d = true) (hG : gdS ops σ o.guard = some gd)
    (hx : Ev gd σ x (.fn (.func f) fs cs)) (hY : optA o.guard gd (.fn (.func f) fs cs) = Y)
    (hr : ARun P ops n QQ l (ks ++ [.pure]) (putS σ d Y) H) : ARun P ops n QQ (o :: l) ks σ H := by
  refine ARun.same hd hn hG hY (fun hg a W β hl => ⟨a.eval x, ?_, hx.rep hg hl (by simp [ho, Op.operands])⟩) hr
  have h0 := hx.rep hg hl (by simp [ho, Op.operands])
  generalize hv : a.eval x = v at h0
  cases h0; simp [execOp, ho, hv]
theorem ARun.nilBox {x : Operand} {i off : Nat} {cs : List AV} {Y : AV} {d : Option Tmp} (ho : o.op = .nilCheck x) (hd : o.dst = d) (hn : dstLt n d = true) (hG : gdS ops σ o.guard = some gd)
    (hx : Ev gd σ x (.box i off)) (hH : H[i]? = some (.box cs)) (hY : optA o.guard gd (.box i off) = Y)
    (hr : ARun P ops n QQ l (ks ++ [.pure]) (putS σ d Y) H) : ARun P ops n QQ (o :: l) ks σ H := by
  refine ARun.same hd hn hG hY (fun hg a W β hl => ⟨a.eval x, ?_, hx.rep hg hl (by simp [ho, Op.operands])⟩) hr
  obtain ⟨b, h2, _⟩ := (hx.rep hg hl (by simp [ho, Op.operands])).box_inv
  simp [execOp, ho, h2]
end
theorem getMap {α : Type} [Inhabited α] (f : α → AV) (l : List α) (j : Nat) (h : j < l.length) : (l.map f)[j]? = some (f (l.getD j default)) := by
  rw [List.getElem?_map, List.getElem?_eq_getElem h, List.getD, List.getElem?_eq_getElem h]; rfl
theorem ofNonneg {i : Int} (h : 0 ≤ i) : i = ((i.toNat : Nat) : Int) := by omega
/-! ### structs, the same or not -/
inductive K1 where
  | int | str | bool
deriving DecidableEq
def kindOf (P : Program) (t : TypeId) : Option K1 := match P.underlying t with
  | some (.int _) => some .int
  | some .string => some .str
  | some .bool => some .bool
  | _ => none
def eqAV : K1 → AV → AV → Option Bool
  | .int, .int k i, .int k' j => if k = k' then some (decide (i = j)) else none
  | .str, .str s, .str t => some (decide (s = t))
  | .bool, .bool a, .bool b => some (a == b)
  | _, _, _ => none
def eqL : List K1 → List AV → List AV → Option Bool
  | [], [], [] => some true
  | k :: ks, x :: xs, y :: ys => match eqAV k x y, eqL ks xs ys with
    | some a, some b => some (a && b)
    | _, _ => none
  | _, _, _ => none
def EqOk (P : Program) (t : TypeId) (sh : List K1) : Prop := ∃ fields : Array Field, P.underlying t = some (.struct fields) ∧ P.stoodInHeld t = false ∧ P.eqGuardType P.depth t = false ∧
  (fields.toList.zipIdx.all fun (f, i) => Nat.beq f.offset i && f.name != "_") = true ∧ fields.toList.map (fun f => kindOf P f.type) = sh.map some
theorem part_run {P : Program} {t : TypeId} {k : K1} (h : kindOf P t = some k) {xs : Array Value} {off : Nat} {v : Value} (hv : xs[off]? = some v) (w : World) : (part t xs off).run P w = .ok v w := by
  unfold kindOf at h
  have : ∃ u, P.underlying t = some u ∧ isA u = false := by
    split at h
    · rename_i q hq; exact ⟨_, hq, rfl⟩
    · rename_i hq; exact ⟨_, hq, rfl⟩
    · rename_i hq; exact ⟨_, hq, rfl⟩
    · cases h
  obtain ⟨u, h1, h2⟩ := this
  simp only [part, Sem.run_bind, isAgg_run h1, h2]
  simp [hv]
theorem eqAV_run {P : Program} {t : TypeId} {k : K1} (h : kindOf P t = some k) {β : List Hd} {w : World} {u v : Value} {x y : AV} (hu : VRep β w u x) (hv : VRep β w v y) {r : Bool} (hr : eqAV k x y = some r) (d : Nat) : (Op.equalIn (d + 1) t u v).run P w = .ok r w := by
  unfold kindOf at h
  unfold eqAV at hr
  split at hr
  · rename_i q i q' j
    split at hr
    · rename_i e
      subst e
      cases hr
      obtain rfl := hu.int_inv
      obtain rfl := hv.int_inv
      split at h <;> first | cases h | skip
      rename_i q2 hq
      exact run_equalIn_int w d t _ _ _ _ hq
    · cases hr
  · rename_i a b
    cases hr
    obtain rfl := hu.str_inv
    obtain rfl := hv.str_inv
    split at h <;> first | cases h | skip
    rename_i hq
    rw [run_equalIn_string w d t _ _ hq, toList_beq]
  · rename_i a b
    cases hr
    obtain rfl := hu.bool_inv
    obtain rfl := hv.bool_inv
    split at h <;> first | cases h | skip
    rename_i hq
    exact run_equalIn_bool w d t _ _ hq
  · cases hr
theorem eqFields_run {P : Program} {β : List Hd} {w : World} (d : Nat) (us vs : Array Value) : ∀ (fs : List Field) (sh : List K1) (k : Nat) (xs ys : List AV) (r : Bool), (fs.zipIdx k).all (fun (f, i) => Nat.beq f.offset i && f.name != "_") = true → fs.map (fun f => kindOf P f.type) = sh.map some →
    us.size = k + xs.length → vs.size = k + ys.length →
    (∀ (j : Nat) (u : Value) (x : AV), us[k + j]? = some u → xs[j]? = some x → VRep β w u x) → (∀ (j : Nat) (u : Value) (x : AV), vs[k + j]? = some u → ys[j]? = some x → VRep β w u x) →
    eqL sh xs ys = some r → (Op.eqFields (d + 1) us vs fs).run P w = .ok r w := by
  intro fs
  induction fs with
  | nil =>
    intro sh k xs ys r _ h2 _ _ _ _ h5
    cases sh with
    | cons _ _ => cases h2
    | nil =>
      cases xs <;> cases ys <;> cases h5
      simp [Op.eqFields]
  | cons f fs ih =>
    intro sh k xs ys r h1 h2 hus hvs h3 h4 h5
    cases sh with
    | nil => cases h2
    | cons kd sh =>
      cases xs with
      | nil => cases h5
      | cons x xs =>
        cases ys with
        | nil => cases h5
        | cons y ys =>
          rw [List.map_cons, List.map_cons, List.cons.injEq] at h2
          rw [List.zipIdx_cons, List.all_cons, Bool.and_eq_true, Bool.and_eq_true] at h1
          obtain ⟨⟨e1, e2⟩, e3⟩ := h1
          have e1 := Nat.eq_of_beq_eq_true e1
          have e2 : f.name ≠ "_" := by simpa using e2
          unfold eqL at h5
          split at h5
          · rename_i ra rb q1 q2
            cases h5
            have hku : us[k]? = some (us[k]'(by simp at hus; omega)) := Array.getElem?_eq_getElem (by simp at hus; omega)
            have hkv : vs[k]? = some (vs[k]'(by simp at hvs; omega)) := Array.getElem?_eq_getElem (by simp at hvs; omega)
            have hr1 := eqAV_run h2.1 (h3 0 _ x (by rw [Nat.add_zero]; exact hku) rfl) (h4 0 _ y (by rw [Nat.add_zero]; exact hkv) rfl) q1 d
            have hrest := ih sh (k + 1) xs ys rb e3 h2.2 (by simp at hus; omega) (by simp at hvs; omega)
              (fun j u z a b => h3 (j + 1) u z (by rw [← a]; congr 1; omega) (by simpa using b)) (fun j u z a b => h4 (j + 1) u z (by rw [← a]; congr 1; omega) (by simpa using b)) q2
            simp only [Op.eqFields, e2, ne_eq, not_false_eq_true, if_true, Sem.run_bind, part_run h2.1 (show us[f.offset]? = some _ by rw [e1]; exact hku), part_run h2.1 (show vs[f.offset]? = some _ by rw [e1]; exact hkv), Result.andThen_ok, hr1]
            cases ra
            · simp
            · simpa using hrest
          · cases h5
section
variable {P : Program} {ops : Array Oper} {n m : Nat} {QQ : List Kd → Sl → List AO → Prop} {l : List Oper} {ks : List Kd} {σ : Sl} {G L H : List AO} {o : Oper} {gd : Bool}
theorem ARun.eqAgg {bo : BinOp} {x y : Operand} {t1 t2 : TypeId} {sh : List K1} {xs ys : List AV} {b r : Bool} {Y : AV} {d : Option Tmp} (ho : o.op = .binOp bo t1 x y t2) (hd : o.dst = d) (hn : dstLt n d = true) (hG : gdS ops σ o.guard = some gd)
    (hE : EqOk P t1 sh) (hx : Ev gd σ x (.agg xs)) (hy : Ev gd σ y (.agg ys)) (he : eqL sh xs ys = some b) (hb : bo = .eql ∧ r = b ∨ bo = .neq ∧ r = !b) (hY : optA o.guard gd (.bool r) = Y)
    (hr : ARun P ops n QQ l (ks ++ [.pure]) (putS σ d Y) H) : ARun P ops n QQ (o :: l) ks σ H := by
  refine ARun.same hd hn hG hY (fun hg a W β hl => ⟨.bool r, ?_, .bool _⟩) hr
  obtain ⟨fields, hu, hst, hgt, hz, hm⟩ := hE
  have h1 := hx.rep hg hl (by simp [ho, Op.operands])
  have h2 := hy.rep hg hl (by simp [ho, Op.operands])
  generalize hvx : a.eval x = u at h1
  generalize hvy : a.eval y = v at h2
  cases h1 with
  | agg us _ hl1 k1 =>
    cases h2 with
    | agg vs _ hl2 k2 =>
      have hf := eqFields_run (P := P) (β := β) (w := W) 9998 us vs fields.toList sh 0 xs ys b hz hm (by omega) (by omega) (fun j u x p q => k1 j u x (by simpa using p) q) (fun j u x p q => k2 j u x (by simpa using p) q) he
      have hfo : P.fieldsOf t1 = fields := by unfold Program.fieldsOf; rw [hu]
      have heq : (Op.equal t1 (.agg us) (.agg vs)).run P W = .ok b W := by
        have := run_equalIn_agg (P := P) W 9999 t1 us vs (by rw [hfo]; exact hu) hst
        unfold Op.equal Op.maxDepth
        rw [this, hfo]; exact hf
      rcases hb with ⟨rfl, rfl⟩ | ⟨rfl, rfl⟩ <;> simp [execOp, ho, hvx, hvy, run_eqGuard_agg W _ t1 x y us vs hgt, binOp, heq]
theorem ARun.cmpB {bo : BinOp} {x y : Operand} {t1 t2 : TypeId} {i j r : Bool} {Y : AV} {d : Option Tmp} (ho : o.op = .binOp bo t1 x y t2) (hd : o.dst = d) (hn : dstLt n d = true) (hG : gdS ops σ o.guard = some gd)
    (hu : P.underlying t1 = some .bool) (hx : Ev gd σ x (.bool i)) (hy : Ev gd σ y (.bool j)) (he : cmpB bo i j = some r) (hY : optA o.guard gd (.bool r) = Y)
    (hr : ARun P ops n QQ l (ks ++ [.pure]) (putS σ d Y) H) : ARun P ops n QQ (o :: l) ks σ H := by
  refine ARun.same hd hn hG hY (fun hg a W β hl => ⟨.bool r, ?_, .bool _⟩) hr
  have h1 := (hx.rep hg hl (by simp [ho, Op.operands])).bool_inv
  have h2 := (hy.rep hg hl (by simp [ho, Op.operands])).bool_inv
  cases bo <;> cases he <;> simp [execOp, ho, h1, h2, eqGuard, binOp, run_equal_bool W t1 _ _ hu, bne]
theorem ARun.convI {t1 t2 : TypeId} {x : Operand} {k k2 : IntKind} {i r : Int} {Y : AV} {d : Option Tmp} (ho : o.op = .convert t1 t2 x) (hd : o.dst = d) (hn : dstLt n d = true) (hG : gdS ops σ o.guard = some gd)
    (hu1 : P.underlying t1 = some (.int k)) (hu2 : P.underlying t2 = some (.int k2)) (hx : Ev gd σ x (.int k i)) (hw : gd = true → k2.wrap i = r) (hY : optA o.guard gd (.int k2 r) = Y)
    (hr : ARun P ops n QQ l (ks ++ [.pure]) (putS σ d Y) H) : ARun P ops n QQ (o :: l) ks σ H := by
  refine ARun.same hd hn hG hY (fun hg a W β hl => ⟨.int k2 r, ?_, .int _ _⟩) hr
  have h1 := (hx.rep hg hl (by simp [ho, Op.operands])).int_inv
  rw [← hw hg]
  simp [execOp, ho, h1, convert, run_underlying hu1, run_underlying hu2, Conv.intToInt]
theorem ARun.fieldAgg {x : Operand} {s : TypeId} {f fo : Nat} {fields : Array Field} {fld : Field} {cs : List AV} {u : TypeDesc} {X Y : AV} {d : Option Tmp} (ho : o.op = .field s x f) (hd : o.dst = d) (hn : dstLt n d = true) (hG : gdS ops σ o.guard = some gd)
    (hu : P.underlying s = some (.struct fields)) (hf : fields[f]? = some fld) (hfo : fld.offset = fo) (hft : P.underlying fld.type = some u) (hA : isA u = false)
    (hx : Ev gd σ x (.agg cs)) (hC : cs[fo]? = some X) (hY : optA o.guard gd X = Y)
    (hr : ARun P ops n QQ l (ks ++ [.pure]) (putS σ d Y) H) : ARun P ops n QQ (o :: l) ks σ H := by
  refine ARun.same hd hn hG hY (fun hg a W β hl => ?_) hr
  have h0 := hx.rep hg hl (by simp [ho, Op.operands])
  generalize hv : a.eval x = v at h0
  cases h0 with
  | agg vs _ hl2 h =>
    have hlt : fo < vs.size := by rw [hl2]; exact (List.getElem?_eq_some_iff.1 hC).1
    refine ⟨vs[fo], ?_, h fo _ _ (Array.getElem?_eq_getElem hlt) hC⟩
    have hp : (part fld.type vs fo).run P W = .ok vs[fo] W := by
      simp only [part, Sem.run_bind, isAgg_run hft, hA]
      simp [hlt]
    simp [execOp, ho, hv, Instr.field, run_underlying hu, hf, hfo, asAgg, hp]
end
/-! ### results -/
inductive RV1 (P : Program) (σ : Sl) (H : List AO) : ResultVar → AV → Prop where
  | tmp {t : Nat} {X : AV} (h : look σ t = some X) : RV1 P σ H (.tmp t) X
  | cell {a : Nat} {t : TypeId} {i off : Nat} {cs : List AV} {u : TypeDesc} {X : AV} (h : look σ a = some (.box i off)) (hH : H[i]? = some (.box cs)) (hu : P.underlying t = some u) (hA : isA u = false) (hC : cs[off]? = some X) : RV1 P σ H (.cell a t) X
  | cellA {a : Nat} {t : TypeId} {i off z : Nat} {cs C : List AV} {u : TypeDesc} (h : look σ a = some (.box i off)) (hH : H[i]? = some (.box cs)) (hu : P.underlying t = some u) (hA : isA u = true) (hz : Sz P t z) (hC : (cs.drop off).take z = C) (hl : C.length = z) : RV1 P σ H (.cell a t) (.agg C)
inductive RVs (P : Program) (σ : Sl) (H : List AO) : List ResultVar → List AV → Prop where
  | nil : RVs P σ H [] []
  | cons {r : ResultVar} {X : AV} {rs : List ResultVar} {Xs : List AV} (h : RV1 P σ H r X) (t : RVs P σ H rs Xs) : RVs P σ H (r :: rs) (X :: Xs)
def runRes (a : Act) : ResultVar → Sem Value
  | .tmp t => pure (a.tmps.getD t undef)
  | .cell b t => do loadVar t (← asAddr (a.tmps.getD b undef))
theorem RV1.run {P : Program} {σ : Sl} {H : List AO} {r : ResultVar} {X : AV} (h : RV1 P σ H r X) {β : List Hd} {a : Act} {W : World} (hH : HRel β H W) (hs : SRep β W a σ) : ∃ v, (runRes a r).run P W = .ok v W ∧ VRep β W v X := by
  have hget : ∀ t X, look σ t = some X → VRep β W (a.tmps.getD t undef) X := by
    intro t X h
    obtain ⟨u, h1, h2⟩ := hs t X h
    have : a.tmps.getD t undef = u := by rw [Array.getD_eq_getD_getElem?, h1]; rfl
    rw [this]; exact h2
  cases h with
  | tmp h => exact ⟨_, rfl, hget _ _ h⟩
  | cell h hi hu hA hC =>
    rename_i ad t i off cs u
    obtain ⟨b, arr, T, h1, h2, h3, h4, h5⟩ := (hget _ _ h).box_at hH hi
    have hlt : off < arr.size := by rw [h4]; exact (List.getElem?_eq_some_iff.1 hC).1
    have hc : W.cell? ⟨b, off, none⟩ = some arr[off] := by simp [World.cell?, h3, hlt]
    refine ⟨arr[off], ?_, h5 off _ _ (Array.getElem?_eq_getElem hlt) hC⟩
    have h6 : (loadVar t ⟨b, off, none⟩).run P W = .ok arr[off] W := by
      simp only [loadVar, Sem.run_bind, isAgg_run hu, hA]
      simp [hc]
    simp only [runRes, h2]
    simp [asAddr, h6]
  | cellA h hi hu hA hz hC hl =>
    rename_i ad t i off z cs C u
    obtain ⟨b, arr, T, h1, h2, h3, h4, h5⟩ := (hget _ _ h).box_at hH hi
    subst hC
    have hget2 : ∀ q y, ((cs.drop off).take z)[q]? = some y → cs[off + q]? = some y := by
      intro q y hq
      rw [List.getElem?_take] at hq
      split at hq
      · rw [List.getElem?_drop] at hq; exact hq
      · cases hq
    have hcell : ∀ q y, ((cs.drop off).take z)[q]? = some y → ∃ u, arr[off + q]? = some u ∧ W.cell? ⟨b, off + q, none⟩ = some u := by
      intro q y hq
      have hlt : off + q < arr.size := by rw [h4]; exact (List.getElem?_eq_some_iff.1 (hget2 q y hq)).1
      exact ⟨_, Array.getElem?_eq_getElem hlt, by simp [World.cell?, h3, hlt]⟩
    obtain ⟨vs, k1, k2, k3⟩ := cells_list W b off ((cs.drop off).take z) β (fun q y hq => by obtain ⟨u, _, h⟩ := hcell q y hq; exact ⟨u, h⟩) (fun q y u hq hu2 => by
      obtain ⟨u', e1, e2⟩ := hcell q y hq
      rw [e2] at hu2; cases hu2
      exact h5 _ _ _ e1 (hget2 q y hq))
    refine ⟨.agg vs.toArray, ?_, .agg _ _ (by simpa using k1) (fun j u y hj hy => k3 j u y (by simpa using hj) hy)⟩
    have h6 : (loadVar t ⟨b, off, none⟩).run P W = .ok (.agg vs.toArray) W := by
      simp only [loadVar, Sem.run_bind, isAgg_run hu, hA, if_true]
      have h7 := run_loadCells_list (P := P) (w := W) ⟨b, off, none⟩ vs (fun j u hj => by rw [aadd]; exact k2 j u hj)
      rw [← hl, ← k1] at hz
      simp [hz.run, h7]
    simp only [runRes, h2]
    simp [asAddr, h6]
theorem RVs.run {P : Program} {σ : Sl} {H : List AO} {β : List Hd} {a : Act} {W : World} (hH : HRel β H W) (hs : SRep β W a σ) : ∀ {rs : List ResultVar} {Xs : List AV}, RVs P σ H rs Xs →
    ∃ vs : List Value, (rs.mapM (runRes a)).run P W = .ok vs W ∧ vs.length = Xs.length ∧ ∀ (j : Nat) (u : Value) (x : AV), vs[j]? = some u → Xs[j]? = some x → VRep β W u x := by
  intro rs Xs h
  induction h with
  | nil => exact ⟨[], by simp, rfl, fun j u x h => by simp at h⟩
  | cons h t ih =>
    obtain ⟨v, h1, h2⟩ := h.run hH hs
    obtain ⟨vs, k1, k2, k3⟩ := ih
    refine ⟨v :: vs, by simp [h1, k1], by simp [k2], fun j u x p q => ?_⟩
    cases j with
    | zero => simp at p q; subst p; subst q; exact h2
    | succ j => exact k3 j u x (by simpa using p) (by simpa using q)
theorem results_eq (fn : Func) (a : Act) : results fn a.tmps = (do let vs ← fn.results.mapM (runRes a); pure (if h : vs.size = 1 then vs[0] else .tuple vs)) := by
  rfl
theorem RVs.len {P : Program} {σ : Sl} {H : List AO} {rs : List ResultVar} {Xs : List AV} (h : RVs P σ H rs Xs) : rs.length = Xs.length := by
  induction h with
  | nil => rfl
  | cons _ _ ih => simp [ih]
theorem Tells.list {P : Program} {fn : Func} {β : List Hd} {a : Act} {W : World} {σ : Sl} {H : List AO} {rs : List ResultVar} {Xs : List AV} (hH : HRel β H W) (hs : SRep β W a σ) (hr : fn.results = rs.toArray) (h : RVs P σ H rs Xs) (h1 : Xs.length ≠ 1) : Tells P fn β a W (.tup Xs) := by
  obtain ⟨vs, k1, k2, k3⟩ := h.run hH hs
  refine ⟨.tuple vs.toArray, ?_, .tup _ _ (by simpa using k2) (fun j u x p q => k3 j u x (by simpa using p) q)⟩
  rw [results_eq, hr]
  have hne : ¬ vs.length = 1 := by rw [k2]; exact h1
  simp [k1, hne]
theorem Tells.single {P : Program} {fn : Func} {β : List Hd} {a : Act} {W : World} {σ : Sl} {H : List AO} {r : ResultVar} {X : AV} (hH : HRel β H W) (hs : SRep β W a σ) (hr : fn.results = #[r]) (h : RV1 P σ H r X) : Tells P fn β a W X := by
  obtain ⟨v, k1, k2⟩ := h.run hH hs
  refine ⟨v, ?_, k2⟩
  rw [results_eq, hr]
  simp [k1]
/-- the end, told -/
theorem endF.many {P : Program} {fn : Func} {Xs Xs' : List AV} {σ : Sl} {G L : List AO} {rs : List ResultVar} {e : Exit} (he : e = .normal ∨ e = .ret) (hr : fn.results = rs.toArray) (h : RVs P σ (G ++ L) rs Xs) (h1 : Xs.length ≠ 1) (hX : Xs = Xs') (hn : NoH G.length (.tup Xs')) : endF P fn (.tup Xs') G e σ G L := by
  subst hX
  exact ⟨he, rfl, hn, fun β a W hH hs => Tells.list hH hs hr h h1⟩
theorem endF.one {P : Program} {fn : Func} {X X' : AV} {σ : Sl} {G L : List AO} {r : ResultVar} {e : Exit} (he : e = .normal ∨ e = .ret) (hr : fn.results = #[r]) (h : RV1 P σ (G ++ L) r X) (hX : X = X') (hn : NoH G.length X') : endF P fn X' G e σ G L := by
  subst hX
  exact ⟨he, rfl, hn, fun β a W hH hs => Tells.single hH hs hr h⟩
end Go.Proofs.Ytopmppnnihdnaaa
