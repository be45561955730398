/- The abstract machine: what is made. -/
import Derived.Test.YtopmppnnihdnaaaAmBox
namespace Go.Proofs.Ytopmppnnihdnaaa
set_option linter.unusedVariables false
set_option linter.unusedSimpArgs false
open Go.RowKit
/-- a type's zero -/
def Zv (P : Program) (t : TypeId) (v : Value) : Prop := (P.info? t).map (·.zero) = some (some v)
theorem Zv.run {P : Program} {t : TypeId} {v : Value} (h : Zv P t v) (w : World) : (zeroValue t).run P w = .ok v w := by
  unfold Zv at h
  cases hi : P.info? t with
  | none => rw [hi] at h; cases h
  | some i =>
    rw [hi] at h
    have hz : i.zero = some v := by simpa using h
    simp [zeroValue, typeInfo, hi, hz]
inductive EvP (gd : Bool) (σ : Sl) : List (Nat × Operand) → List (Nat × AV) → Prop where
  | nil : EvP gd σ [] []
  | cons {i : Nat} {x : Operand} {X : AV} {l : List (Nat × Operand)} {m : List (Nat × AV)} (h : Ev gd σ x X) (t : EvP gd σ l m) : EvP gd σ ((i, x) :: l) ((i, X) :: m)
inductive EvL (gd : Bool) (σ : Sl) : List Operand → List AV → Prop where
  | nil : EvL gd σ [] []
  | cons {x : Operand} {X : AV} {l : List Operand} {m : List AV} (h : Ev gd σ x X) (t : EvL gd σ l m) : EvL gd σ (x :: l) (X :: m)
def fillA (pl : Nat → Option (Nat × Nat)) : List AV → List (Nat × AV) → Option (List AV)
  | cs, [] => some cs
  | cs, (i, X) :: r => match pl i with
    | none => none
    | some (off, size) => bif Nat.beq X.cells.length size && Nat.ble (off + size) cs.length then fillA pl (cs.take off ++ X.cells ++ cs.drop (off + size)) r else none
theorem fold_set (off : Nat) : ∀ (vs : List Value) (k : Nat) (cells : Array Value), off + k + vs.length ≤ cells.size →
    ((vs.zipIdx k).foldl (fun cs (c, j) => cs.setIfInBounds (off + j) c) cells).toList = cells.toList.take (off + k) ++ vs ++ cells.toList.drop (off + k + vs.length) := by
  intro vs
  induction vs with
  | nil => intro k cells _; simp
  | cons v vs ih =>
    intro k cells h
    rw [List.zipIdx_cons, List.foldl_cons]
    have hk : off + k < cells.size := by simp at h; omega
    rw [ih (k + 1) _ (by simp at h ⊢; omega)]
    simp only [Array.toList_setIfInBounds, List.length_cons]
    rw [show off + (k + 1) = off + k + 1 by omega, List.take_succ_eq_append_getElem (by simpa using hk)]
    rw [List.getElem_set_self, List.take_set_of_le (Nat.le_refl _), List.drop_set_of_lt (by omega)]
    rw [show off + k + (vs.length + 1) = off + k + 1 + vs.length by omega]
    simp
/-- what a struct's literal needs to know of its type -/
def StOk (P : Program) (t : TypeId) (zv : Value) (pl : List (Nat × Nat)) : Prop := ∃ fields : Array Field, P.underlying t = some (.struct fields) ∧ Zv P t zv ∧ (fields.toList.all fun f => (P.info? f.type).isSome) = true ∧ fields.toList.map (fun f => (f.offset, P.cellsOf f.type)) = pl
def CRep (β : List Hd) (w : World) (vs : Array Value) (cs : List AV) : Prop := vs.size = cs.length ∧ ∀ (j : Nat) (u : Value) (x : AV), vs[j]? = some u → cs[j]? = some x → VRep β w u x
theorem fill_rep {β : List Hd} {w : World} {gd : Bool} (pl : Nat → Option (Nat × Nat)) {a : Act} {σ : Sl} : ∀ (parts : List (Nat × Operand)) (ps : List (Nat × AV)), EvP gd σ parts ps → (∀ x, x ∈ parts.map (·.2) → ∀ X, Ev gd σ x X → VRep β w (a.eval x) X) →
    (ps.all fun p => shaped p.2) = true → ∀ (vs : Array Value) (cs cs' : List AV), CRep β w vs cs → fillA pl cs ps = some cs' →
    ∃ vs', Instr.fill pl vs (parts.map fun p => (p.1, a.eval p.2)) = some vs' ∧ CRep β w vs' cs' := by
  intro parts ps h
  induction h with
  | nil => intro _ _ vs cs cs' hc hf; cases hf; exact ⟨vs, rfl, hc⟩
  | @cons i x X l m hx ht ih =>
    intro hr hs vs cs cs' hc hf
    rw [List.all_cons, Bool.and_eq_true] at hs
    have h0 := (hr x (by simp) X hx).cells (shaped_spec hs.1)
    unfold fillA at hf
    rw [List.map_cons]
    unfold Instr.fill
    cases hp : pl i with
    | none => rw [hp] at hf; cases hf
    | some os =>
      obtain ⟨off, size⟩ := os
      rw [hp] at hf
      simp only at hf ⊢
      cases hb : Nat.beq X.cells.length size && Nat.ble (off + size) cs.length with
      | false => rw [hb] at hf; cases hf
      | true =>
        rw [hb] at hf
        rw [Bool.and_eq_true] at hb
        have e1 := Nat.eq_of_beq_eq_true hb.1
        have e2 := Nat.le_of_ble_eq_true hb.2
        have hsz : (a.eval x).cells.size = size := by rw [h0.1, e1]
        have hv : vs.size = cs.length := hc.1
        have hsz2 : (a.eval x).cells.toList.length = size := by simpa using hsz
        rw [if_neg (by simp [hsz]; omega)]
        refine ih (fun y hy => hr y (List.mem_cons_of_mem _ hy)) hs.2 _ _ _ ?_ hf
        have hfs := fold_set off (a.eval x).cells.toList 0 vs (by simp [hsz]; omega)
        rw [Nat.add_zero, Array.length_toList, hsz] at hfs
        have hto : ((a.eval x).cells.zipIdx.foldl (fun cs (c, j) => cs.setIfInBounds (off + j) c) vs).toList = vs.toList.take off ++ (a.eval x).cells.toList ++ vs.toList.drop (off + size) := by
          rw [← hfs, ← Array.foldl_toList]; simp
        constructor
        · rw [← Array.length_toList, hto]; simp [hsz, e1]; omega
        · intro q u y hq hy
          rw [← Array.getElem?_toList, hto] at hq
          by_cases q1 : q < off
          · rw [List.append_assoc, List.getElem?_append_left (by rw [List.length_take]; simp; omega), List.getElem?_take_of_lt q1] at hq
            rw [List.append_assoc, List.getElem?_append_left (by rw [List.length_take]; omega), List.getElem?_take_of_lt q1] at hy
            exact hc.2 q u y (by simpa using hq) hy
          · by_cases q2 : q < off + size
            · rw [List.append_assoc, List.getElem?_append_right (by rw [List.length_take]; omega), List.length_take, Array.length_toList, List.getElem?_append_left (by rw [hsz2]; omega)] at hq
              rw [List.append_assoc, List.getElem?_append_right (by rw [List.length_take]; omega), List.length_take, List.getElem?_append_left (by rw [e1]; omega)] at hy
              rw [show min off vs.size = min off cs.length by rw [hv]] at hq
              exact h0.2 _ u y (by simpa using hq) hy
            · rw [List.getElem?_append_right (by rw [List.length_append, List.length_take, hsz2]; simp; omega), List.getElem?_drop, List.length_append, List.length_take, hsz2, Array.length_toList] at hq
              rw [List.getElem?_append_right (by rw [List.length_append, List.length_take, e1]; omega), List.getElem?_drop, List.length_append, List.length_take, e1] at hy
              rw [show min off vs.size = min off cs.length by rw [hv]] at hq
              exact hc.2 _ u y (by simpa using hq) hy
theorem CRep.zero (β : List Hd) (w : World) (vs : Array Value) : CRep β w vs (vs.toList.map cAV) :=
  ⟨by simp, fun j u x h1 h2 => by
    rw [List.getElem?_map, Array.getElem?_toList, h1] at h2
    cases h2; exact cAV_rep _ _ _⟩
def placesOf (P : Program) (fields : List Field) : List (Nat × Nat) := fields.map fun f => (f.offset, P.cellsOf f.type)
theorem places_run {P : Program} {w : World} : ∀ (fields : List Field), (fields.all fun f => (P.info? f.type).isSome) = true →
    (fields.mapM (m := Sem) fun f => do pure (f.offset, ← sizeOf f.type)).run P w = .ok (placesOf P fields) w := by
  intro fields
  induction fields with
  | nil => intro _; simp [placesOf]
  | cons f fields ih =>
    intro h
    rw [List.all_cons, Bool.and_eq_true] at h
    obtain ⟨i, hi⟩ := Option.isSome_iff_exists.1 h.1
    have ih' := ih h.2
    simp [sizeOf, typeInfo, hi, Program.cellsOf] at ih' ⊢
    simp [ih', placesOf, hi, Program.cellsOf]
section
variable {P : Program} {ops : Array Oper} {n m : Nat} {QQ : List Kd → Sl → List AO → Prop} {l : List Oper} {ks : List Kd} {σ : Sl} {G L H : List AO} {o : Oper} {gd : Bool}
theorem EvP.looks {β : List Hd} {W : World} {a : Act} (hg : gd = true) (hl : LRep β W a σ (o.looksAt ops)) {parts : Array (Nat × Operand)} (hp : ∀ x, x ∈ parts.toList.map (·.2) → x ∈ o.op.operands) :
    ∀ x, x ∈ parts.toList.map (·.2) → ∀ X, Ev gd σ x X → VRep β W (a.eval x) X := fun x hx X h => h.rep hg hl (hp x hx)
/-- a struct's literal -/
theorem ARun.build {t : TypeId} {parts : Array (Nat × Operand)} {ps : List (Nat × AV)} {zv : Value} {C : List AV} {Y : AV} {d : Option Tmp} (ho : o.op = .build t parts) (hd : o.dst = d) (hn : dstLt n d = true) (hG : gdS ops σ o.guard = some gd)
    {pl : List (Nat × Nat)} (hst : StOk P t zv pl)
    (hx : EvP gd σ parts.toList ps) (hs : (ps.all fun p => shaped p.2) = true) (hC : fillA (fun i => pl[i]?) (zv.cells.toList.map cAV) ps = some C) (hY : optA o.guard gd (.agg C) = Y)
    (hr : ARun P ops n QQ l (ks ++ [.pure]) (putS σ d Y) H) : ARun P ops n QQ (o :: l) ks σ H := by
  obtain ⟨fields, hu, hz, hi, hpl⟩ := hst
  change placesOf P fields.toList = pl at hpl
  subst hpl
  refine ARun.same hd hn hG hY (fun hg a W β hl => ?_) hr
  obtain ⟨vs', h1, h2⟩ := fill_rep (β := β) (w := W) (a := a) (fun i => (placesOf P fields.toList)[i]?) parts.toList ps hx (EvP.looks hg hl (by simp [ho, Op.operands])) hs zv.cells _ C (CRep.zero _ _ _) hC
  refine ⟨.agg vs', ?_, .agg _ _ h2.1 h2.2⟩
  have h3 := places_run (P := P) (w := W) fields.toList hi
  have h4 : (fields.mapM (m := Sem) fun f => do pure (f.offset, ← sizeOf f.type)).run P W = .ok (placesOf P fields.toList).toArray W := by
    rw [Array.mapM_eq_mapM_toList]
    have h3' : (List.mapM (m := Sem) (fun f : Field => Prod.mk f.offset <$> sizeOf f.type) fields.toList).run P W = .ok (placesOf P fields.toList) W := by simpa using h3
    simp [h3']
  have h4' : (Array.mapM (m := Sem) (fun f : Field => Prod.mk f.offset <$> sizeOf f.type) fields).run P W = .ok (placesOf P fields.toList).toArray W := by simpa using h4
  have h6 : (Instr.build t (parts.map fun (i, x) => (i, a.eval x))).run P W = .ok (.agg vs') W := by
    unfold Instr.build
    simp only [Sem.run_bind, hz.run, run_underlying hu]
    simp [h4', h1]
  simp only [execOp, ho]
  simp [h6]
end
end Go.Proofs.Ytopmppnnihdnaaa
