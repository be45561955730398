/- The abstract machine: variables that lie in memory. -/
import Derived.Test.YtopmppnnihdnaaaAmMem
import Derived.Laws.NewFold
import Derived.Laws.Tables
import Derived.Laws.CopyRow
import Derived.Maps.AppendAt
namespace Go.Proofs.Ytopmppnnihdnaaa
set_option linter.unusedVariables false
set_option linter.unusedSimpArgs false
open Go.RowKit
theorem getElem?_snoc {α : Type} (l : List α) (x : α) (i : Nat) (y : α) (h : (l ++ [x])[i]? = some y) : l[i]? = some y ∨ (i = l.length ∧ y = x) := by
  by_cases hi : i < l.length
  · left; rw [List.getElem?_append_left hi] at h; exact h
  · right
    rw [List.getElem?_append_right (by omega)] at h
    have h2 := (List.getElem?_eq_some_iff.1 h).1
    have e : i - l.length = 0 := by simp at h2; omega
    rw [e] at h
    cases h
    exact ⟨by omega, rfl⟩
/-- a new thing in a new block -/
theorem HRel.snoc {β : List Hd} {H : List AO} {w : World} (h : HRel β H w) {w' : World} (hb : Below w.heap.size w w') {x : Hd} {o : AO} (ho : ORep (β ++ [x]) w' x o) (hx : ∀ b, b ∈ x.blks → w.heap.size ≤ b) :
    Ext β w (β ++ [x]) w' ∧ HRel (β ++ [x]) (H ++ [o]) w' := by
  have hext : Ext β w (β ++ [x]) w' := ⟨hb.os, hb.tape, hb.output, hb.size, fun k hk _ => hb.block k hk, fun k hk hs y hy => by
      rcases List.mem_append.1 hy with hy | hy
      · exact hs y hy
      · simp at hy; subst hy
        intro e; have := hx k e; omega, fun i y hy => ⟨y, by rw [List.getElem?_append_left (List.getElem?_eq_some_iff.1 hy).1]; exact hy, y.to_refl⟩, fun _ b _ _ hlt => hb.block b hlt⟩
  refine ⟨hext, ⟨h.gl.ext hext, by simp [h.len], fun i o' y h1 h2 => ?_, fun i j hi hj b hne h1 h2 h3 => ?_⟩⟩
  · rcases getElem?_snoc _ _ _ _ h1 with h1 | ⟨e1, rfl⟩
    · rcases getElem?_snoc _ _ _ _ h2 with h2 | ⟨e2, _⟩
      · exact (h.ob i o' y h1 h2).ext hext (fun b _ hlt => hb.block b hlt)
      · have := (List.getElem?_eq_some_iff.1 h1).1; rw [e2, h.len] at this; omega
    · rcases getElem?_snoc _ _ _ _ h2 with h2 | ⟨e2, rfl⟩
      · have := (List.getElem?_eq_some_iff.1 h2).1; rw [e1, ← h.len] at this; omega
      · exact ho
  · rcases getElem?_snoc _ _ _ _ h1 with p1 | ⟨e1, e1'⟩ <;> rcases getElem?_snoc _ _ _ _ h2 with p2 | ⟨e2, e2'⟩
    · exact h.ap i j hi hj b hne p1 p2 h3
    · intro e
      have k1 := h.lt p1 h3
      have k2 := hx b (by rw [← e2']; exact e)
      omega
    · intro e
      have k1 := h.lt p2 e
      have k2 := hx b (by rw [← e1']; exact h3)
      omega
    · omega
/-- a thing is written in its own block: the others stay -/
theorem HRel.set {β : List Hd} {H : List AO} {w w' : World} (h : HRel β H w) {i : Nat} {b : Nat} {x : Hd} (hi : β[i]? = some x) (hb : x.cb = some b) {o : AO} (hs : w'.heap.size = w.heap.size) (hos : w'.os = w.os) (htp : w'.tape = w.tape) (hout : w'.output = w.output)
    (hbl : ∀ k, k ≠ b → w'.heap[k]? = w.heap[k]?) (ho : Ext β w β w' → ORep β w' x o) : Ext β w β w' ∧ HRel β (H.set i o) w' := by
  have hm := Hd.cb_mem hb
  have hst : ∀ k, Still β k → k ≠ b := fun k hk e => hk _ (List.mem_of_getElem? hi) (by rw [e]; exact hm)
  have hext : Ext β w β w' := ⟨hos, htp, hout, by omega, fun k hk hs => hbl k (hst k hs), fun k hk hs => hs, fun i y hy => ⟨y, hy, y.to_refl⟩, fun bs b' hb' hm' _ => hbl b' fun e => by
    obtain ⟨j, hj, ej⟩ := List.mem_iff_getElem.1 hb'
    have hj2 : β[j]? = some (.guard bs) := by rw [List.getElem?_eq_getElem hj, ej]
    have hne : i ≠ j := fun e2 => by subst e2; rw [hi] at hj2; cases hj2; cases hb
    exact h.ap i j _ _ b hne hi hj2 hm (by rw [← e]; exact hm')⟩
  refine ⟨hext, ⟨h.gl.ext hext, by simp [h.len], fun j o' y h1 h2 => ?_, h.ap⟩⟩
  by_cases e : i = j
  · subst e
    have hlt : i < H.length := by have := (List.getElem?_eq_some_iff.1 hi).1; rw [h.len] at this; exact this
    rw [List.getElem?_set_self hlt] at h1
    cases h1
    rw [hi] at h2; cases h2
    exact ho hext
  · rw [List.getElem?_set_ne e] at h1
    refine (h.ob j o' y h1 h2).ext hext fun b' hb' _ => hbl b' ?_
    intro e2; subst e2
    exact h.ap i j _ y b' e hi h2 hm hb'
/-- a box, or a builder: where it lies -/
def BoxAt (β : List Hd) (w : World) (i b : Nat) (T : TypeId) (arr : Array Value) (cs : List AV) : Prop := β[i]? = some (.box b) ∨ ∃ v, β[i]? = some (.bld b v) ∧ BldOk w b T arr cs v
theorem BoxAt.lt {β : List Hd} {w : World} {i b : Nat} {T : TypeId} {arr : Array Value} {cs : List AV} (h : BoxAt β w i b T arr cs) : i < β.length := by
  rcases h with h | ⟨v, h, _⟩ <;> exact (List.getElem?_eq_some_iff.1 h).1
theorem BoxAt.is {β : List Hd} {w : World} {i b : Nat} {T : TypeId} {arr : Array Value} {cs : List AV} (h : BoxAt β w i b T arr cs) {x : Hd} {b' : Nat} (hx : β[i]? = some x) (hb : x.cb = some b') : b' = b := by
  rcases h with h | ⟨v, h, _⟩ <;> (rw [h] at hx; cases hx; cases hb; rfl)
theorem plain_take {cs : List AV} {off z : Nat} (h : cs.all AV.plainC = true) : ((cs.drop off).take z).all AV.plainC = true := by
  rw [List.all_eq_true] at h ⊢
  exact fun x hx => h x (List.mem_of_mem_drop (List.mem_of_mem_take hx))
theorem HRel.setB {β : List Hd} {H : List AO} {w w' : World} (h : HRel β H w) {i b : Nat} {T : TypeId} {arr : Array Value} {cs cs' : List AV} (hi : BoxAt β w i b T arr cs) (hat0 : H[i]? = some (.box cs)) (hs : w'.heap.size = w.heap.size) (hos : w'.os = w.os) (htp : w'.tape = w.tape) (hout : w'.output = w.output)
    (hbl : ∀ k, k ≠ b → w'.heap[k]? = w.heap[k]?) (ho : Ext β w β w' → ∃ arr', w'.heap[b]? = some (.cells arr' T (0, 0)) ∧ arr'.size = cs'.length ∧ (∀ (j : Nat) (u : Value) (y : AV), arr'[j]? = some u → cs'[j]? = some y → VRep β w' u y) ∧
      (∀ (k : Nat) (y : AV), cs[k]? = some y → y.plainC = false → arr'[k]? = arr[k]? ∧ cs'[k]? = cs[k]?) ∧ (cs.all AV.plainC = true → cs'.all AV.plainC = true)) : Ext β w β w' ∧ HRel β (H.set i (.box cs')) w' := by
  rcases hi with hi | ⟨v, hi, e, s, k1, k2, k3, k4, k5, k6⟩
  · refine h.set hi rfl hs hos htp hout hbl fun hx => ?_
    obtain ⟨arr', h1, h2, h3, _, h5⟩ := ho hx
    have hold := h.ob i (.box cs) _ hat0 hi
    obtain ⟨_, _, _, _, _, q⟩ := hold
    exact ⟨arr', T, h1, h2, h3, h5 q⟩
  · refine h.set hi rfl hs hos htp hout hbl fun hx => ?_
    obtain ⟨arr', h1, h2, h3, h4, _⟩ := ho hx
    obtain ⟨a1, a2⟩ := h4 0 _ k1 rfl
    obtain ⟨b1, b2⟩ := h4 1 _ k2 rfl
    refine ⟨arr', T, h1, h2, h3, e, s, a2.trans k1, b2.trans k2, b1.trans k3, by rw [a1]; exact k4, ⟨k5.1, ?_⟩, k6⟩
    rcases k5.2 with h4 | ⟨g, cap, cur, h4, h5, h6, h7⟩
    · exact .inl h4
    · refine .inr ⟨g, cap, cur, h4, h5, ?_, h7⟩
      rw [hbl g (fun e => k6.1 (by rw [h4, e]; rfl))]; exact h6
theorem GOK.at {m : Nat} {G : List AO} (h : GOK m G) (L : List AO) (j : Nat) : (G ++ L)[m + j]? = L[j]? := by
  rw [← h.1, List.getElem?_append_right (by omega)]; congr 1; omega
theorem GOK.set {m : Nat} {G : List AO} (h : GOK m G) (L : List AO) (j : Nat) (o : AO) : (G ++ L).set (m + j) o = G ++ L.set j o := by
  rw [← h.1, List.set_append_right _ _ (by omega)]; congr 2; omega
/-- one cell, surely -/
def AV.one : AV → Bool
  | .int _ _ | .bool _ | .str _ | .sl _ | .pe _ | .fn _ _ _ | .ifc _ _ | .box _ _ | .own _ _ => true
  | .raw v => v.oneCell'
  | _ => false
theorem one_plain {X : AV} (h : X.one = true) : X.plainC = true := by cases X <;> first | rfl | cases h
theorem VRep.one {β : List Hd} {W : World} {u : Value} {y : AV} (h : VRep β W u y) (hy : y.one = true) : u.oneCell' = true := by
  cases h <;> first | rfl | exact hy | assumption | cases hy
theorem VRep.cells {β : List Hd} {W : World} {v : Value} {X : AV} (h : VRep β W v X) (hX : (∃ cs, X = .agg cs) ∨ X.one = true) : v.cells.size = X.cells.length ∧ ∀ (q : Nat) (u : Value) (y : AV), v.cells[q]? = some u → X.cells[q]? = some y → VRep β W u y := by
  rcases hX with ⟨cs, rfl⟩ | hX
  · cases h with
    | agg vs _ hl2 h => exact ⟨hl2, h⟩
  · have e : X.cells = [X] := by cases X <;> first | rfl | cases hX
    have hv : v.cells = #[v] := by
      have := h.one hX
      cases v <;> first | rfl | cases this
    rw [hv, e]
    refine ⟨rfl, fun q u y h1 h2 => ?_⟩
    cases q with
    | zero => simp at h1 h2; subst h1; subst h2; exact h
    | succ q => simp at h2
def shaped : AV → Bool
  | .agg _ => true
  | x => x.one
theorem shaped_spec {X : AV} (h : shaped X = true) : (∃ cs, X = .agg cs) ∨ X.one = true := by
  cases X <;> first | exact .inl ⟨_, rfl⟩ | exact .inr h
section
variable {P : Program} {ops : Array Oper} {n m : Nat} {QQ : List Kd → Sl → List AO → Prop} {l : List Oper} {ks : List Kd} {σ : Sl} {G L : List AO} {o : Oper} {gd : Bool}
/-- an operation that only reads what may be written -/
theorem ARun.read {H : List AO} {X Y : AV} {d : Option Tmp} (hd : o.dst = d) (hn : dstLt n d = true) (hG : gdS ops σ o.guard = some gd) (hY : optA o.guard gd X = Y)
    (h : gd = true → ∀ (a : Act) (W : World) (β : List Hd), HRel β H W → LRep β W a σ (o.looksAt ops) → ∃ v, (execOp a.eval o).run P W = .ok (.value v) W ∧ VRep β W v X)
    (hr : ARun P ops n QQ l (ks ++ [.read]) (putS σ d Y) H) : ARun P ops n QQ (o :: l) ks σ H := by
  subst hd; subst hY
  refine ⟨.read, _, H, hn, ⟨rfl, OpStep.val hG (.inr rfl) (fun _ => trivial) fun hg a W β hHr hl => ?_⟩, hr⟩
  obtain ⟨v, h1, h2⟩ := h hg a W β hHr hl
  exact ⟨v, W, β, h1, Ext.refl _ _, hHr, h2⟩
/-- an operation that only reads what may be written, and that new things may stand beside -/
theorem ARun.rd {H : List AO} {X Y : AV} {d : Option Tmp} (hd : o.dst = d) (hn : dstLt n d = true) (hG : gdS ops σ o.guard = some gd) (hY : optA o.guard gd X = Y)
    (h : gd = true → ∀ (E : List AO) (a : Act) (W : World) (β : List Hd), HRel β (H ++ E) W → LRep β W a σ (o.looksAt ops) → ∃ v, (execOp a.eval o).run P W = .ok (.value v) W ∧ VRep β W v X)
    (hr : ARun P ops n QQ l (ks ++ [.rd]) (putS σ d Y) H) : ARun P ops n QQ (o :: l) ks σ H := by
  subst hd; subst hY
  refine ⟨.rd, _, H, hn, ⟨rfl, fun E => OpStep.val hG (.inr rfl) (fun _ => trivial) fun hg a W β hHr hl => ?_⟩, hr⟩
  obtain ⟨v, h1, h2⟩ := h hg E a W β hHr hl
  exact ⟨v, W, β, h1, Ext.refl _ _, hHr, h2⟩
theorem at_ext {H : List AO} {i : Nat} {x : AO} (h : H[i]? = some x) (E : List AO) : (H ++ E)[i]? = some x := by
  rw [List.getElem?_append_left (List.getElem?_eq_some_iff.1 h).1]; exact h
theorem VRep.box_inv {β : List Hd} {W : World} {v : Value} {i off : Nat} (h : VRep β W v (.box i off)) : ∃ b, v = .pointer (some ⟨b, off, none⟩) ∧ ∀ k, VRep β W (.pointer (some ⟨b, k, none⟩)) (.box i k) := by
  cases h with
  | box b _ _ hi h => exact ⟨b, rfl, fun k => .box b i k hi h⟩
theorem VRep.box_at {β : List Hd} {H : List AO} {W : World} {v : Value} {i off : Nat} {cs : List AV} (h : VRep β W v (.box i off)) (hH : HRel β H W) (hi : H[i]? = some (.box cs)) :
    ∃ b arr T, BoxAt β W i b T arr cs ∧ v = .pointer (some ⟨b, off, none⟩) ∧ W.heap[b]? = some (.cells arr T (0, 0)) ∧ arr.size = cs.length ∧ ∀ (j : Nat) (u : Value) (y : AV), arr[j]? = some u → cs[j]? = some y → VRep β W u y := by
  cases h with
  | box b0 _ _ hi2 h =>
    have hg : β[i]? = some β[i] := List.getElem?_eq_getElem hi2
    have ho := hH.ob i _ _ hi hg
    cases hb : β[i] with
    | box b =>
      rw [hb] at ho hg
      obtain ⟨arr, T, h1, h2, h3, _⟩ := ho
      exact ⟨b, arr, T, .inl hg, by rw [h _ b hg rfl], h1, h2, h3⟩
    | bld b v =>
      rw [hb] at ho hg
      obtain ⟨arr, T, h1, h2, h3, h4⟩ := ho
      exact ⟨b, arr, T, .inr ⟨v, hg, h4⟩, by rw [h _ b hg rfl], h1, h2, h3⟩
    | row v g => rw [hb] at ho; exact ho.elim
    | dead => rw [hb] at ho; exact ho.elim
    | guard b => rw [hb] at ho; exact ho.elim
/-- a plain value of a variable -/
theorem ARun.loadBox {H : List AO} {x : Operand} {t : TypeId} {u : TypeDesc} {i off : Nat} {cs : List AV} {X Y : AV} {d : Option Tmp} (ho : o.op = .load t x) (hd : o.dst = d) (hn : dstLt n d = true) (hG : gdS ops σ o.guard = some gd)
    (hu : P.underlying t = some u) (hA : isA u = false)
    (hx : Ev gd σ x (.box i off)) (hH : H[i]? = some (.box cs)) (hC : cs[off]? = some X) (hY : optA o.guard gd X = Y)
    (hr : ARun P ops n QQ l (ks ++ [.rd]) (putS σ d Y) H) : ARun P ops n QQ (o :: l) ks σ H := by
  refine ARun.rd hd hn hG hY (fun hg E a W β hHr hl => ?_) hr
  obtain ⟨b, arr, T, h1, h2, h3, h4, h5⟩ := (hx.rep hg hl (by simp [ho, Op.operands])).box_at hHr (at_ext hH E)
  have hlt : off < arr.size := by rw [h4]; exact (List.getElem?_eq_some_iff.1 hC).1
  have hc : W.cell? ⟨b, off, none⟩ = some arr[off] := by simp [World.cell?, h3, hlt]
  refine ⟨arr[off], ?_, h5 off _ _ (Array.getElem?_eq_getElem hlt) hC⟩
  have h6 : (loadVar t ⟨b, off, none⟩).run P W = .ok arr[off] W := by
    simp only [loadVar, Sem.run_bind, isAgg_run hu, hA]
    simp [hc]
  simp [execOp, ho, h2, Instr.loadAt, Instr.sureAddr, h6]
/-- a struct of a variable -/
theorem ARun.loadBoxA {H : List AO} {x : Operand} {t : TypeId} {u : TypeDesc} {i off z : Nat} {cs C : List AV} {Y : AV} {d : Option Tmp} (ho : o.op = .load t x) (hd : o.dst = d) (hn : dstLt n d = true) (hG : gdS ops σ o.guard = some gd)
    (hu : P.underlying t = some u) (hA : isA u = true) (hz : Sz P t z)
    (hx : Ev gd σ x (.box i off)) (hH : H[i]? = some (.box cs)) (hC : (cs.drop off).take z = C) (hCz : C.length = z) (hY : optA o.guard gd (.agg C) = Y)
    (hr : ARun P ops n QQ l (ks ++ [.rd]) (putS σ d Y) H) : ARun P ops n QQ (o :: l) ks σ H := by
  refine ARun.rd hd hn hG hY (fun hg E a W β hHr hl => ?_) hr
  obtain ⟨b, arr, T, h1, h2, h3, h4, h5⟩ := (hx.rep hg hl (by simp [ho, Op.operands])).box_at hHr (at_ext hH E)
  subst hC
  have hget : ∀ q y, ((cs.drop off).take z)[q]? = some y → cs[off + q]? = some y := by
    intro q y hq
    rw [List.getElem?_take] at hq
    split at hq
    · rw [List.getElem?_drop] at hq; exact hq
    · cases hq
  have hcell : ∀ q y, ((cs.drop off).take z)[q]? = some y → ∃ u, arr[off + q]? = some u ∧ W.cell? ⟨b, off + q, none⟩ = some u := by
    intro q y hq
    have hlt : off + q < arr.size := by rw [h4]; exact (List.getElem?_eq_some_iff.1 (hget q y hq)).1
    exact ⟨_, Array.getElem?_eq_getElem hlt, by simp [World.cell?, h3, hlt]⟩
  obtain ⟨vs, k1, k2, k3⟩ := cells_list W b off ((cs.drop off).take z) β (fun q y hq => by obtain ⟨u, _, h⟩ := hcell q y hq; exact ⟨u, h⟩) (fun q y u hq hu2 => by
    obtain ⟨u', e1, e2⟩ := hcell q y hq
    rw [e2] at hu2; cases hu2
    exact h5 _ _ _ e1 (hget q y hq))
  refine ⟨.agg vs.toArray, ?_, .agg _ _ (by simpa using k1) (fun j u y hj hy => k3 j u y (by simpa using hj) hy)⟩
  have h6 : (loadVar t ⟨b, off, none⟩).run P W = .ok (.agg vs.toArray) W := by
    simp only [loadVar, Sem.run_bind, isAgg_run hu, hA, if_true]
    have h7 := run_loadCells_list (P := P) (w := W) ⟨b, off, none⟩ vs (fun j u hj => by rw [aadd]; exact k2 j u hj)
    rw [← hCz, ← k1] at hz
    simp [hz.run, h7]
  simp [execOp, ho, h2, Instr.loadAt, Instr.sureAddr, h6]
/-- &v.f of a variable -/
theorem ARun.fieldBox {H : List AO} {x : Operand} {s : TypeId} {f fo fs i off : Nat} {fields : Array Field} {fld : Field} {Y : AV} {d : Option Tmp} {cs : List AV} (ho : o.op = .fieldAddr s x f) (hd : o.dst = d) (hn : dstLt n d = true) (hG : gdS ops σ o.guard = some gd)
    (hu : P.underlying s = some (.struct fields)) (hf : fields[f]? = some fld) (hfo : off + fld.offset = fo) (hz : Sz P fld.type fs) (hfs : fs ≠ 0)
    (hx : Ev gd σ x (.box i off)) (hH : H[i]? = some (.box cs)) (hY : optA o.guard gd (.box i fo) = Y)
    (hr : ARun P ops n QQ l (ks ++ [.pure]) (putS σ d Y) H) : ARun P ops n QQ (o :: l) ks σ H := by
  refine ARun.same hd hn hG hY (fun hg a W β hl => ?_) hr
  obtain ⟨b, h2, h3⟩ := (hx.rep hg hl (by simp [ho, Op.operands])).box_inv
  refine ⟨.pointer (some ⟨b, fo, none⟩), ?_, h3 fo⟩
  subst hfo
  simp [execOp, ho, h2, Instr.fieldAt, run_underlying hu, hf, Instr.sureAddr, fieldPlace, hz.run, hfs, aadd]
/-- an operation that changes what may be written -/
theorem ARun.write {H H' : List AO} {X Y : AV} {d : Option Tmp} (hd : o.dst = d) (hn : dstLt n d = true) (hg : gdS ops σ o.guard = some true) (hY : optA o.guard true X = Y)
    (h : ∀ (a : Act) (W : World) (β : List Hd), HRel β H W → LRep β W a σ (o.looksAt ops) → ∃ v W' β', (execOp a.eval o).run P W = .ok (.value v) W' ∧ Ext β W β' W' ∧ HRel β' H' W' ∧ VRep β' W' v X)
    (hr : ARun P ops n QQ l (ks ++ [.write]) (putS σ d Y) H') : ARun P ops n QQ (o :: l) ks σ H := by
  subst hd; subst hY
  exact ⟨.write, _, H', hn, OpStep.val hg (.inl rfl) (fun _ => trivial) fun _ a W β hHr hl => h a W β hHr hl, hr⟩
/-- an operation that makes a new thing -/
theorem ARun.new {H E : List AO} {X Y : AV} {d : Option Tmp} (hd : o.dst = d) (hn : dstLt n d = true) (hg : gdS ops σ o.guard = some true) (hY : optA o.guard true X = Y)
    (h : ∀ (H0 : List AO), H0.length = H.length → ∀ (a : Act) (W : World) (β : List Hd), HRel β H0 W → LRep β W a σ (o.looksAt ops) → ∃ v W' β', (execOp a.eval o).run P W = .ok (.value v) W' ∧ Ext β W β' W' ∧ HRel β' (H0 ++ E) W' ∧ VRep β' W' v X)
    (hr : ARun P ops n QQ l (ks ++ [.new]) (putS σ d Y) (H ++ E)) : ARun P ops n QQ (o :: l) ks σ H := by
  subst hd; subst hY
  exact ⟨.new, _, H ++ E, hn, ⟨E, rfl, fun H0 hl0 => OpStep.val hg (.inl rfl) (fun _ => trivial) fun _ a W β hHr hl => h H0 hl0 a W β hHr hl⟩, hr⟩
/-- an operation that changes one thing, beside which new ones may stand -/
theorem ARun.wf {H H' : List AO} {X Y : AV} {d : Option Tmp} (hd : o.dst = d) (hn : dstLt n d = true) (hY : optA o.guard true X = Y) (hl : H'.length = H.length)
    (h : ∀ E, OpStep P ops o σ (H ++ E) (optA o.guard true X) (H' ++ E))
    (hr : ARun P ops n QQ l (ks ++ [.wf]) (putS σ d Y) H') : ARun P ops n QQ (o :: l) ks σ H := by
  subst hd; subst hY
  exact ⟨.wf, _, H', hn, ⟨hl, h⟩, hr⟩
/-- a variable of one value -/
theorem ARun.box {x : Operand} {t : TypeId} {j : Nat} {X : AV} {C : List AV} {Y : AV} {d : Option Tmp} (hm : GOK m G) (hj : L.length = j) (ho : o.op = .box t x) (hd : o.dst = d) (hn : dstLt n d = true) (hg : gdS ops σ o.guard = some true)
    (hx : Ev true σ x X) (hC : X.cells = C) (hp : shaped X = true) (hY : optA o.guard true (.box (m + j) 0) = Y)
    (hr : ARun P ops n QQ l (ks ++ [.new]) (putS σ d Y) (G ++ (L ++ [.box C]))) (hpl : C.all AV.plainC = true := by first | rfl | simp [AV.plainC]) : ARun P ops n QQ (o :: l) ks σ (G ++ L) := by
  refine ARun.new (E := [.box C]) hd hn hg hY (fun H0 hl0 a W β hHr hl => ?_) (by rw [List.append_assoc]; exact hr)
  have h0 := hx.rep rfl hl (by simp [ho, Op.operands])
  generalize hv : a.eval x = v at h0
  subst hC
  have hcells := h0.cells (shaped_spec hp)
  have hb : Below W.heap.size W (W.alloc (.cells v.cells t)) := (Below.refl _ _).alloc (Nat.le_refl _) _
  have hsn := hHr.snoc (w' := W.alloc (.cells v.cells t)) hb (x := .box W.heap.size) (o := .box X.cells) ⟨v.cells, t, heap_alloc_new W _, hcells.1, fun q u y h1 h2 => by
    refine (hcells.2 q u y h1 h2).ext ⟨hb.os, hb.tape, hb.output, hb.size, fun k hk _ => hb.block k hk, fun k hk hs y hy => ?_, fun i y hy => ⟨y, by rw [List.getElem?_append_left (List.getElem?_eq_some_iff.1 hy).1]; exact hy, y.to_refl⟩, fun _ b _ _ hlt => hb.block b hlt⟩
    rcases List.mem_append.1 hy with hy | hy
    · exact hs y hy
    · simp at hy; subst hy; intro e; simp [Hd.blks] at e; omega, hpl⟩ (fun b hb => by simp [Hd.blks] at hb; omega)
  have hlen : β.length = m + j := by rw [hHr.len, hl0, List.length_append, hm.1, hj]
  refine ⟨.pointer (some ⟨W.heap.size, 0, none⟩), _, β ++ [.box W.heap.size], ?_, hsn.1, hsn.2, .box _ _ _ (by rw [List.length_append, hlen]; simp) fun x b hb hcb => ?_⟩
  · simp [execOp, ho, hv, Instr.box, newVar, newRow]
  · rw [List.getElem?_append_right (by omega), hlen, Nat.sub_self] at hb
    cases hb; cases hcb; rfl
theorem OpStep.skip {H H' : List AO} {gd : Bool} (hg : gdS ops σ o.guard = some true) (hgd : gd = true) 
    (h : ∀ (a : Act) (W : World) (β : List Hd), HRel β H W → LRep β W a σ (o.looksAt ops) → ∃ W' β', (execOp a.eval o).run P W = .ok .skip W' ∧ Ext β W β' W' ∧ HRel β' H' W') :
    OpStep P ops o σ H (.raw undef) H' := by
  intro a W β hHr hl K Q hK
  rw [gd_wanted hg hl, if_pos rfl]
  obtain ⟨W', β', hr, h1, h2⟩ := h a W β hHr hl
  unfold Oper.wp
  rw [hr, Oper.upon_skip]
  exact hK undef W' β' h1 h2 (.raw _)
/-- a store into a variable -/
theorem ARun.store {H : List AO} {x y : Operand} {t : TypeId} {i off z : Nat} {cs C cs' : List AV} {X : AV} (ho : o.op = .store t x y) (hd : o.dst = none) (hg : gdS ops σ o.guard = some true) (hz : Sz P t z)
    (hx : Ev true σ x (.box i off)) (hy : Ev true σ y X) (hH : H[i]? = some (.box cs)) (hX : shaped X = true) (hC : X.cells = C) (hCz : C.length = z) (hone : C.all AV.one = true)
    (hoff : off + z ≤ cs.length) (hcs : cs.take off ++ C ++ cs.drop (off + z) = cs')
    (hr : ARun P ops n QQ l (ks ++ [.write]) σ (H.set i (.box cs'))) (hsp : ((cs.drop off).take z).all AV.plainC = true := by first | rfl | exact plain_take rfl | exact plain_take (by simp [AV.plainC])) : ARun P ops n QQ (o :: l) ks σ H := by
  refine ⟨.write, .raw undef, H.set i (.box cs'), by rw [hd]; rfl, OpStep.skip (gd := true) hg rfl (fun a W β hHr hl => ?_), by rw [hd]; exact hr⟩
  obtain ⟨b, arr, T, h1, h2, h3, h4, h5⟩ := (hx.rep rfl hl (by simp [ho, Op.operands])).box_at hHr hH
  have h0 := hy.rep rfl hl (by simp [ho, Op.operands])
  generalize hv : a.eval y = v at h0
  obtain ⟨c1, c2⟩ := h0.cells (shaped_spec hX)
  rw [hC] at c1 c2
  have hcone : ∀ u, u ∈ v.cells.toList → u.oneCell' = true := by
    intro u hu
    obtain ⟨q, hq, rfl⟩ := List.mem_iff_getElem.1 hu
    have hq' : q < v.cells.size := by simpa using hq
    have hqc : q < C.length := by omega
    have := c2 q _ _ (Array.getElem?_eq_getElem hq') (List.getElem?_eq_getElem hqc)
    have h7 := this.one (List.all_eq_true.1 hone _ (List.getElem_mem hqc))
    simpa using h7
  have hlen : v.cells.toList.length = z := by rw [Array.length_toList, c1, hCz]
  have hst := run_storeCells_at P b off T v.cells.toList 0 arr W h3 (by rw [hlen, h4]; omega) hcone
  rw [Nat.add_zero, hlen] at hst
  have hset := hHr.setB h1 hH (cs' := cs') (w' := W.setRow b (arr.toList.take off ++ v.cells.toList ++ arr.toList.drop (off + z)).toArray) (by simp) (by simp) (by simp) (by simp) (fun k hk => setRow_other W b k _ hk) (fun hx => by
    refine ⟨_, setRow_heap W b arr _ T (0, 0) h3, ?_, fun q u y' hq hy' => ?_, fun q y' hq hpl => ?_, fun hpl => ?_⟩
    · rw [← hcs]; simp [hCz, h4]; rw [← Array.length_toList, hlen]
    · rw [← hcs] at hy'
      refine VRep.ext hx ?_
      simp only [List.getElem?_toArray] at hq
      by_cases q1 : q < off
      · rw [List.append_assoc, List.getElem?_append_left (by rw [List.length_take]; simp; omega), List.getElem?_take_of_lt q1] at hq
        rw [List.append_assoc, List.getElem?_append_left (by rw [List.length_take]; omega), List.getElem?_take_of_lt q1] at hy'
        exact h5 q u y' (by simpa using hq) hy'
      · by_cases q2 : q < off + z
        · rw [List.append_assoc, List.getElem?_append_right (by rw [List.length_take]; omega), List.length_take, Array.length_toList, List.getElem?_append_left (by rw [hlen]; omega)] at hq
          rw [List.append_assoc, List.getElem?_append_right (by rw [List.length_take]; omega), List.length_take, List.getElem?_append_left (by rw [hCz]; omega)] at hy'
          rw [show min off arr.size = min off cs.length by rw [h4]] at hq
          exact c2 _ u y' (by simpa using hq) hy'
        · rw [List.getElem?_append_right (by rw [List.length_append, List.length_take, hlen]; simp; omega), List.getElem?_drop, List.length_append, List.length_take, hlen, Array.length_toList] at hq
          rw [List.getElem?_append_right (by rw [List.length_append, List.length_take, hCz]; omega), List.getElem?_drop, List.length_append, List.length_take, hCz] at hy'
          rw [show min off arr.size = min off cs.length by rw [h4]] at hq
          exact h5 _ u y' (by simpa using hq) hy'
    · have hout : q < off ∨ off + z ≤ q := by
        rcases Nat.lt_or_ge q off with h | h
        · exact .inl h
        · refine .inr (Nat.le_of_not_lt fun h2 => ?_)
          have hin : ((cs.drop off).take z)[q - off]? = some y' := by
            rw [List.getElem?_take_of_lt (by omega), List.getElem?_drop, show off + (q - off) = q by omega]; exact hq
          have := List.all_eq_true.1 hsp _ (List.mem_of_getElem? hin)
          rw [hpl] at this; cases this
      rw [← hcs]
      simp only [List.getElem?_toArray]
      rcases hout with q1 | q1
      · rw [List.append_assoc, List.getElem?_append_left (by rw [List.length_take]; simp; omega), List.getElem?_take_of_lt q1]
        rw [List.append_assoc, List.getElem?_append_left (by rw [List.length_take]; omega), List.getElem?_take_of_lt q1]
        exact ⟨by simp, rfl⟩
      · rw [List.getElem?_append_right (by rw [List.length_append, List.length_take, hlen]; simp; omega), List.getElem?_drop, List.length_append, List.length_take, hlen, Array.length_toList]
        rw [List.getElem?_append_right (by rw [List.length_append, List.length_take, hCz]; omega), List.getElem?_drop, List.length_append, List.length_take, hCz]
        rw [show min off arr.size = off by omega, show min off cs.length = off by omega, show off + z + (q - (off + z)) = q by omega]
        exact ⟨by simp, rfl⟩
    · rw [← hcs, List.all_eq_true]
      intro y hy
      have hp := List.all_eq_true.1 hpl
      rcases List.mem_append.1 hy with hy | hy
      · rcases List.mem_append.1 hy with hy | hy
        · exact hp y (List.mem_of_mem_take hy)
        · exact one_plain (List.all_eq_true.1 hone y hy)
      · exact hp y (List.mem_of_mem_drop hy))
  refine ⟨_, β, ?_, hset.1, hset.2⟩
  have hsz : v.cells.size = z := by rw [← hlen]; simp
  simp [execOp, ho, hv, h2, Instr.storeAt, Instr.sureAddr, storeVar, hz.run, hsz, hst]
theorem ARun.storeL {x y : Operand} {t : TypeId} {j off z : Nat} {cs C cs' : List AV} {X : AV} {L' : List AO} (hm : GOK m G) (ho : o.op = .store t x y) (hd : o.dst = none) (hg : gdS ops σ o.guard = some true) (hz : Sz P t z)
    (hx : Ev true σ x (.box (m + j) off)) (hy : Ev true σ y X) (hH : L[j]? = some (.box cs)) (hX : shaped X = true) (hC : X.cells = C) (hCz : C.length = z) (hone : C.all AV.one = true)
    (hoff : off + z ≤ cs.length) (hcs : cs.take off ++ C ++ cs.drop (off + z) = cs') (hL : L.set j (.box cs') = L')
    (hr : ARun P ops n QQ l (ks ++ [.write]) σ (G ++ L')) (hsp : ((cs.drop off).take z).all AV.plainC = true := by first | rfl | exact plain_take rfl | exact plain_take (by simp [AV.plainC])) : ARun P ops n QQ (o :: l) ks σ (G ++ L) :=
  ARun.store ho hd hg hz hx hy (by rw [hm.at]; exact hH) hX hC hCz hone hoff hcs (by rw [hm.set, hL]; exact hr) hsp
end
end Go.Proofs.Ytopmppnnihdnaaa
