/- The abstract machine: interfaces, the library's own entries, package-level variables, pointers that are nil or not. -/
import Derived.Test.YtopmppnnihdnaaaAmMore
import Derived.Laws.Externs
import Derived.LaidEql
import Derived.WideLaws
import Derived.Stop.Asserts
import Derived.Laws.BytesString
namespace Go.Proofs.Ytopmppnnihdnaaa
set_option linter.unusedVariables false
set_option linter.unusedSimpArgs false
open Go.RowKit
theorem VRep.ifc_inv {β : List Hd} {w : World} {v : Value} {t : TypeId} {X : AV} (h : VRep β w v (.ifc t X)) : ∃ u, v = .iface t u ∧ VRep β w u X := by
  cases h with
  | ifc _ u _ h => exact ⟨u, rfl, h⟩
theorem VRep.pe_inv {β : List Hd} {w : World} {v : Value} {cs : List AV} (h : VRep β w v (.pe cs)) : ∃ b off, v = .pointer (some ⟨b, off, none⟩) ∧ b < w.heap.size ∧ Still β b ∧ ∀ (j : Nat) (y : AV), cs[j]? = some y → ∃ u, w.cell? ⟨b, off + j, none⟩ = some u ∧ VRep β w u y := by
  cases h with
  | pe b off _ hb hS hd h =>
    refine ⟨b, off, rfl, hb, hS, fun j y hy => ?_⟩
    obtain ⟨u, hu⟩ := hd j y hy
    exact ⟨u, hu, h j y u hy hu⟩
theorem VRep.agg_inv {β : List Hd} {w : World} {v : Value} {cs : List AV} (h : VRep β w v (.agg cs)) : ∃ vs, v = .agg vs ∧ vs.size = cs.length ∧ ∀ (j : Nat) (u : Value) (x : AV), vs[j]? = some u → cs[j]? = some x → VRep β w u x := by
  cases h with
  | agg vs _ hl h => exact ⟨vs, rfl, hl, h⟩
theorem VRep.agg1 {β : List Hd} {w : World} {v : Value} {a : AV} (h : VRep β w v (.agg [a])) : ∃ u, v = .agg #[u] ∧ VRep β w u a := by
  obtain ⟨vs, rfl, hl, h⟩ := h.agg_inv
  have h0 : vs[0]? = some (vs[0]'(by simp [hl])) := Array.getElem?_eq_getElem _
  refine ⟨vs[0]'(by simp [hl]), ?_, h 0 _ _ h0 rfl⟩
  congr 1
  exact Array.ext (by simpa using hl) fun i h1 h2 => by
    have : i = 0 := by simp at h2; omega
    subst this; rfl
theorem VRep.agg3 {β : List Hd} {w : World} {v : Value} {a b c : AV} (h : VRep β w v (.agg [a, b, c])) : ∃ x y z, v = .agg #[x, y, z] ∧ VRep β w x a ∧ VRep β w y b ∧ VRep β w z c := by
  obtain ⟨vs, rfl, hl, h⟩ := h.agg_inv
  simp at hl
  have g : ∀ j (hj : j < vs.size), vs[j]? = some vs[j] := fun j hj => Array.getElem?_eq_getElem hj
  refine ⟨vs[0], vs[1], vs[2], ?_, h 0 _ _ (g 0 (by omega)) rfl, h 1 _ _ (g 1 (by omega)) rfl, h 2 _ _ (g 2 (by omega)) rfl⟩
  congr 1
  exact Array.ext (by simpa using hl) fun i h1 h2 => by
    have : i = 0 ∨ i = 1 ∨ i = 2 := by simp at h2; omega
    rcases this with rfl | rfl | rfl <;> rfl
theorem VRep.mk1 {β : List Hd} {w : World} {u : Value} {a : AV} (h : VRep β w u a) : VRep β w (.agg #[u]) (.agg [a]) :=
  .agg _ _ rfl fun j u' x h1 h2 => by
    cases j with
    | zero => simp at h1 h2; subst h1 h2; exact h
    | succ j => simp at h1
theorem VRep.mk3 {β : List Hd} {w : World} {x y z : Value} {a b c : AV} (h1 : VRep β w x a) (h2 : VRep β w y b) (h3 : VRep β w z c) : VRep β w (.agg #[x, y, z]) (.agg [a, b, c]) :=
  .agg _ _ rfl fun j u' q k1 k2 => by
    match j with
    | 0 => simp at k1 k2; subst k1 k2; exact h1
    | 1 => simp at k1 k2; subst k1 k2; exact h2
    | 2 => simp at k1 k2; subst k1 k2; exact h3
    | j + 3 => simp at k1
theorem VRep.tup2 {β : List Hd} {w : World} {x y : Value} {a b : AV} (h1 : VRep β w x a) (h2 : VRep β w y b) : VRep β w (.tuple #[x, y]) (.tup [a, b]) :=
  .tup _ _ rfl fun j u' q k1 k2 => by
    match j with
    | 0 => simp at k1 k2; subst k1 k2; exact h1
    | 1 => simp at k1 k2; subst k1 k2; exact h2
    | j + 2 => simp at k1
/-- nil, or not -/
def nilA : AV → Option Bool
  | .raw .nilIface => some true
  | .ifc _ _ => some false
  | _ => none
def nilP : AV → Option Bool
  | .raw (.pointer none) => some true
  | .pe _ => some false
  | _ => none
theorem nilA_val {β : List Hd} {w : World} {v : Value} {X : AV} {b : Bool} (h : VRep β w v X) (hb : nilA X = some b) : (b = true ∧ v = .nilIface) ∨ (b = false ∧ ∃ t u, v = .iface t u) := by
  unfold nilA at hb
  split at hb
  · cases hb; exact .inl ⟨rfl, h.raw_inv⟩
  · cases hb; obtain ⟨u, rfl, _⟩ := h.ifc_inv; exact .inr ⟨rfl, _, _, rfl⟩
  · cases hb
theorem nilP_val {β : List Hd} {w : World} {v : Value} {X : AV} {b : Bool} (h : VRep β w v X) (hb : nilP X = some b) : (b = true ∧ v = .pointer none) ∨ (b = false ∧ ∃ a, v = .pointer (some a)) := by
  unfold nilP at hb
  split at hb
  · cases hb; exact .inl ⟨rfl, h.raw_inv⟩
  · cases hb; obtain ⟨b, off, rfl, _⟩ := h.pe_inv; exact .inr ⟨rfl, _, rfl⟩
  · cases hb
theorem eqIn_ptr (P : Program) (W : World) {t e : TypeId} (hu : P.underlying t = some (.pointer e)) (a : Option Addr) (d : Nat) : (Op.equalIn (d + 1) t (.pointer a) (.pointer none)).run P W = .ok a.isNone W := by
  cases a <;> simp [Op.equalIn, run_underlying hu]
theorem eqIn_nil (P : Program) (W : World) {t : TypeId} {ms : Array (String × TypeId)} (hu : P.underlying t = some (.interface ms)) {v : Value} {b : Bool} (h : (b = true ∧ v = .nilIface) ∨ (b = false ∧ ∃ t u, v = .iface t u)) (d : Nat) : (Op.equalIn (d + 1) t v .nilIface).run P W = .ok b W := by
  rcases h with ⟨rfl, rfl⟩ | ⟨rfl, t', u, rfl⟩ <;> simp [Op.equalIn, run_underlying hu]
theorem eqIn_other (P : Program) (W : World) {ti t t' : TypeId} {ms : Array (String × TypeId)} (hu : P.underlying ti = some (.interface ms)) (hne : t ≠ t') (u v : Value) (d : Nat) : (Op.equalIn (d + 1) ti (.iface t u) (.iface t' v)).run P W = .ok false W := by
  simp [Op.equalIn, run_underlying hu, hne]
theorem eqIn_int (P : Program) (W : World) {ti tn : TypeId} {ms : Array (String × TypeId)} {k : IntKind} (a b : Int)
    (hi : P.underlying ti = some (.interface ms)) (hn : P.underlying tn = some (.int k)) (hcomp : (P.info? tn).map (·.comparable) = some true) (d : Nat) :
    (Op.equalIn (d + 2) ti (.iface tn (.int k a)) (.iface tn (.int k b))).run P W = .ok (decide (a = b)) W := by
  obtain ⟨i, hinfo, hc⟩ := Option.map_eq_some_iff.1 hcomp
  simp [Op.equalIn, run_underlying hi, run_underlying hn, typeInfo, hinfo, hc, ibeq]
theorem run_eqlP_none (P : Program) (W : World) {t e : TypeId} (hu : P.underlying t = some (.pointer e)) (a : Option Addr) : (binOp .eql t (.pointer a) (.pointer none)).run P W = .ok (.bool a.isNone) W := by
  simp only [binOp]
  simp [Op.equal, Op.maxDepth, eqIn_ptr P W hu a 9999]
theorem run_neqP_none (P : Program) (W : World) {t e : TypeId} (hu : P.underlying t = some (.pointer e)) (a : Option Addr) : (binOp .neq t (.pointer a) (.pointer none)).run P W = .ok (.bool (!a.isNone)) W := by
  simp only [binOp]
  simp [Op.equal, Op.maxDepth, eqIn_ptr P W hu a 9999]
theorem run_eqlI_nil (P : Program) (W : World) {t : TypeId} {ms : Array (String × TypeId)} (hu : P.underlying t = some (.interface ms)) {v : Value} {b : Bool} (h : (b = true ∧ v = .nilIface) ∨ (b = false ∧ ∃ t u, v = .iface t u)) : (binOp .eql t v .nilIface).run P W = .ok (.bool b) W := by
  have h1 := eqIn_nil P W hu h 9999
  have h2 : (Op.equal t v .nilIface).run P W = .ok b W := by simpa [Op.equal, Op.maxDepth] using h1
  rcases h with ⟨rfl, rfl⟩ | ⟨rfl, t', u, rfl⟩ <;> simp only [binOp] <;> simp [h2]
theorem run_neqI_nil (P : Program) (W : World) {t : TypeId} {ms : Array (String × TypeId)} (hu : P.underlying t = some (.interface ms)) {v : Value} {b : Bool} (h : (b = true ∧ v = .nilIface) ∨ (b = false ∧ ∃ t u, v = .iface t u)) : (binOp .neq t v .nilIface).run P W = .ok (.bool (!b)) W := by
  have h1 := eqIn_nil P W hu h 9999
  have h2 : (Op.equal t v .nilIface).run P W = .ok b W := by simpa [Op.equal, Op.maxDepth] using h1
  rcases h with ⟨rfl, rfl⟩ | ⟨rfl, t', u, rfl⟩ <;> simp only [binOp] <;> simp [h2]
theorem run_eqlI_other (P : Program) (W : World) {ti t t' : TypeId} {ms : Array (String × TypeId)} (hu : P.underlying ti = some (.interface ms)) (hne : t ≠ t') (u v : Value) : (binOp .eql ti (.iface t u) (.iface t' v)).run P W = .ok (.bool false) W := by
  simp only [binOp]
  simp [Op.equal, Op.maxDepth, eqIn_other P W hu hne u v 9999]
theorem run_eqlI_int (P : Program) (W : World) {ti tn : TypeId} {ms : Array (String × TypeId)} {k : IntKind} (a b : Int)
    (hi : P.underlying ti = some (.interface ms)) (hn : P.underlying tn = some (.int k)) (hcomp : (P.info? tn).map (·.comparable) = some true) :
    (binOp .eql ti (.iface tn (.int k a)) (.iface tn (.int k b))).run P W = .ok (.bool (decide (a = b))) W := by
  simp only [binOp]
  simp [Op.equal, Op.maxDepth, eqIn_int P W a b hi hn hcomp 9998]
/-- an entry of the model's own -/
def FnX (P : Program) (f : FuncId) (args : List AV) (H : List AO) (r : AV) (H' : List AO) : Prop :=
  ∀ (w : World) (β : List Hd) (vs : Array Value), HRel β H w → VReps β w vs args →
    ∃ v w' β', (callFunc f vs).run P w = .ok (.value v) w' ∧ Ext β w β' w' ∧ HRel β' H' w' ∧ VRep β' w' v r
/-- one that at most makes memory -/
def FnXP (P : Program) (f : FuncId) (args : List AV) (r : AV) : Prop :=
  ∀ (w : World) (β : List Hd) (vs : Array Value), (∀ h, h ∈ β → ∀ b, b ∈ h.blks → b < w.heap.size) → VReps β w vs args →
    ∃ v w', (callFunc f vs).run P w = .ok (.value v) w' ∧ Below w.heap.size w w' ∧ VRep β w' v r
theorem VReps.lits {β : List Hd} {w : World} {vs : Array Value} {xs : List AV} (h : VReps β w vs xs) (hx : xs.all litOk = true) : vs = (xs.map litV).toArray := by
  refine Array.ext (by simpa using h.1) fun i h1 h2 => ?_
  have hi : i < xs.length := by rw [← h.1]; exact h1
  have := (h.2 i _ _ (Array.getElem?_eq_getElem h1) (List.getElem?_eq_getElem hi)).litV (List.all_eq_true.1 hx _ (List.getElem_mem hi))
  simpa using this
/-- an older contract, of plain values, taken over -/
theorem FnP.of_calls {P : Program} {F : FuncId} {args : List AV} {r : AV} (hx : args.all litOk = true) (hr : NoH 0 r) (hf : Flat r) (h : ∀ w, Calls P F (args.map litV).toArray w fun e w' => ∃ v, e = .returned v ∧ Below w.heap.size w w' ∧ VRep [] w' v r) : FnP P F args r := by
  refine ⟨hr, fun k w β vs hH hv => ?_⟩
  rw [hv.lits hx]
  refine (h w).mono ?_
  rintro e w' ⟨v, rfl, hb, hv2⟩
  refine ⟨v, β, rfl, Ext.of_below β hb, hH.below hb, ?_⟩
  exact hv2.flat hf
/-- which method is called, on what -/
def Inv (P : Program) (X : AV) (name : String) (F : FuncId) (X' : AV) : Prop :=
  ∀ (W : World) (β : List Hd) (u : Value), VRep β W u X → ∃ t v v', u = .iface t v ∧ (method (P.types.size + Made.depth) t v name).run P W = .ok (F, v') W ∧ VRep β W v' X'
theorem VReps.cons {β : List Hd} {w : World} {v : Value} {x : AV} {vs : Array Value} {xs : List AV} (h : VRep β w v x) (t : vs.toList.length = xs.length ∧ ∀ (j : Nat) (u : Value) (x : AV), vs.toList[j]? = some u → xs[j]? = some x → VRep β w u x) : VReps β w (#[v] ++ vs) (x :: xs) := by
  have hl : vs.size = xs.length := by simpa using t.1
  refine ⟨by simp [hl]; omega, fun j u y h1 h2 => ?_⟩
  rw [← Array.getElem?_toList] at h1
  simp only [Array.toList_append, List.singleton_append] at h1
  cases j with
  | zero => simp at h1 h2; subst h1 h2; exact h
  | succ j => exact t.2 j u y (by simpa using h1) (by simpa using h2)
theorem VReps.two {β : List Hd} {w : World} {vs : Array Value} {x y : AV} (h : VReps β w vs [x, y]) : ∃ a b, vs = #[a, b] ∧ VRep β w a x ∧ VRep β w b y := by
  obtain ⟨hl, h⟩ := h
  simp at hl
  have g : ∀ j (hj : j < vs.size), vs[j]? = some vs[j] := fun j hj => Array.getElem?_eq_getElem hj
  refine ⟨vs[0], vs[1], ?_, h 0 _ _ (g 0 (by omega)) rfl, h 1 _ _ (g 1 (by omega)) rfl⟩
  exact Array.ext (by simpa using hl) fun i h1 h2 => by
    have : i = 0 ∨ i = 1 := by simp at h2; omega
    rcases this with rfl | rfl <;> rfl
theorem VReps.single {β : List Hd} {w : World} {vs : Array Value} {x : AV} (h : VReps β w vs [x]) : ∃ a, vs = #[a] ∧ VRep β w a x := by
  obtain ⟨hl, h⟩ := h
  simp at hl
  have g : ∀ j (hj : j < vs.size), vs[j]? = some vs[j] := fun j hj => Array.getElem?_eq_getElem hj
  refine ⟨vs[0], ?_, h 0 _ _ (g 0 (by omega)) rfl⟩
  exact Array.ext (by simpa using hl) fun i h1 h2 => by
    have : i = 0 := by simp at h2; omega
    subst this; rfl
section
variable {P : Program} {ops : Array Oper} {n m : Nat} {QQ : List Kd → Sl → List AO → Prop} {l : List Oper} {ks : List Kd} {σ : Sl} {G L H : List AO} {o : Oper} {gd : Bool}
/-- an interface value beside the literal nil -/
theorem ARun.isNil {bo : BinOp} {x : Operand} {t1 t2 : TypeId} {ms : Array (String × TypeId)} {X : AV} {b r : Bool} {Y : AV} {d : Option Tmp} (ho : o.op = .binOp bo t1 x (.const .nilIface) t2) (hd : o.dst = d) (hn : dstLt n d = true) (hG : gdS ops σ o.guard = some gd)
    (hu : P.underlying t1 = some (.interface ms)) (hx : Ev gd σ x X) (hX : gd = true → nilA X = some b) (hb : bo = .eql ∧ r = b ∨ bo = .neq ∧ r = !b) (hY : optA o.guard gd (.bool r) = Y)
    (hr : ARun P ops n QQ l (ks ++ [.pure]) (putS σ d Y) H) : ARun P ops n QQ (o :: l) ks σ H := by
  refine ARun.same hd hn hG hY (fun hg a W β hl => ⟨.bool r, ?_, .bool _⟩) hr
  have h1 := nilA_val (hx.rep hg hl (by simp [ho, Op.operands])) (hX hg)
  have hgu : (eqGuard bo t1 x (.const .nilIface) (a.eval x) .nilIface).run P W = .ok () W := by
    rcases h1 with ⟨_, h⟩ | ⟨_, t, u, h⟩ <;> rw [h] <;> rcases hb with ⟨rfl, _⟩ | ⟨rfl, _⟩ <;> simp [eqGuard]
  have hc : a.eval (.const .nilIface) = .nilIface := rfl
  rcases hb with ⟨rfl, rfl⟩ | ⟨rfl, rfl⟩
  · simp [execOp, ho, hc, hgu, run_eqlI_nil P W hu h1]
  · simp [execOp, ho, hc, hgu, run_neqI_nil P W hu h1]
/-- a pointer beside the literal nil -/
theorem ARun.isNilP {bo : BinOp} {x : Operand} {t1 t2 e : TypeId} {X : AV} {b r : Bool} {Y : AV} {d : Option Tmp} (ho : o.op = .binOp bo t1 x (.const (.pointer none)) t2) (hd : o.dst = d) (hn : dstLt n d = true) (hG : gdS ops σ o.guard = some gd)
    (hu : P.underlying t1 = some (.pointer e)) (hx : Ev gd σ x X) (hX : gd = true → nilP X = some b) (hb : bo = .eql ∧ r = b ∨ bo = .neq ∧ r = !b) (hY : optA o.guard gd (.bool r) = Y)
    (hr : ARun P ops n QQ l (ks ++ [.pure]) (putS σ d Y) H) : ARun P ops n QQ (o :: l) ks σ H := by
  refine ARun.same hd hn hG hY (fun hg a W β hl => ⟨.bool r, ?_, .bool _⟩) hr
  have h1 := nilP_val (hx.rep hg hl (by simp [ho, Op.operands])) (hX hg)
  have hc : a.eval (.const (.pointer none)) = .pointer none := rfl
  have hgu : ∀ u, (eqGuard bo t1 x (.const (.pointer none)) u (.pointer none)).run P W = .ok () W := by
    intro u
    unfold eqGuard
    cases u <;> simp
  rcases h1 with ⟨rfl, h⟩ | ⟨rfl, p, h⟩ <;> rcases hb with ⟨rfl, rfl⟩ | ⟨rfl, rfl⟩
  · simp [execOp, ho, hc, h, hgu, run_eqlP_none P W hu]
  · simp [execOp, ho, hc, h, hgu, run_neqP_none P W hu]
  · simp [execOp, ho, hc, h, hgu, run_eqlP_none P W hu]
  · simp [execOp, ho, hc, h, hgu, run_neqP_none P W hu]
theorem ARun.isNilBox {bo : BinOp} {x : Operand} {t1 t2 e : TypeId} {i off : Nat} {cs : List AV} {r : Bool} {Y : AV} {d : Option Tmp} (ho : o.op = .binOp bo t1 x (.const (.pointer none)) t2) (hd : o.dst = d) (hn : dstLt n d = true) (hG : gdS ops σ o.guard = some gd)
    (hu : P.underlying t1 = some (.pointer e)) (hx : Ev gd σ x (.box i off)) (hH : H[i]? = some (.box cs)) (hb : bo = .eql ∧ r = false ∨ bo = .neq ∧ r = true) (hY : optA o.guard gd (.bool r) = Y)
    (hr : ARun P ops n QQ l (ks ++ [.pure]) (putS σ d Y) H) : ARun P ops n QQ (o :: l) ks σ H := by
  refine ARun.same hd hn hG hY (fun hg a W β hl => ⟨.bool r, ?_, .bool _⟩) hr
  obtain ⟨b, h2, _⟩ := (hx.rep hg hl (by simp [ho, Op.operands])).box_inv
  have hc : a.eval (.const (.pointer none)) = .pointer none := rfl
  have hgu : ∀ u, (eqGuard bo t1 x (.const (.pointer none)) u (.pointer none)).run P W = .ok () W := by
    intro u
    unfold eqGuard
    cases u <;> simp
  rcases hb with ⟨rfl, rfl⟩ | ⟨rfl, rfl⟩
  · simp [execOp, ho, hc, h2, hgu, run_eqlP_none P W hu]
  · simp [execOp, ho, hc, h2, hgu, run_neqP_none P W hu]
/-- two values, as one knows it -/
theorem ARun.binV {bo : BinOp} {x y : Operand} {t1 t2 : TypeId} {X Z R Y : AV} {d : Option Tmp} (ho : o.op = .binOp bo t1 x y t2) (hd : o.dst = d) (hn : dstLt n d = true) (hG : gdS ops σ o.guard = some gd)
    (hx : Ev gd σ x X) (hy : Ev gd σ y Z) (hb : gd = true → ∀ (W : World) (β : List Hd) (u v : Value), VRep β W u X → VRep β W v Z → (eqGuard bo t1 x y u v).run P W = .ok () W ∧ ∃ r, (binOp bo t1 u v).run P W = .ok r W ∧ VRep β W r R) (hY : optA o.guard gd R = Y)
    (hr : ARun P ops n QQ l (ks ++ [.pure]) (putS σ d Y) H) : ARun P ops n QQ (o :: l) ks σ H := by
  refine ARun.same hd hn hG hY (fun hg a W β hl => ?_) hr
  obtain ⟨h1, r, h2, h3⟩ := hb hg W β _ _ (hx.rep hg hl (by simp [ho, Op.operands])) (hy.rep hg hl (by simp [ho, Op.operands]))
  exact ⟨r, by simp [execOp, ho, h1, h2], h3⟩
theorem ARun.assertV {x : Operand} {xT I : TypeId} {ok : Bool} {X R Y : AV} {d : Option Tmp} (ho : o.op = .typeAssert x xT I ok) (hd : o.dst = d) (hn : dstLt n d = true) (hG : gdS ops σ o.guard = some gd)
    (hx : Ev gd σ x X) (hb : gd = true → ∀ (W : World) (β : List Hd) (u : Value), VRep β W u X → ∃ v, (Instr.typeAssert u xT I ok).run P W = .ok v W ∧ VRep β W v R) (hY : optA o.guard gd R = Y)
    (hr : ARun P ops n QQ l (ks ++ [.pure]) (putS σ d Y) H) : ARun P ops n QQ (o :: l) ks σ H := by
  refine ARun.same hd hn hG hY (fun hg a W β hl => ?_) hr
  obtain ⟨v, h2, h3⟩ := hb hg W β _ (hx.rep hg hl (by simp [ho, Op.operands]))
  exact ⟨v, by simp [execOp, ho, h2], h3⟩
/-- a package-level variable that nobody writes -/
theorem ARun.loadGlob {g : Nat} {t : TypeId} {u : TypeDesc} {v : Value} {X Y : AV} {d : Option Tmp} (ho : o.op = .load t (.global g)) (hd : o.dst = d) (hn : dstLt n d = true) (hG : gdS ops σ o.guard = some gd)
    (hu : P.underlying t = some u) (hA : isA u = false) (hm : (g, v) ∈ globs) (hv : ∀ (β : List Hd) (W : World), VRep β W v X) (hY : optA o.guard gd X = Y)
    (hr : ARun P ops n QQ l (ks ++ [.pure]) (putS σ d Y) H) : ARun P ops n QQ (o :: l) ks σ H := by
  subst hd; subst hY
  refine ⟨.pure, _, H, hn, ⟨rfl, fun G => OpStep.val hG (.inr rfl) (fun _ => trivial) fun hg a W β hHr hl => ⟨v, W, β, ?_, Ext.refl _ _, hHr, hv _ _⟩⟩, hr⟩
  have hc := (hHr.gl _ hm).1
  have h3 : (loadVar t ⟨g, 0, none⟩).run P W = .ok v W := by
    simp only [loadVar, Sem.run_bind, isAgg_run hu, hA]
    simp [hc]
  simp [execOp, ho, Act.eval, Instr.loadAt, Instr.sureAddr, h3]
theorem CRep.pe {β : List Hd} {W : World} {vs : Array Value} {cs : List AV} {T : TypeId} (hβ : ∀ h, h ∈ β → ∀ b, b ∈ h.blks → b < W.heap.size) (h : vs.size = cs.length ∧ ∀ (q : Nat) (u : Value) (y : AV), vs[q]? = some u → cs[q]? = some y → VRep β W u y) :
    VRep β (W.alloc (.cells vs T)) (.pointer (some ⟨W.heap.size, 0, none⟩)) (.pe cs) := by
  have hext : Ext β W β (W.alloc (.cells vs T)) := Ext.of_below β ((Below.refl _ _).alloc (Nat.le_refl _) _)
  have hcell : ∀ q, (W.alloc (.cells vs T)).cell? ⟨W.heap.size, q, none⟩ = vs[q]? := fun q => World.cell?_alloc_new _ _ _ _
  refine .pe W.heap.size 0 cs (by simp) (fun y hy e => by have := hβ y hy _ e; omega) (fun q y hq => ?_) (fun q y u hq hu => ?_)
  · have hlt : q < vs.size := by rw [h.1]; exact (List.getElem?_eq_some_iff.1 hq).1
    exact ⟨_, by rw [Nat.zero_add, hcell]; exact Array.getElem?_eq_getElem hlt⟩
  · rw [Nat.zero_add, hcell] at hu
    exact (h.2 q u y hu hq).ext hext
theorem one_cells {X : AV} (h : X.one = true) : X.cells = [X] := by cases X <;> first | rfl | cases h
theorem one_shaped {X : AV} (h : X.one = true) : shaped X = true := by cases X <;> first | rfl | exact h
/-- a value of one cell is stored -/
theorem ARun.storeL1 {x y : Operand} {t : TypeId} {j off : Nat} {cs cs' : List AV} {X : AV} {L' : List AO} (hm : GOK m G) (ho : o.op = .store t x y) (hd : o.dst = none) (hg : gdS ops σ o.guard = some true) (hz : Sz P t 1)
    (hx : Ev true σ x (.box (m + j) off)) (hy : Ev true σ y X) (hH : L[j]? = some (.box cs)) (hX : X.one = true)
    (hoff : off + 1 ≤ cs.length) (hcs : cs.take off ++ [X] ++ cs.drop (off + 1) = cs') (hL : L.set j (.box cs') = L')
    (hr : ARun P ops n QQ l (ks ++ [.write]) σ (G ++ L')) (hsp : ((cs.drop off).take 1).all AV.plainC = true := by first | rfl | exact plain_take rfl | exact plain_take (by simp [AV.plainC])) : ARun P ops n QQ (o :: l) ks σ (G ++ L) :=
  ARun.storeL hm ho hd hg hz hx hy hH (one_shaped hX) (one_cells hX) rfl (by simp [hX]) hoff hcs hL hr hsp
theorem ARun.box1 {x : Operand} {t : TypeId} {j : Nat} {X : AV} {Y : AV} {d : Option Tmp} (hm : GOK m G) (hj : L.length = j) (ho : o.op = .box t x) (hd : o.dst = d) (hn : dstLt n d = true) (hg : gdS ops σ o.guard = some true)
    (hx : Ev true σ x X) (hX : X.one = true) (hY : optA o.guard true (.box (m + j) 0) = Y)
    (hr : ARun P ops n QQ l (ks ++ [.new]) (putS σ d Y) (G ++ (L ++ [.box [X]]))) : ARun P ops n QQ (o :: l) ks σ (G ++ L) :=
  ARun.box hm hj ho hd hn hg hx (one_cells hX) (one_shaped hX) hY hr (by simp [one_plain hX])
/-- a variable that nobody writes any more -/
theorem ARun.boxPe {x : Operand} {t : TypeId} {X : AV} {C : List AV} {Y : AV} {d : Option Tmp} (ho : o.op = .box t x) (hd : o.dst = d) (hn : dstLt n d = true) (hG : gdS ops σ o.guard = some gd)
    (hx : Ev gd σ x X) (hC : X.cells = C) (hp : shaped X = true) (hY : optA o.guard gd (.pe C) = Y)
    (hr : ARun P ops n QQ l (ks ++ [.pure]) (putS σ d Y) H) : ARun P ops n QQ (o :: l) ks σ H := by
  refine ARun.valH hd hn hG hY (fun hg a W β hβ hl => ?_) hr
  have h0 := hx.rep hg hl (by simp [ho, Op.operands])
  generalize hv : a.eval x = v at h0
  subst hC
  refine ⟨.pointer (some ⟨W.heap.size, 0, none⟩), W.alloc (.cells v.cells t), ?_, (Below.refl _ _).alloc (Nat.le_refl _) _, CRep.pe hβ (h0.cells (shaped_spec hp))⟩
  simp [execOp, ho, hv, Instr.box, newVar, newRow]
theorem ARun.boxPe1 {x : Operand} {t : TypeId} {X : AV} {Y : AV} {d : Option Tmp} (ho : o.op = .box t x) (hd : o.dst = d) (hn : dstLt n d = true) (hG : gdS ops σ o.guard = some gd)
    (hx : Ev gd σ x X) (hX : X.one = true) (hY : optA o.guard gd (.pe [X]) = Y)
    (hr : ARun P ops n QQ l (ks ++ [.pure]) (putS σ d Y) H) : ARun P ops n QQ (o :: l) ks σ H :=
  ARun.boxPe ho hd hn hG hx (one_cells hX) (one_shaped hX) hY hr
def isU8 : AV → Bool | .int .u8 _ => true | _ => false
def byteOf : AV → UInt8 | .int _ n => UInt8.ofNat n.toNat | _ => 0
def bytesOf (xs : List AV) : ByteArray := ⟨(xs.map byteOf).toArray⟩
theorem push_foldl (ns : List Int) (s : ByteArray) : ns.foldl (fun r n => r.push (UInt8.ofNat n.toNat)) s = s ++ ⟨(ns.map fun n => UInt8.ofNat n.toNat).toArray⟩ := by
  induction ns generalizing s with
  | nil => apply ByteArray.ext; simp
  | cons n ns ih =>
    rw [List.foldl_cons, ih]
    apply ByteArray.ext; simp
theorem VRep.bytes {β : List Hd} {w : World} {P : Program} {v : Value} {xs : List AV} (h : VRep β w v (.sl xs)) (hx : xs.all isU8 = true) : (Conv.bytesToString v).run P w = .ok (.string (bytesOf xs)) w := by
  cases h with
  | slnil => rfl
  | slemp p cap hm => exact run_bytesToString w p 0 cap [] (by simp [loadCells, loadCellsFrom])
  | sl b off cap z _ hc hm hb hS hz hd h =>
    have hu : ∀ x, x ∈ xs → ∃ n, x = .int .u8 n := by
      intro x hx2
      have := List.all_eq_true.1 hx x hx2
      cases x <;> first | (rename_i k n; cases k <;> first | exact ⟨_, rfl⟩ | cases this) | cases this
    have hz1 : ∀ x, x ∈ xs → z = 1 := fun x hx2 => by
      obtain ⟨n, rfl⟩ := hu x hx2
      exact (hz _ hx2).symm
    have hns : xs = (xs.map fun | .int _ n => n | _ => 0).map (AV.int .u8) := by
      rw [List.map_map]
      refine (List.map_id _).symm.trans (List.map_congr_left fun x hx2 => ?_)
      obtain ⟨n, rfl⟩ := hu x hx2; rfl
    have hl := run_loadCells_list (P := P) (w := w) ⟨b, off, none⟩ ((xs.map fun | .int _ n => n | _ => 0).map (Value.int .u8)) (fun j u hj => by
      rw [List.getElem?_map, List.getElem?_map] at hj
      cases hxj : xs[j]? with
      | none => rw [hxj] at hj; cases hj
      | some x =>
        obtain ⟨n, rfl⟩ := hu x (List.mem_of_getElem? hxj)
        rw [hxj] at hj
        cases hj
        obtain ⟨u2, hu2⟩ := hd j 0 _ _ hxj rfl
        have h1 := (h j 0 _ _ u2 hxj rfl hu2).int_inv
        rw [hz1 _ (List.mem_of_getElem? hxj), Nat.mul_one, Nat.add_zero] at hu2
        rw [aadd, hu2, h1])
    rw [run_bytesToString w ⟨b, off, none⟩ xs.length cap (xs.map fun | .int _ n => n | _ => 0) (by simpa using hl), push_foldl]
    congr 2
    apply ByteArray.ext
    simp only [bytesOf, List.map_map]
    simp
    intro x hx2
    obtain ⟨n, rfl⟩ := hu x hx2; rfl
/-- bytes as a text -/
theorem ARun.convBS {t1 t2 e : TypeId} {x : Operand} {xs : List AV} {Y : AV} {d : Option Tmp} (ho : o.op = .convert t1 t2 x) (hd : o.dst = d) (hn : dstLt n d = true) (hG : gdS ops σ o.guard = some gd)
    (hu1 : P.underlying t1 = some (.slice e)) (hue : P.underlying e = some (.int .u8)) (hu2 : P.underlying t2 = some .string) (hx : Ev gd σ x (.sl xs)) (hb : xs.all isU8 = true) (hY : optA o.guard gd (.str (bytesOf xs)) = Y)
    (hr : ARun P ops n QQ l (ks ++ [.pure]) (putS σ d Y) H) : ARun P ops n QQ (o :: l) ks σ H := by
  refine ARun.same hd hn hG hY (fun hg a W β hl => ⟨.string (bytesOf xs), ?_, .str _⟩) hr
  have h0 := hx.rep hg hl (by simp [ho, Op.operands])
  have h1 := h0.bytes (P := P) hb
  generalize hv : a.eval x = v at h0 h1
  cases h0 with
  | slnil => simp [execOp, ho, hv, run_convert_bytes_string W t1 t2 e _ _ _ hu1 hue hu2, h1]
  | slemp p cap hm => simp [execOp, ho, hv, run_convert_bytes_string W t1 t2 e _ _ _ hu1 hue hu2, h1]
  | sl b off cap z _ hc hm hb hS hz hd h => simp [execOp, ho, hv, run_convert_bytes_string W t1 t2 e _ _ _ hu1 hue hu2, h1]
/-- quotients and rests -/
theorem ARun.quoI {x y : Operand} {t1 t2 : TypeId} {k : IntKind} {i j r : Int} {Y : AV} {d : Option Tmp} (ho : o.op = .binOp .quo t1 x y t2) (hd : o.dst = d) (hn : dstLt n d = true) (hG : gdS ops σ o.guard = some gd)
    (hx : Ev gd σ x (.int k i)) (hy : Ev gd σ y (.int k j)) (hj : gd = true → j ≠ 0) (hw : gd = true → k.wrap (i.tdiv j) = r) (hY : optA o.guard gd (.int k r) = Y)
    (hr : ARun P ops n QQ l (ks ++ [.pure]) (putS σ d Y) H) : ARun P ops n QQ (o :: l) ks σ H := by
  refine ARun.same hd hn hG hY (fun hg a W β hl => ⟨.int k r, ?_, .int _ _⟩) hr
  rw [← hw hg]
  have h1 := (hx.rep hg hl (by simp [ho, Op.operands])).int_inv
  have h2 := (hy.rep hg hl (by simp [ho, Op.operands])).int_inv
  have h3 := hj hg
  simp [execOp, ho, h1, h2, eqGuard, binOp, Op.intDiv, h3]
theorem ARun.remI {x y : Operand} {t1 t2 : TypeId} {k : IntKind} {i j : Int} {Y : AV} {d : Option Tmp} (ho : o.op = .binOp .rem t1 x y t2) (hd : o.dst = d) (hn : dstLt n d = true) (hG : gdS ops σ o.guard = some gd)
    (hx : Ev gd σ x (.int k i)) (hy : Ev gd σ y (.int k j)) (hj : gd = true → j ≠ 0) (hY : optA o.guard gd (.int k (i.tmod j)) = Y)
    (hr : ARun P ops n QQ l (ks ++ [.pure]) (putS σ d Y) H) : ARun P ops n QQ (o :: l) ks σ H := by
  refine ARun.same hd hn hG hY (fun hg a W β hl => ⟨.int k (i.tmod j), ?_, .int _ _⟩) hr
  have h1 := (hx.rep hg hl (by simp [ho, Op.operands])).int_inv
  have h2 := (hy.rep hg hl (by simp [ho, Op.operands])).int_inv
  have h3 := hj hg
  simp [execOp, ho, h1, h2, eqGuard, binOp, Op.intDiv, h3]
/-- an entry of the model's own is called -/
theorem ARun.callX {f : Operand} {args : Array Operand} {ats : Array TypeId} {F : FuncId} {xs : List AV} {r Y : AV} {d : Option Tmp} {H' : List AO} (ho : o.op = .call { callee := .value f, args := args, argTypes := ats }) (hd : o.dst = d) (hn : dstLt n d = true) (hG : gdS ops σ o.guard = some true)
    (hf : Ev true σ f (.fn (.func F) [] [])) (hx : EvL true σ args.toList xs) (hF : FnX P F xs H r H') (hY : optA o.guard true r = Y)
    (hr : ARun P ops n QQ l (ks ++ [.write]) (putS σ d Y) H') : ARun P ops n QQ (o :: l) ks σ H := by
  refine ARun.write hd hn hG hY (fun a W β hHr hl => ?_) hr
  have h0 := hf.rep rfl hl (by simp [ho, Op.operands, Call.operands])
  generalize hv : a.eval f = v at h0
  cases h0 with
  | fn _ us vs _ _ hl1 hl2 h1 h2 =>
    have ha := EvL.reps (β := β) (W := W) (a := a) hx (fun x hx X h => h.rep rfl hl (by simp only [ho, Op.operands, Call.operands]; exact Array.mem_append.2 (.inr (by simpa using hx))))
    obtain rfl : us = #[] := Array.eq_empty_of_size_eq_zero (by simpa using hl1)
    obtain rfl : vs = #[] := Array.eq_empty_of_size_eq_zero (by simpa using hl2)
    obtain ⟨v', w', β', k1, k2, k3, k4⟩ := hF W β (args.map a.eval) hHr ⟨by simpa using ha.1, fun j u x p q => ha.2 j u x (by simpa using p) q⟩
    refine ⟨v', w', β', ?_, k2, k3, k4⟩
    simp [execOp, ho, resolve, hv, Deferred.ofValue, invoke, k1]
/-- .. that leaves what may be written -/
theorem ARun.callXR {f : Operand} {args : Array Operand} {ats : Array TypeId} {F : FuncId} {xs : List AV} {r Y : AV} {d : Option Tmp} (ho : o.op = .call { callee := .value f, args := args, argTypes := ats }) (hd : o.dst = d) (hn : dstLt n d = true) (hG : gdS ops σ o.guard = some gd)
    (hf : Ev gd σ f (.fn (.func F) [] [])) (hx : EvL gd σ args.toList xs) (hF : gd = true → FnX P F xs H r H) (hY : optA o.guard gd r = Y)
    (hr : ARun P ops n QQ l (ks ++ [.read]) (putS σ d Y) H) : ARun P ops n QQ (o :: l) ks σ H := by
  subst hd; subst hY
  refine ⟨.read, _, H, hn, ⟨rfl, OpStep.val hG (.inr rfl) (fun _ => trivial) fun hg a W β hHr hl => ?_⟩, hr⟩
  have h0 := hf.rep hg hl (by simp [ho, Op.operands, Call.operands])
  generalize hv : a.eval f = v at h0
  cases h0 with
  | fn _ us vs _ _ hl1 hl2 h1 h2 =>
    have ha := EvL.reps (β := β) (W := W) (a := a) hx (fun x hx X h => h.rep hg hl (by simp only [ho, Op.operands, Call.operands]; exact Array.mem_append.2 (.inr (by simpa using hx))))
    obtain rfl : us = #[] := Array.eq_empty_of_size_eq_zero (by simpa using hl1)
    obtain rfl : vs = #[] := Array.eq_empty_of_size_eq_zero (by simpa using hl2)
    obtain ⟨v', w', β', k1, k2, k3, k4⟩ := hF hg W β (args.map a.eval) hHr ⟨by simpa using ha.1, fun j u x p q => ha.2 j u x (by simpa using p) q⟩
    refine ⟨v', w', β', ?_, k2, k3, k4⟩
    simp [execOp, ho, resolve, hv, Deferred.ofValue, invoke, k1]
theorem ARun.callXP {f : Operand} {args : Array Operand} {ats : Array TypeId} {F : FuncId} {xs : List AV} {r Y : AV} {d : Option Tmp} (ho : o.op = .call { callee := .value f, args := args, argTypes := ats }) (hd : o.dst = d) (hn : dstLt n d = true) (hG : gdS ops σ o.guard = some gd)
    (hf : Ev gd σ f (.fn (.func F) [] [])) (hx : EvL gd σ args.toList xs) (hF : gd = true → FnXP P F xs r) (hY : optA o.guard gd r = Y)
    (hr : ARun P ops n QQ l (ks ++ [.pure]) (putS σ d Y) H) : ARun P ops n QQ (o :: l) ks σ H := by
  refine ARun.valH hd hn hG hY (fun hg a W β hβ hl => ?_) hr
  have h0 := hf.rep hg hl (by simp [ho, Op.operands, Call.operands])
  generalize hv : a.eval f = v at h0
  cases h0 with
  | fn _ us vs _ _ hl1 hl2 h1 h2 =>
    have ha := EvL.reps (β := β) (W := W) (a := a) hx (fun x hx X h => h.rep hg hl (by simp only [ho, Op.operands, Call.operands]; exact Array.mem_append.2 (.inr (by simpa using hx))))
    obtain rfl : us = #[] := Array.eq_empty_of_size_eq_zero (by simpa using hl1)
    obtain rfl : vs = #[] := Array.eq_empty_of_size_eq_zero (by simpa using hl2)
    obtain ⟨v', w', k1, k2, k4⟩ := hF hg W β (args.map a.eval) hβ ⟨by simpa using ha.1, fun j u x p q => ha.2 j u x (by simpa using p) q⟩
    refine ⟨v', w', ?_, k2, k4⟩
    simp [execOp, ho, resolve, hv, Deferred.ofValue, invoke, k1]
theorem extract_cons (u : Value) (xs : Array Value) : (#[u] ++ xs).extract 1 (#[u] ++ xs).size = xs := by
  apply Array.toList_inj.1
  simp
theorem run_invoke {W : World} {name : String} {t : TypeId} {v v' : Value} {xs : Array Value} {F : FuncId} {R : Result Next} (h : (method (P.types.size + Made.depth) t v name).run P W = .ok (F, v') W) (k : (callFunc F (#[v'] ++ xs)).run P W = R) :
    (invoke (.fn (.method name) #[]) (#[.iface t v] ++ xs)).run P W = R := by
  have h0 : (#[Value.iface t v] ++ xs)[0]? = some (.iface t v) := by
    rw [← Array.getElem?_toList]; simp
  simp only [invoke, h0, extract_cons, callMethod, Sem.run_bind, run_program, Result.andThen_ok, h, k]
/-- a method is called through an interface value: one of the model's own entries -/
theorem ARun.invokeX {f : Operand} {name : String} {args : Array Operand} {ats : Array TypeId} {F : FuncId} {X X' : AV} {xs : List AV} {r Y : AV} {d : Option Tmp} (ho : o.op = .call { callee := .invoke f name, args := args, argTypes := ats }) (hd : o.dst = d) (hn : dstLt n d = true) (hG : gdS ops σ o.guard = some gd)
    (hf : Ev gd σ f X) (hI : gd = true → Inv P X name F X') (hx : EvL gd σ args.toList xs) (hF : gd = true → FnXP P F (X' :: xs) r) (hY : optA o.guard gd r = Y)
    (hr : ARun P ops n QQ l (ks ++ [.pure]) (putS σ d Y) H) : ARun P ops n QQ (o :: l) ks σ H := by
  refine ARun.valH hd hn hG hY (fun hg a W β hβ hl => ?_) hr
  have h0 := hf.rep hg hl (by simp [ho, Op.operands, Call.operands])
  have ha := EvL.reps (β := β) (W := W) (a := a) hx (fun x hx X h => h.rep hg hl (by simp only [ho, Op.operands, Call.operands]; exact Array.mem_append.2 (.inr (by simpa using hx))))
  obtain ⟨t, v, v', e1, e2, e3⟩ := hI hg W β _ h0
  obtain ⟨q, w', k1, k2, k4⟩ := hF hg W β (#[v'] ++ args.map a.eval) hβ (VReps.cons e3 (by simpa using ha))
  refine ⟨q, w', ?_, k2, k4⟩
  simp only [execOp, ho, resolve, Sem.run_bind, Sem.run_pure, Result.andThen_ok, e1]
  exact run_invoke e2 k1
/-- a method is called through an interface value -/
theorem ARun.invokeP {f : Operand} {name : String} {args : Array Operand} {ats : Array TypeId} {F : FuncId} {X X' : AV} {xs : List AV} {r Y : AV} {d : Option Tmp} (ho : o.op = .call { callee := .invoke f name, args := args, argTypes := ats }) (hd : o.dst = d) (hn : dstLt n d = true) (hG : gdS ops σ o.guard = some gd)
    (hcf : ∀ (va : Array Value) (W : World), (callFunc F va).run P W = .ok (.enter F va) W)
    (hf : Ev gd σ f X) (hI : gd = true → Inv P X name F X') (hx : EvL gd σ args.toList xs) (hF : gd = true → FnP P F (X' :: xs) r) (hY : optA o.guard gd r = Y)
    (hr : ARun P ops n QQ l (ks ++ [.pure]) (putS σ d Y) H) : ARun P ops n QQ (o :: l) ks σ H := by
  subst hd; subst hY
  refine ⟨.pure, _, H, hn, ⟨rfl, fun H => ?_⟩, hr⟩
  intro a W β hHr hl K Q hK
  rw [gd_wanted hG hl]
  cases gd with
  | false =>
    rw [if_neg (by simp)]
    refine hK undef W β (Ext.refl _ _) hHr ?_
    cases hg : o.guard with
    | none => rw [hg] at hG; cases hG
    | some g => exact .opt _ _ _ (fun e => by cases e) (fun _ => rfl)
  | true =>
    rw [if_pos rfl]
    have h0 := hf.rep rfl hl (by simp [ho, Op.operands, Call.operands])
    have ha := EvL.reps (β := β) (W := W) (a := a) hx (fun x hx X h => h.rep rfl hl (by simp only [ho, Op.operands, Call.operands]; exact Array.mem_append.2 (.inr (by simpa using hx))))
    obtain ⟨t, v, v', e1, e2, e3⟩ := hI rfl W β _ h0
    have hrun : (execOp a.eval o).run P W = .ok (.enter F (#[v'] ++ args.map a.eval)) W := by
      simp only [execOp, ho, resolve, Sem.run_bind, Sem.run_pure, Result.andThen_ok, e1]
      exact run_invoke e2 (hcf _ _)
    unfold Oper.wp
    rw [hrun, Oper.upon_enter]
    refine (pure_call (hF rfl) hHr (vs := #[v'] ++ args.map a.eval) (VReps.cons e3 (by simpa using ha))).mono ?_
    rintro e w' ⟨q, rfl, k1, k3⟩
    refine hK q w' β (Ext.of_below β k1) (hHr.below k1) ?_
    cases o.guard with
    | none => exact k3
    | some g => exact .opt _ _ _ (fun _ => k3) (fun e => by cases e)
/-- a call, perhaps wanted, by which one thing of one's own is changed -/
theorem ARun.callSetG {f : Operand} {args : Array Operand} {ats : Array TypeId} {F j : Nat} {fs cs xs ax : List AV} {r Y : AV} {d : Option Tmp} {ob : AO} {L' : List AO} (hm : GOK m G) (ho : o.op = .call { callee := .value f, args := args, argTypes := ats }) (hd : o.dst = d) (hn : dstLt n d = true) (hG : gdS ops σ o.guard = some gd)
    (hcf : ∀ (va : Array Value) (W : World), (callFunc F va).run P W = .ok (.enter F va) W)
    (hf : Ev gd σ f (.fn (.func F) fs cs)) (hx : EvL gd σ args.toList xs) (has : fs ++ xs ++ cs = ax) (hF : gd = true → FnH P F ax (G ++ L) r ((G ++ L).set (m + j) ob)) (hno : gd = false → L.set j ob = L) (hL : L.set j ob = L') (hY : optA o.guard gd r = Y)
    (hr : ARun P ops n QQ l (ks ++ [.write]) (putS σ d Y) (G ++ L')) : ARun P ops n QQ (o :: l) ks σ (G ++ L) := by
  subst hd; subst hY; subst has; subst hL
  refine ⟨.write, _, G ++ L.set j ob, hn, ?_, hr⟩
  refine call_step ho hG ?_ hcf hf hx (fun hg => by rw [← hm.set]; exact hF hg)
  cases gd with
  | true => exact .inl rfl
  | false => exact .inr (by rw [hno rfl])
end
end Go.Proofs.Ytopmppnnihdnaaa
