/- Errors as trees; the entries of the library's reflection that errors.As and errors.Is call. -/
import Derived.Test.YthogpkmidffdeaaDoorAmErr
import Derived.Lib.ReflectliteSlice
namespace Go.Proofs.YthogpkmidffdeaaDoor
set_option linter.unusedVariables false
set_option linter.unusedSimpArgs false
open Go.RowKit Go.Extern.Stop Go.Stop Go.Extern
set_option maxRecDepth 100000
/-- an error: none, a number, a wrapped one -/
inductive Er where
  | none
  | no (c : Int)
  | wr (op : ByteArray) (e : Er)
deriving Inhabited
def aEr : Er → AV
  | .none => .raw .nilIface
  | .no c => .ifc 29 (.int .i64 c)
  | .wr op e => .ifc 94 (.pe [.str op, aEr e])
/-- the pointer to the outermost fault -/
def aFl : Er → AV
  | .wr op e => .pe [.str op, aEr e]
  | _ => .raw (.pointer none)
def Er.isNone : Er → Bool | .none => true | _ => false
def Er.isWr : Er → Bool | .wr _ _ => true | _ => false
def Er.isNo : Er → Bool | .no _ => true | _ => false
/-- what lies innermost -/
def Er.isIt (e : Er) (c : Int) : Bool := match e with | .no d => decide (d = c) | _ => false
def Er.inner : Er → Er | .wr _ e => e.inner | e => e
def Er.depth : Er → Nat | .wr _ e => e.depth + 1 | _ => 0
def Er.ops : Er → List ByteArray | .wr op e => op :: e.ops | _ => []
def Er.next : Er → Er | .wr _ e => e | _ => .none
/-- fail.New, fail.Wrap -/
def Er.new (op : ByteArray) (c : Int) : Er := if c = 0 then .none else .wr op (.no c)
def Er.wrap (op : ByteArray) (e : Er) : Er := if e.isNone then .none else .wr op e
/-- the number that is found in it -/
def Er.found (e : Er) : Option Int := match e.inner with | .no c => some c | _ => Option.none
def Er.code (e : Er) : Int := match e with | .none => 0 | e => match e.found with | some c => if c = 0 then 2 else c | Option.none => 2
theorem nilA_aEr (e : Er) : nilA (aEr e) = some e.isNone := by cases e <;> rfl
theorem nilP_aFl (e : Er) : nilP (aFl e) = some (!e.isWr) := by cases e <;> rfl
@[simp] theorem noH_aEr (m : Nat) (e : Er) : NoH m (aEr e) := by
  induction e with
  | none => exact .raw _
  | no c => exact .ifc _ _ (.int _ _)
  | wr op e ih => exact .ifc _ _ (.pe _ (by simp [ih]))
@[simp] theorem noH_aFl (m : Nat) (e : Er) : NoH m (aFl e) := by
  cases e <;> simp [aFl]
theorem aEr_one (e : Er) : (aEr e).one = true := by cases e <;> rfl
theorem aFl_one (e : Er) : (aFl e).one = true := by cases e <;> rfl
@[simp] theorem aEr_cells (e : Er) : (aEr e).cells = [aEr e] := by cases e <;> rfl
@[simp] theorem aFl_cells (e : Er) : (aFl e).cells = [aFl e] := by cases e <;> rfl
theorem aEr_shaped (e : Er) : shaped (aEr e) = true := by cases e <;> rfl
theorem aFl_shaped (e : Er) : shaped (aFl e) = true := by cases e <;> rfl
def Er.ty : Er → TypeId | .wr _ _ => 94 | _ => 29
/-- what an error's interface value holds -/
def Er.held : Er → AV | .wr op e => .pe [.str op, aEr e] | .no c => .int .i64 c | .none => .raw .nilIface
theorem aEr_ifc {e : Er} (h : e.isNone = false) : aEr e = .ifc e.ty e.held := by cases e <;> first | rfl | cases h
def hT (t : TypeId) : AV := .raw (.pointer (some ⟨1, t, none⟩))
def rT (t : TypeId) : AV := .ifc 121 (.agg [hT t])
@[simp] theorem noH_hT (m : Nat) (t : TypeId) : NoH m (hT t) := .raw _
@[simp] theorem noH_rT (m : Nat) (t : TypeId) : NoH m (rT t) := .ifc _ _ (.agg _ (by simp))
theorem hT_inv {β : List Hd} {w : World} {v : Value} {t : TypeId} (h : VRep β w v (hT t)) : v = .pointer (some ⟨1, t, none⟩) := h.raw_inv
theorem rT_inv {β : List Hd} {w : World} {v : Value} {t : TypeId} (h : VRep β w v (rT t)) : v = .iface 121 (.agg #[.pointer (some ⟨1, t, none⟩)]) := by
  obtain ⟨u, rfl, h'⟩ := h.ifc_inv
  obtain ⟨x, rfl, h''⟩ := h'.agg1
  rw [hT_inv h'']
theorem rT_mk (β : List Hd) (w : World) (t : TypeId) : VRep β w (.iface 121 (.agg #[.pointer (some ⟨1, t, none⟩)])) (rT t) := .ifc _ _ _ (VRep.mk1 (.raw _))
theorem glob_mem : (0, .iface 121 (.agg #[.pointer (some ⟨1, 52, none⟩)])) ∈ globs := by simp [globs]
theorem invM {name : String} {F : FuncId} {t : TypeId} {X' : AV} {v' : Value} (h : ∀ w, (Go.method (Tryd.prog.types.size + Made.depth) 121 (.agg #[.pointer (some ⟨1, t, none⟩)]) name).run Tryd.prog w = .ok (F, v') w) (hv : ∀ β w, VRep β w v' X') : Inv Tryd.prog (rT t) name F X' := by
  intro W β u hu
  rw [rT_inv hu]
  exact ⟨_, _, _, rfl, h W, hv β W⟩
theorem inv_kind (t : TypeId) : Inv Tryd.prog (rT t) "Kind" 87 (hT t) := invM (fun w => by kernel_rfl) (fun _ _ => .raw _)
theorem inv_elem (t : TypeId) : Inv Tryd.prog (rT t) "Elem" 99 (.agg [hT t]) := invM (fun w => by kernel_rfl) (fun _ _ => VRep.mk1 (.raw _))
theorem inv_impl (t : TypeId) : Inv Tryd.prog (rT t) "Implements" 100 (.agg [hT t]) := invM (fun w => by kernel_rfl) (fun _ _ => VRep.mk1 (.raw _))
theorem inv_asg (t : TypeId) : Inv Tryd.prog (rT t) "AssignableTo" 97 (.agg [hT t]) := invM (fun w => by kernel_rfl) (fun _ _ => VRep.mk1 (.raw _))
theorem inv_comp (t : TypeId) : Inv Tryd.prog (rT t) "Comparable" 98 (.agg [hT t]) := invM (fun w => by kernel_rfl) (fun _ _ => VRep.mk1 (.raw _))
theorem rlm (z : Sem Value) (f : TypeId → Addr → Nat → Nat → Sem Value) (v : Value) :
    ReflectliteValue.method z f #[v] = (do match ← ReflectliteValue.parts v with | Option.none => z | some (t, a, fl) => f t a fl (fl % 32)) := rfl
theorem rls (v x : Value) : ReflectliteValue.set #[v, x] = (do
    let (some (dst, a, fl), some (src, b, _)) := (← ReflectliteValue.parts v, ← ReflectliteValue.parts x)
      | unsupported (.noEntry "extern/(internal/reflectlite.Value).Set.zeroValue")
    if fl / ReflectliteValue.flagAddr % 2 == 0 then unsupported (.noEntry "extern/(internal/reflectlite.Value).Set.unaddressable")
    let val ← loadVar src b
    if ← Rtype.directlyAssignable dst src then storeVar dst a val
    else if ← Rtype.implements dst src then
      if (← Rtype.kind src) == 20 then
        match val with
        | .nilIface => unsupported (.noEntry "extern/reflectlite: a nil value of one interface type handed on as a value of another")
        | _ => storeVar dst a val
      else storeVar dst a (.iface src val)
    else panicString ("reflectlite.Set: value of type " ++ (← Rtype.spelt src) ++ " is not assignable to type " ++ (← Rtype.spelt dst))
    pure (.tuple #[])) := rfl
theorem ext_valueOf (args : Array Value) (w : World) : (callFunc 56 args).run Tryd.prog w = ((((fun args => ReflectliteValue.unpack (args.getD 0 (.tuple #[]))) : Array Value → Sem Value) args).run Tryd.prog w).andThen fun v w' => .ok (.value v) w' :=
  run_callFunc_extern (e := fun args => ReflectliteValue.unpack (args.getD 0 (.tuple #[]))) Tryd.func56 (by kernel_rfl) (by kernel_rfl) (by kernel_rfl) (by kernel_rfl) args w
theorem ext_type (args : Array Value) (w : World) : (callFunc 57 args).run Tryd.prog w = ((((ReflectliteValue.methodAny (ReflectliteValue.valueError "reflectlite.Value.Type" 0) (fun t _ _ _ => ReflectliteType.toType t)) : Array Value → Sem Value) args).run Tryd.prog w).andThen fun v w' => .ok (.value v) w' :=
  run_callFunc_extern (e := ReflectliteValue.methodAny (ReflectliteValue.valueError "reflectlite.Value.Type" 0) (fun t _ _ _ => ReflectliteType.toType t)) Tryd.func57 (by kernel_rfl) (by kernel_rfl) (by kernel_rfl) (by kernel_rfl) args w
theorem ext_isNil (args : Array Value) (w : World) : (callFunc 58 args).run Tryd.prog w = ((((ReflectliteValue.method (ReflectliteValue.valueError "reflectlite.Value.IsNil" 0) ReflectliteValue.isNil) : Array Value → Sem Value) args).run Tryd.prog w).andThen fun v w' => .ok (.value v) w' :=
  run_callFunc_extern (e := ReflectliteValue.method (ReflectliteValue.valueError "reflectlite.Value.IsNil" 0) ReflectliteValue.isNil) Tryd.func58 (by kernel_rfl) (by kernel_rfl) (by kernel_rfl) (by kernel_rfl) args w
theorem ext_kind (args : Array Value) (w : World) : (callFunc 87 args).run Tryd.prog w = ((((ReflectliteType.abiMethod fun t => do pure (.int .u8 (← Rtype.kind t))) : Array Value → Sem Value) args).run Tryd.prog w).andThen fun v w' => .ok (.value v) w' :=
  run_callFunc_extern (e := ReflectliteType.abiMethod fun t => do pure (.int .u8 (← Rtype.kind t))) Tryd.func87 (by kernel_rfl) (by kernel_rfl) (by kernel_rfl) (by kernel_rfl) args w
theorem ext_elem (args : Array Value) (w : World) : (callFunc 99 args).run Tryd.prog w = ((((ReflectliteType.method ReflectliteType.elem) : Array Value → Sem Value) args).run Tryd.prog w).andThen fun v w' => .ok (.value v) w' :=
  run_callFunc_extern (e := ReflectliteType.method ReflectliteType.elem) Tryd.func99 (by kernel_rfl) (by kernel_rfl) (by kernel_rfl) (by kernel_rfl) args w
theorem ext_impl (args : Array Value) (w : World) : (callFunc 100 args).run Tryd.prog w = ((((ReflectliteType.relation "Implements" ReflectliteType.implements_) : Array Value → Sem Value) args).run Tryd.prog w).andThen fun v w' => .ok (.value v) w' :=
  run_callFunc_extern (e := ReflectliteType.relation "Implements" ReflectliteType.implements_) Tryd.func100 (by kernel_rfl) (by kernel_rfl) (by kernel_rfl) (by kernel_rfl) args w
theorem ext_typeOf (args : Array Value) (w : World) : (callFunc 70 args).run Tryd.prog w = ((((ReflectliteType.typeOf) : Array Value → Sem Value) args).run Tryd.prog w).andThen fun v w' => .ok (.value v) w' :=
  run_callFunc_extern (e := ReflectliteType.typeOf) Tryd.func70 (by kernel_rfl) (by kernel_rfl) (by kernel_rfl) (by kernel_rfl) args w
theorem ext_asg (args : Array Value) (w : World) : (callFunc 97 args).run Tryd.prog w = ((((ReflectliteType.relation "AssignableTo" ReflectliteType.assignableTo) : Array Value → Sem Value) args).run Tryd.prog w).andThen fun v w' => .ok (.value v) w' :=
  run_callFunc_extern (e := ReflectliteType.relation "AssignableTo" ReflectliteType.assignableTo) Tryd.func97 (by kernel_rfl) (by kernel_rfl) (by kernel_rfl) (by kernel_rfl) args w
theorem ext_comp (args : Array Value) (w : World) : (callFunc 98 args).run Tryd.prog w = ((((ReflectliteType.method fun t => do Rtype.noPackHeld "Comparable" t; pure (.bool (← typeInfo t).comparable)) : Array Value → Sem Value) args).run Tryd.prog w).andThen fun v w' => .ok (.value v) w' :=
  run_callFunc_extern (e := ReflectliteType.method fun t => do Rtype.noPackHeld "Comparable" t; pure (.bool (← typeInfo t).comparable)) Tryd.func98 (by kernel_rfl) (by kernel_rfl) (by kernel_rfl) (by kernel_rfl) args w
theorem ext_elemV (args : Array Value) (w : World) : (callFunc 71 args).run Tryd.prog w = ((((ReflectliteValue.method (ReflectliteValue.valueError "reflectlite.Value.Elem" 0) ReflectliteValue.elem) : Array Value → Sem Value) args).run Tryd.prog w).andThen fun v w' => .ok (.value v) w' :=
  run_callFunc_extern (e := ReflectliteValue.method (ReflectliteValue.valueError "reflectlite.Value.Elem" 0) ReflectliteValue.elem) Tryd.func71 (by kernel_rfl) (by kernel_rfl) (by kernel_rfl) (by kernel_rfl) args w
theorem ext_set (args : Array Value) (w : World) : (callFunc 72 args).run Tryd.prog w = ((((ReflectliteValue.set) : Array Value → Sem Value) args).run Tryd.prog w).andThen fun v w' => .ok (.value v) w' :=
  run_callFunc_extern (e := ReflectliteValue.set) Tryd.func72 (by kernel_rfl) (by kernel_rfl) (by kernel_rfl) (by kernel_rfl) args w
/-! ### E -/
theorem rf_kindPE (w : World) : ((ReflectliteType.abiMethod fun t => do pure (.int .u8 (← Rtype.kind t))) #[.pointer (some ⟨1, 75, none⟩)]).run Tryd.prog w = .ok (.int .u8 22) w := by kernel_rfl
theorem rf_kindE (w : World) : ((ReflectliteType.abiMethod fun t => do pure (.int .u8 (← Rtype.kind t))) #[.pointer (some ⟨1, 29, none⟩)]).run Tryd.prog w = .ok (.int .u8 2) w := by kernel_rfl
theorem rf_typeE (a : Addr) (w : World) : (ReflectliteValue.methodAny (ReflectliteValue.valueError "reflectlite.Value.Type" 0) (fun t _ _ _ => ReflectliteType.toType t) #[.agg #[.pointer (some ⟨1, 75, none⟩), .pointer (some a), .int .u64 150]]).run Tryd.prog w = .ok (.iface 121 (.agg #[.pointer (some ⟨1, 75, none⟩)])) w := by kernel_rfl
theorem rf_valueOfPE (t : Addr) (w : World) : (ReflectliteValue.unpack (.iface 75 (.pointer (some t)))).run Tryd.prog w = .ok (.agg #[.pointer (some ⟨1, 75, none⟩), .pointer (some ⟨w.heap.size, 0, none⟩), .int .u64 150]) (w.alloc (.cells #[.pointer (some t)] 75)) := by kernel_rfl
theorem rf_partsE (a : Addr) (w : World) : (ReflectliteValue.parts (.agg #[.pointer (some ⟨1, 75, none⟩), .pointer (some a), .int .u64 150])).run Tryd.prog w = .ok (some (75, a, 150)) w := by kernel_rfl
theorem rf_partsDE (a : Addr) (w : World) : (ReflectliteValue.parts (.agg #[.pointer (some ⟨1, 29, none⟩), .pointer (some a), .int .u64 386])).run Tryd.prog w = .ok (some (29, a, 386)) w := by kernel_rfl
theorem rf_partsSE (a : Addr) (w : World) : (ReflectliteValue.parts (.agg #[.pointer (some ⟨1, 29, none⟩), .pointer (some a), .int .u64 130])).run Tryd.prog w = .ok (some (29, a, 130)) w := by kernel_rfl
theorem rf_elemE (w : World) : (ReflectliteType.method ReflectliteType.elem #[.agg #[.pointer (some ⟨1, 75, none⟩)]]).run Tryd.prog w = .ok (.iface 121 (.agg #[.pointer (some ⟨1, 29, none⟩)])) w := by kernel_rfl
theorem rf_implE (w : World) : (ReflectliteType.relation "Implements" ReflectliteType.implements_ #[.agg #[.pointer (some ⟨1, 29, none⟩)], .iface 121 (.agg #[.pointer (some ⟨1, 52, none⟩)])]).run Tryd.prog w = .ok (.bool true) w := by kernel_rfl
theorem rf_elemOfE (w : World) : (Rtype.elem? 75).run Tryd.prog w = .ok (some 29) w := by kernel_rfl
theorem rf_mkE (p : Addr) (w : World) : (ReflectliteValue.mk 29 p ReflectliteValue.flagAddr).run Tryd.prog w = .ok (.agg #[.pointer (some ⟨1, 29, none⟩), .pointer (some p), .int .u64 386]) w := by kernel_rfl
theorem rf_directE (w : World) : (Rtype.directlyAssignable 29 29).run Tryd.prog w = .ok true w := by kernel_rfl
theorem rf_sizeE (w : World) : (sizeOf 29).run Tryd.prog w = .ok 1 w := by kernel_rfl
theorem x_kindPE : FnXP Tryd.prog 87 [hT 75] (.int .u8 22) := by
  intro w β vs hβ hv
  obtain ⟨a, rfl, h⟩ := hv.single
  rw [hT_inv h]
  exact ⟨_, w, by rw [ext_kind, rf_kindPE]; rfl, Below.refl _ _, .int _ _⟩
theorem x_kindE : FnXP Tryd.prog 87 [hT 29] (.int .u8 2) := by
  intro w β vs hβ hv
  obtain ⟨a, rfl, h⟩ := hv.single
  rw [hT_inv h]
  exact ⟨_, w, by rw [ext_kind, rf_kindE]; rfl, Below.refl _ _, .int _ _⟩
theorem x_elemE : FnXP Tryd.prog 99 [.agg [hT 75]] (rT 29) := by
  intro w β vs hβ hv
  obtain ⟨a, rfl, h⟩ := hv.single
  obtain ⟨b, rfl, h'⟩ := h.agg1
  rw [hT_inv h']
  exact ⟨_, w, by rw [ext_elem, rf_elemE]; rfl, Below.refl _ _, rT_mk _ _ _⟩
theorem x_implE : FnXP Tryd.prog 100 [.agg [hT 29], rT 52] (.bool true) := by
  intro w β vs hβ hv
  obtain ⟨a, c, rfl, h, k⟩ := hv.two
  obtain ⟨b, rfl, h'⟩ := h.agg1
  rw [hT_inv h', rT_inv k]
  exact ⟨_, w, by rw [ext_impl, rf_implE]; rfl, Below.refl _ _, .bool _⟩
theorem x_valueOfPE {H : List AO} {i off : Nat} {cs : List AV} (hi : H[i]? = some (.box cs)) : FnX Tryd.prog 56 [.ifc 75 (.box i off)] H (.agg [hT 75, .pe [.box i off], .int .u64 150]) H := by
  intro w β vs hH hv
  obtain ⟨a, rfl, h⟩ := hv.single
  obtain ⟨u, rfl, h0⟩ := h.ifc_inv
  obtain ⟨b, arr, T, h1, rfl, h3, h4, h5⟩ := h0.box_at hH hi
  have hb : Below w.heap.size w (w.alloc (.cells #[.pointer (some ⟨b, off, Option.none⟩)] 75)) := (Below.refl _ _).alloc (Nat.le_refl _) _
  refine ⟨.agg #[.pointer (some ⟨1, 75, none⟩), .pointer (some ⟨w.heap.size, 0, Option.none⟩), .int .u64 150], w.alloc (.cells #[.pointer (some ⟨b, off, Option.none⟩)] 75), β, ?_, Ext.of_below β hb, hH.below hb, ?_⟩
  · have hk := rf_valueOfPE ⟨b, off, Option.none⟩ w
    rw [ext_valueOf]
    show Result.andThen ((ReflectliteValue.unpack (Value.iface 75 (.pointer (some ⟨b, off, Option.none⟩)))).run Tryd.prog w) _ = _
    rw [hk]; rfl
  · refine VRep.mk3 (.raw _) (CRep.pe (vs := #[.pointer (some ⟨b, off, Option.none⟩)]) (fun y hy b' hb' => ?_) ⟨rfl, fun q u y e1 e2 => ?_⟩) (.int _ _)
    · obtain ⟨j, hj, rfl⟩ := List.mem_iff_getElem.1 hy
      exact hH.lt (List.getElem?_eq_getElem hj) hb'
    · cases q with
      | zero => simp at e1 e2; subst e1 e2; exact h0
      | succ q => simp at e1
theorem x_typeE (X : List AV) : FnXP Tryd.prog 57 [.agg [hT 75, .pe X, .int .u64 150]] (rT 75) := by
  intro w β vs hβ hv
  obtain ⟨a, rfl, h⟩ := hv.single
  obtain ⟨x, y, z, rfl, h1, h2, h3⟩ := h.agg3
  rw [hT_inv h1, h3.int_inv]
  obtain ⟨b, off, rfl, _⟩ := h2.pe_inv
  exact ⟨_, w, by rw [ext_type, rf_typeE]; rfl, Below.refl _ _, rT_mk _ _ _⟩
theorem x_isNilE {H : List AO} {i off : Nat} {cs : List AV} (hi : H[i]? = some (.box cs)) : FnX Tryd.prog 58 [.agg [hT 75, .pe [.box i off], .int .u64 150]] H (.bool false) H := by
  intro w β vs hH hv
  obtain ⟨a, rfl, h⟩ := hv.single
  obtain ⟨x, y, z, rfl, h1, h2, h3⟩ := h.agg3
  rw [hT_inv h1, h3.int_inv]
  obtain ⟨b, o2, rfl, hb, hS, hc⟩ := h2.pe_inv
  obtain ⟨u, hu, hr⟩ := hc 0 _ rfl
  obtain ⟨b2, arr, T, k1, rfl, k3, k4, k5⟩ := hr.box_at hH hi
  refine ⟨.bool false, w, β, ?_, Ext.refl _ _, hH, .bool _⟩
  rw [Nat.add_zero] at hu
  rw [ext_isNil, rlm]
  simp only [Sem.run_bind, rf_partsE, Result.andThen]
  simp [ReflectliteValue.isNil, loadVar, isAgg, underlying, Tryd.underlying75, hu, Result.andThen]
theorem x_elemVE {H : List AO} {i off : Nat} {cs : List AV} (hi : H[i]? = some (.box cs)) : FnX Tryd.prog 71 [.agg [hT 75, .pe [.box i off], .int .u64 150]] H (.agg [hT 29, .box i off, .int .u64 386]) H := by
  intro w β vs hH hv
  obtain ⟨a, rfl, h⟩ := hv.single
  obtain ⟨x, y, z, rfl, h1, h2, h3⟩ := h.agg3
  rw [hT_inv h1, h3.int_inv]
  obtain ⟨b, o2, rfl, hb, hS, hc⟩ := h2.pe_inv
  obtain ⟨u, hu, hr⟩ := hc 0 _ rfl
  obtain ⟨b2, arr, T, k1, rfl, k3, k4, k5⟩ := hr.box_at hH hi
  refine ⟨.agg #[.pointer (some ⟨1, 29, none⟩), .pointer (some ⟨b2, off, Option.none⟩), .int .u64 386], w, β, ?_, Ext.refl _ _, hH, VRep.mk3 (.raw _) hr (.int _ _)⟩
  rw [Nat.add_zero] at hu
  rw [ext_elemV, rlm]
  simp only [Sem.run_bind, rf_partsE, Result.andThen]
  simp [ReflectliteValue.elem, loadVar, isAgg, underlying, Tryd.underlying75, hu, Result.andThen, rf_elemOfE, rf_mkE]
theorem x_setE {H : List AO} {i : Nat} {old X : AV} (hi : H[i]? = some (.box [old])) (hX : X.one = true) (hold : old.plainC = true) : FnX Tryd.prog 72 [.agg [hT 29, .box i 0, .int .u64 386], .agg [hT 29, .pe [X], .int .u64 130]] H (.tup []) (H.set i (.box [X])) := by
  intro w β vs hH hv
  obtain ⟨a, c, rfl, h, g⟩ := hv.two
  obtain ⟨x, y, z, rfl, h1, h2, h3⟩ := h.agg3
  obtain ⟨x', y', z', rfl, g1, g2, g3⟩ := g.agg3
  rw [hT_inv h1, h3.int_inv, hT_inv g1, g3.int_inv]
  obtain ⟨b, arr, T, k1, rfl, k3, k4, k5⟩ := h2.box_at hH hi
  obtain ⟨b2, o2, rfl, hb, hS, hc⟩ := g2.pe_inv
  obtain ⟨u, hu, hr⟩ := hc 0 _ rfl
  have hu1 := hr.one hX
  have hst := run_storeCells_at Tryd.prog b 0 T [u] 0 arr w k3 (by simp [k4]) (by simpa using hu1)
  have hcs : u.cells = #[u] := by cases u <;> first | rfl | cases hu1
  have harr : (arr.toList.take 0 ++ [u] ++ arr.toList.drop (0 + 1)).toArray = #[u] := by
    have : arr.toList.drop 1 = [] := List.drop_of_length_le (by simp [k4])
    simp [this]
  simp only [Nat.add_zero, List.length_singleton] at hst
  rw [harr] at hst
  have hset := hH.setB k1 hi (cs' := [X]) (w' := w.setRow b #[u]) (by simp) (by simp) (by simp) (by simp) (fun k hk => setRow_other w b k _ hk) (fun hx => by
    refine ⟨_, setRow_heap w b arr _ T (0, 0) k3, rfl, fun q u' y' hq hy' => ?_, fun q y' hq hpl => ?_, fun _ => by simp [one_plain hX]⟩
    · cases q with
      | zero => simp at hq hy'; subst hq hy'; exact hr.ext hx
      | succ q => simp at hq
    · cases q with
      | zero => simp at hq; subst hq; rw [hold] at hpl; cases hpl
      | succ q => simp at hq)
  refine ⟨.tuple #[], w.setRow b #[u], β, ?_, hset.1, hset.2, .tup _ _ rfl (fun j u x h => by simp at h)⟩
  rw [ext_set, rls]
  simp only [Sem.run_bind, rf_partsDE, rf_partsSE, Result.andThen]
  simp only [Nat.add_zero] at hu
  simp [ReflectliteValue.flagAddr, loadVar, isAgg, underlying, Tryd.underlying29, hu, Result.andThen, rf_directE, storeVar, rf_sizeE, hcs, hst]
/-! ### F -/
theorem rf_kindPF (w : World) : ((ReflectliteType.abiMethod fun t => do pure (.int .u8 (← Rtype.kind t))) #[.pointer (some ⟨1, 117, none⟩)]).run Tryd.prog w = .ok (.int .u8 22) w := by kernel_rfl
theorem rf_kindF (w : World) : ((ReflectliteType.abiMethod fun t => do pure (.int .u8 (← Rtype.kind t))) #[.pointer (some ⟨1, 94, none⟩)]).run Tryd.prog w = .ok (.int .u8 22) w := by kernel_rfl
theorem rf_typeF (a : Addr) (w : World) : (ReflectliteValue.methodAny (ReflectliteValue.valueError "reflectlite.Value.Type" 0) (fun t _ _ _ => ReflectliteType.toType t) #[.agg #[.pointer (some ⟨1, 117, none⟩), .pointer (some a), .int .u64 150]]).run Tryd.prog w = .ok (.iface 121 (.agg #[.pointer (some ⟨1, 117, none⟩)])) w := by kernel_rfl
theorem rf_valueOfPF (t : Addr) (w : World) : (ReflectliteValue.unpack (.iface 117 (.pointer (some t)))).run Tryd.prog w = .ok (.agg #[.pointer (some ⟨1, 117, none⟩), .pointer (some ⟨w.heap.size, 0, none⟩), .int .u64 150]) (w.alloc (.cells #[.pointer (some t)] 117)) := by kernel_rfl
theorem rf_partsF (a : Addr) (w : World) : (ReflectliteValue.parts (.agg #[.pointer (some ⟨1, 117, none⟩), .pointer (some a), .int .u64 150])).run Tryd.prog w = .ok (some (117, a, 150)) w := by kernel_rfl
theorem rf_partsDF (a : Addr) (w : World) : (ReflectliteValue.parts (.agg #[.pointer (some ⟨1, 94, none⟩), .pointer (some a), .int .u64 406])).run Tryd.prog w = .ok (some (94, a, 406)) w := by kernel_rfl
theorem rf_partsSF (a : Addr) (w : World) : (ReflectliteValue.parts (.agg #[.pointer (some ⟨1, 94, none⟩), .pointer (some a), .int .u64 150])).run Tryd.prog w = .ok (some (94, a, 150)) w := by kernel_rfl
theorem rf_elemF (w : World) : (ReflectliteType.method ReflectliteType.elem #[.agg #[.pointer (some ⟨1, 117, none⟩)]]).run Tryd.prog w = .ok (.iface 121 (.agg #[.pointer (some ⟨1, 94, none⟩)])) w := by kernel_rfl
theorem rf_implF (w : World) : (ReflectliteType.relation "Implements" ReflectliteType.implements_ #[.agg #[.pointer (some ⟨1, 94, none⟩)], .iface 121 (.agg #[.pointer (some ⟨1, 52, none⟩)])]).run Tryd.prog w = .ok (.bool true) w := by kernel_rfl
theorem rf_elemOfF (w : World) : (Rtype.elem? 117).run Tryd.prog w = .ok (some 94) w := by kernel_rfl
theorem rf_mkF (p : Addr) (w : World) : (ReflectliteValue.mk 94 p ReflectliteValue.flagAddr).run Tryd.prog w = .ok (.agg #[.pointer (some ⟨1, 94, none⟩), .pointer (some p), .int .u64 406]) w := by kernel_rfl
theorem rf_directF (w : World) : (Rtype.directlyAssignable 94 94).run Tryd.prog w = .ok true w := by kernel_rfl
theorem rf_sizeF (w : World) : (sizeOf 94).run Tryd.prog w = .ok 1 w := by kernel_rfl
theorem x_kindPF : FnXP Tryd.prog 87 [hT 117] (.int .u8 22) := by
  intro w β vs hβ hv
  obtain ⟨a, rfl, h⟩ := hv.single
  rw [hT_inv h]
  exact ⟨_, w, by rw [ext_kind, rf_kindPF]; rfl, Below.refl _ _, .int _ _⟩
theorem x_kindF : FnXP Tryd.prog 87 [hT 94] (.int .u8 22) := by
  intro w β vs hβ hv
  obtain ⟨a, rfl, h⟩ := hv.single
  rw [hT_inv h]
  exact ⟨_, w, by rw [ext_kind, rf_kindF]; rfl, Below.refl _ _, .int _ _⟩
theorem x_elemF : FnXP Tryd.prog 99 [.agg [hT 117]] (rT 94) := by
  intro w β vs hβ hv
  obtain ⟨a, rfl, h⟩ := hv.single
  obtain ⟨b, rfl, h'⟩ := h.agg1
  rw [hT_inv h']
  exact ⟨_, w, by rw [ext_elem, rf_elemF]; rfl, Below.refl _ _, rT_mk _ _ _⟩
theorem x_implF : FnXP Tryd.prog 100 [.agg [hT 94], rT 52] (.bool true) := by
  intro w β vs hβ hv
  obtain ⟨a, c, rfl, h, k⟩ := hv.two
  obtain ⟨b, rfl, h'⟩ := h.agg1
  rw [hT_inv h', rT_inv k]
  exact ⟨_, w, by rw [ext_impl, rf_implF]; rfl, Below.refl _ _, .bool _⟩
theorem x_valueOfPF {H : List AO} {i off : Nat} {cs : List AV} (hi : H[i]? = some (.box cs)) : FnX Tryd.prog 56 [.ifc 117 (.box i off)] H (.agg [hT 117, .pe [.box i off], .int .u64 150]) H := by
  intro w β vs hH hv
  obtain ⟨a, rfl, h⟩ := hv.single
  obtain ⟨u, rfl, h0⟩ := h.ifc_inv
  obtain ⟨b, arr, T, h1, rfl, h3, h4, h5⟩ := h0.box_at hH hi
  have hb : Below w.heap.size w (w.alloc (.cells #[.pointer (some ⟨b, off, Option.none⟩)] 117)) := (Below.refl _ _).alloc (Nat.le_refl _) _
  refine ⟨.agg #[.pointer (some ⟨1, 117, none⟩), .pointer (some ⟨w.heap.size, 0, Option.none⟩), .int .u64 150], w.alloc (.cells #[.pointer (some ⟨b, off, Option.none⟩)] 117), β, ?_, Ext.of_below β hb, hH.below hb, ?_⟩
  · have hk := rf_valueOfPF ⟨b, off, Option.none⟩ w
    rw [ext_valueOf]
    show Result.andThen ((ReflectliteValue.unpack (Value.iface 117 (.pointer (some ⟨b, off, Option.none⟩)))).run Tryd.prog w) _ = _
    rw [hk]; rfl
  · refine VRep.mk3 (.raw _) (CRep.pe (vs := #[.pointer (some ⟨b, off, Option.none⟩)]) (fun y hy b' hb' => ?_) ⟨rfl, fun q u y e1 e2 => ?_⟩) (.int _ _)
    · obtain ⟨j, hj, rfl⟩ := List.mem_iff_getElem.1 hy
      exact hH.lt (List.getElem?_eq_getElem hj) hb'
    · cases q with
      | zero => simp at e1 e2; subst e1 e2; exact h0
      | succ q => simp at e1
theorem x_typeF (X : List AV) : FnXP Tryd.prog 57 [.agg [hT 117, .pe X, .int .u64 150]] (rT 117) := by
  intro w β vs hβ hv
  obtain ⟨a, rfl, h⟩ := hv.single
  obtain ⟨x, y, z, rfl, h1, h2, h3⟩ := h.agg3
  rw [hT_inv h1, h3.int_inv]
  obtain ⟨b, off, rfl, _⟩ := h2.pe_inv
  exact ⟨_, w, by rw [ext_type, rf_typeF]; rfl, Below.refl _ _, rT_mk _ _ _⟩
theorem x_isNilF {H : List AO} {i off : Nat} {cs : List AV} (hi : H[i]? = some (.box cs)) : FnX Tryd.prog 58 [.agg [hT 117, .pe [.box i off], .int .u64 150]] H (.bool false) H := by
  intro w β vs hH hv
  obtain ⟨a, rfl, h⟩ := hv.single
  obtain ⟨x, y, z, rfl, h1, h2, h3⟩ := h.agg3
  rw [hT_inv h1, h3.int_inv]
  obtain ⟨b, o2, rfl, hb, hS, hc⟩ := h2.pe_inv
  obtain ⟨u, hu, hr⟩ := hc 0 _ rfl
  obtain ⟨b2, arr, T, k1, rfl, k3, k4, k5⟩ := hr.box_at hH hi
  refine ⟨.bool false, w, β, ?_, Ext.refl _ _, hH, .bool _⟩
  rw [Nat.add_zero] at hu
  rw [ext_isNil, rlm]
  simp only [Sem.run_bind, rf_partsF, Result.andThen]
  simp [ReflectliteValue.isNil, loadVar, isAgg, underlying, Tryd.underlying117, hu, Result.andThen]
theorem x_elemVF {H : List AO} {i off : Nat} {cs : List AV} (hi : H[i]? = some (.box cs)) : FnX Tryd.prog 71 [.agg [hT 117, .pe [.box i off], .int .u64 150]] H (.agg [hT 94, .box i off, .int .u64 406]) H := by
  intro w β vs hH hv
  obtain ⟨a, rfl, h⟩ := hv.single
  obtain ⟨x, y, z, rfl, h1, h2, h3⟩ := h.agg3
  rw [hT_inv h1, h3.int_inv]
  obtain ⟨b, o2, rfl, hb, hS, hc⟩ := h2.pe_inv
  obtain ⟨u, hu, hr⟩ := hc 0 _ rfl
  obtain ⟨b2, arr, T, k1, rfl, k3, k4, k5⟩ := hr.box_at hH hi
  refine ⟨.agg #[.pointer (some ⟨1, 94, none⟩), .pointer (some ⟨b2, off, Option.none⟩), .int .u64 406], w, β, ?_, Ext.refl _ _, hH, VRep.mk3 (.raw _) hr (.int _ _)⟩
  rw [Nat.add_zero] at hu
  rw [ext_elemV, rlm]
  simp only [Sem.run_bind, rf_partsF, Result.andThen]
  simp [ReflectliteValue.elem, loadVar, isAgg, underlying, Tryd.underlying117, hu, Result.andThen, rf_elemOfF, rf_mkF]
theorem x_setF {H : List AO} {i : Nat} {old X : AV} (hi : H[i]? = some (.box [old])) (hX : X.one = true) (hold : old.plainC = true) : FnX Tryd.prog 72 [.agg [hT 94, .box i 0, .int .u64 406], .agg [hT 94, .pe [X], .int .u64 150]] H (.tup []) (H.set i (.box [X])) := by
  intro w β vs hH hv
  obtain ⟨a, c, rfl, h, g⟩ := hv.two
  obtain ⟨x, y, z, rfl, h1, h2, h3⟩ := h.agg3
  obtain ⟨x', y', z', rfl, g1, g2, g3⟩ := g.agg3
  rw [hT_inv h1, h3.int_inv, hT_inv g1, g3.int_inv]
  obtain ⟨b, arr, T, k1, rfl, k3, k4, k5⟩ := h2.box_at hH hi
  obtain ⟨b2, o2, rfl, hb, hS, hc⟩ := g2.pe_inv
  obtain ⟨u, hu, hr⟩ := hc 0 _ rfl
  have hu1 := hr.one hX
  have hst := run_storeCells_at Tryd.prog b 0 T [u] 0 arr w k3 (by simp [k4]) (by simpa using hu1)
  have hcs : u.cells = #[u] := by cases u <;> first | rfl | cases hu1
  have harr : (arr.toList.take 0 ++ [u] ++ arr.toList.drop (0 + 1)).toArray = #[u] := by
    have : arr.toList.drop 1 = [] := List.drop_of_length_le (by simp [k4])
    simp [this]
  simp only [Nat.add_zero, List.length_singleton] at hst
  rw [harr] at hst
  have hset := hH.setB k1 hi (cs' := [X]) (w' := w.setRow b #[u]) (by simp) (by simp) (by simp) (by simp) (fun k hk => setRow_other w b k _ hk) (fun hx => by
    refine ⟨_, setRow_heap w b arr _ T (0, 0) k3, rfl, fun q u' y' hq hy' => ?_, fun q y' hq hpl => ?_, fun _ => by simp [one_plain hX]⟩
    · cases q with
      | zero => simp at hq hy'; subst hq hy'; exact hr.ext hx
      | succ q => simp at hq
    · cases q with
      | zero => simp at hq; subst hq; rw [hold] at hpl; cases hpl
      | succ q => simp at hq)
  refine ⟨.tuple #[], w.setRow b #[u], β, ?_, hset.1, hset.2, .tup _ _ rfl (fun j u x h => by simp at h)⟩
  rw [ext_set, rls]
  simp only [Sem.run_bind, rf_partsDF, rf_partsSF, Result.andThen]
  simp only [Nat.add_zero] at hu
  simp [ReflectliteValue.flagAddr, loadVar, isAgg, underlying, Tryd.underlying94, hu, Result.andThen, rf_directF, storeVar, rf_sizeF, hcs, hst]
/-! ### of an error -/
theorem rf_typeOf (t : TypeId) (v : Value) (w : World) (ht : t = 29 ∨ t = 94) : (ReflectliteType.typeOf #[.iface t v]).run Tryd.prog w = .ok (.iface 121 (.agg #[.pointer (some ⟨1, t, Option.none⟩)])) w := by
  rcases ht with rfl | rfl <;> kernel_rfl
theorem Er.ty_two (e : Er) : e.ty = 29 ∨ e.ty = 94 := by cases e <;> simp [Er.ty]
theorem x_typeOf {e : Er} (h : e.isNone = false) : FnXP Tryd.prog 70 [aEr e] (rT e.ty) := by
  intro w β vs hβ hv
  obtain ⟨a, rfl, h1⟩ := hv.single
  rw [aEr_ifc h] at h1
  obtain ⟨u, rfl, h1'⟩ := h1.ifc_inv
  exact ⟨_, w, by rw [ext_typeOf, rf_typeOf _ _ _ e.ty_two]; rfl, Below.refl _ _, rT_mk _ _ _⟩
theorem rf_valueOfN (c : Int) (w : World) : (ReflectliteValue.unpack (.iface 29 (.int .i64 c))).run Tryd.prog w = .ok (.agg #[.pointer (some ⟨1, 29, none⟩), .pointer (some ⟨w.heap.size, 0, Option.none⟩), .int .u64 130]) (w.alloc (.cells #[.int .i64 c] 29)) := by kernel_rfl
theorem rf_valueOfF (t : Addr) (w : World) : (ReflectliteValue.unpack (.iface 94 (.pointer (some t)))).run Tryd.prog w = .ok (.agg #[.pointer (some ⟨1, 94, none⟩), .pointer (some ⟨w.heap.size, 0, Option.none⟩), .int .u64 150]) (w.alloc (.cells #[.pointer (some t)] 94)) := by kernel_rfl
theorem x_valueOfN (c : Int) : FnXP Tryd.prog 56 [aEr (.no c)] (.agg [hT 29, .pe [.int .i64 c], .int .u64 130]) := by
  intro w β vs hβ hv
  obtain ⟨a, rfl, h⟩ := hv.single
  obtain ⟨u, rfl, h'⟩ := VRep.ifc_inv h
  obtain rfl := h'.int_inv
  refine ⟨.agg #[.pointer (some ⟨1, 29, none⟩), .pointer (some ⟨w.heap.size, 0, Option.none⟩), .int .u64 130], w.alloc (.cells #[.int .i64 c] 29), ?_, (Below.refl _ _).alloc (Nat.le_refl _) _, VRep.mk3 (.raw _) (CRep.pe (vs := #[.int .i64 c]) hβ ⟨rfl, fun q u y e1 e2 => ?_⟩) (.int _ _)⟩
  · have hk := rf_valueOfN c w
    rw [ext_valueOf]
    show Result.andThen ((ReflectliteValue.unpack (Value.iface 29 (.int .i64 c))).run Tryd.prog w) _ = _
    rw [hk]; rfl
  · cases q with
    | zero => simp at e1 e2; subst e1 e2; exact .int _ _
    | succ q => simp at e1
theorem x_valueOfF (op : ByteArray) (e : Er) : FnXP Tryd.prog 56 [aEr (.wr op e)] (.agg [hT 94, .pe [aFl (.wr op e)], .int .u64 150]) := by
  intro w β vs hβ hv
  obtain ⟨a, rfl, h⟩ := hv.single
  obtain ⟨u, rfl, h0⟩ := VRep.ifc_inv h
  obtain ⟨b, off, rfl, _⟩ := h0.pe_inv
  refine ⟨.agg #[.pointer (some ⟨1, 94, none⟩), .pointer (some ⟨w.heap.size, 0, Option.none⟩), .int .u64 150], w.alloc (.cells #[.pointer (some ⟨b, off, Option.none⟩)] 94), ?_, (Below.refl _ _).alloc (Nat.le_refl _) _, VRep.mk3 (.raw _) (CRep.pe (vs := #[.pointer (some ⟨b, off, Option.none⟩)]) hβ ⟨rfl, fun q u y e1 e2 => ?_⟩) (.int _ _)⟩
  · have hk := rf_valueOfF ⟨b, off, Option.none⟩ w
    rw [ext_valueOf]
    show Result.andThen ((ReflectliteValue.unpack (Value.iface 94 (.pointer (some ⟨b, off, Option.none⟩)))).run Tryd.prog w) _ = _
    rw [hk]; rfl
  · cases q with
    | zero => simp at e1 e2; subst e1 e2; exact h0
    | succ q => simp at e1
theorem rf_asg (a b : TypeId) (w : World) (ha : a = 29 ∨ a = 94) (hb : b = 29 ∨ b = 94) : (ReflectliteType.relation "AssignableTo" ReflectliteType.assignableTo #[.agg #[.pointer (some ⟨1, a, Option.none⟩)], .iface 121 (.agg #[.pointer (some ⟨1, b, Option.none⟩)])]).run Tryd.prog w = .ok (.bool (decide (a = b))) w := by
  rcases ha with rfl | rfl <;> rcases hb with rfl | rfl <;> kernel_rfl
theorem x_asg {a b : TypeId} (ha : a = 29 ∨ a = 94) (hb : b = 29 ∨ b = 94) : FnXP Tryd.prog 97 [.agg [hT a], rT b] (.bool (decide (a = b))) := by
  intro w β vs hβ hv
  obtain ⟨x, c, rfl, h, k⟩ := hv.two
  obtain ⟨y, rfl, h'⟩ := h.agg1
  rw [hT_inv h', rT_inv k]
  exact ⟨_, w, by rw [ext_asg, rf_asg a b w ha hb]; rfl, Below.refl _ _, .bool _⟩
theorem rf_comp (w : World) : ((ReflectliteType.method fun t => do Rtype.noPackHeld "Comparable" t; pure (.bool (← typeInfo t).comparable)) #[.agg #[.pointer (some ⟨1, 29, none⟩)]]).run Tryd.prog w = .ok (.bool true) w := by kernel_rfl
theorem x_comp : FnXP Tryd.prog 98 [.agg [hT 29]] (.bool true) := by
  intro w β vs hβ hv
  obtain ⟨x, rfl, h⟩ := hv.single
  obtain ⟨y, rfl, h'⟩ := h.agg1
  rw [hT_inv h']
  exact ⟨_, w, by rw [ext_comp, rf_comp]; rfl, Below.refl _ _, .bool _⟩
theorem no_as {e : Er} (h : e.isNone = false) (W : World) (β : List Hd) (u : Value) (hu : VRep β W u (aEr e)) : ∃ v, (Instr.typeAssert u 52 126 true).run Tryd.prog W = .ok v W ∧ VRep β W v (.tup [.raw .nilIface, .bool false]) := by
  rw [aEr_ifc h] at hu
  obtain ⟨x, rfl, _⟩ := hu.ifc_inv
  refine ⟨.tuple #[.nilIface, .bool false], ?_, VRep.tup2 (.raw _) (.bool _)⟩
  rcases e.ty_two with h | h <;> rw [h] <;> exact run_typeAssert_lacksB Tryd.underlying126 (by kernel_rfl) (by kernel_rfl) x 52 W
theorem no_unwraps0 {e : Er} (h : e.isNone = false) (W : World) (β : List Hd) (u : Value) (hu : VRep β W u (aEr e)) : ∃ v, (Instr.typeAssert u 52 130 true).run Tryd.prog W = .ok v W ∧ VRep β W v (.tup [.raw .nilIface, .bool false]) := by
  rw [aEr_ifc h] at hu
  obtain ⟨x, rfl, _⟩ := hu.ifc_inv
  refine ⟨.tuple #[.nilIface, .bool false], ?_, VRep.tup2 (.raw _) (.bool _)⟩
  rcases e.ty_two with h | h <;> rw [h] <;> exact run_typeAssert_lacksB Tryd.underlying130 (by kernel_rfl) (by kernel_rfl) x 52 W
theorem to_unwrap {e : Er} (h : e.isNone = false) (W : World) (β : List Hd) (u : Value) (hu : VRep β W u (aEr e)) : ∃ v, (Instr.typeAssert u 52 129 true).run Tryd.prog W = .ok v W ∧ VRep β W v (.tup [if e.isWr then aEr e else .raw .nilIface, .bool e.isWr]) := by
  have hu0 := hu
  rw [aEr_ifc h] at hu
  obtain ⟨x, rfl, _⟩ := hu.ifc_inv
  cases e with
  | none => cases h
  | no c => exact ⟨.tuple #[.nilIface, .bool false], run_typeAssert_lacksB Tryd.underlying129 (by kernel_rfl) (by kernel_rfl) x 52 W, VRep.tup2 (.raw _) (.bool _)⟩
  | wr op e => exact ⟨.tuple #[.iface 94 x, .bool true], run_typeAssert_hasB Tryd.underlying129 (by kernel_rfl) x 52 W, VRep.tup2 hu0 (.bool _)⟩
theorem inv_unwrap (op : ByteArray) (e : Er) : Inv Tryd.prog (aEr (.wr op e)) "Unwrap" 92 (aFl (.wr op e)) := by
  intro W β u hu
  obtain ⟨v, rfl, h⟩ := VRep.ifc_inv hu
  exact ⟨_, v, v, rfl, by kernel_rfl, h⟩
theorem eq_no {e : Er} (h : e.isNone = false) (c : Int) (x y : Operand) (W : World) (β : List Hd) (u v : Value) (hu : VRep β W u (aEr e)) (hv : VRep β W v (aEr (.no c))) :
    (eqGuard .eql 52 x y u v).run Tryd.prog W = .ok () W ∧ ∃ r, (binOp .eql 52 u v).run Tryd.prog W = .ok r W ∧ VRep β W r (.bool (e.isIt c)) := by
  rw [aEr_ifc h] at hu
  obtain ⟨p, rfl, hp⟩ := hu.ifc_inv
  obtain ⟨q, rfl, hq⟩ := VRep.ifc_inv hv
  obtain rfl := hq.int_inv
  refine ⟨by simp [eqGuard], ?_⟩
  cases e with
  | none => cases h
  | no d =>
    obtain rfl := VRep.int_inv hp
    exact ⟨_, run_eqlI_int Tryd.prog W d c Tryd.underlying52 Tryd.underlying29 (by kernel_rfl), .bool _⟩
  | wr op e => exact ⟨_, run_eqlI_other Tryd.prog W Tryd.underlying52 (show (94 : Nat) ≠ 29 by decide) p _, .bool _⟩
end Go.Proofs.YthogpkmidffdeaaDoor
