/- The texts that the law LineSearches rests on, part 3: ErrLib, TextPlain, CallPlain, TextLaw, CallLaw, ClientPlain, AmCo, AmErrF, AmNum, AmText, Flat, AmLaw, CloneLib, CloneI, AmCl, AmCi, AmT39, StockPlain, StockRefP, AmStockA, RecIt, CloneIt. -/
import Derived.Test.YtcndnllmlhhjiaaGreatDoorLnS2
import Derived.Lib.ReflectliteSlice
import Derived.WideShapes
open Go.Proofs.Tryz renaming underlying3 → U3, underlying4 → U4, underlying9 → U9, underlying20 → U20, underlying22 → U22, underlying26 → U26, underlying34 → U34, underlying36 → U36, underlying40 → U40, underlying50 → U50, underlying82 → U82, underlying84 → U84, underlying93 → U93, underlying96 → U96, underlying108 → U108, underlying127 → U127, underlying132 → U132, underlying141 → U141, underlying177 → U177, underlying182 → U182, underlying188 → U188, underlying190 → U190, underlying195 → U195, underlying198 → U198, underlying213 → U213, underlying219 → U219, underlying228 → U228, underlying231 → U231, underlying232 → U232
set_option linter.unusedVariables false
set_option linter.unusedSimpArgs false
set_option maxRecDepth 100000
set_option maxHeartbeats 1000000
namespace Go.Proofs.YtcndnllmlhhjiaaGreatDoor
open Go.RowKit Go.Extern.Stop Go.Stop Go.Extern
inductive Er where
 | none
 | no (c : Int)
 | wr (op : ByteArray) (e : Er)
deriving Inhabited
def aEr : Er → AV
 | .none => .raw .nilIface
 | .no c => .ifc 36 (.int .i64 c)
 | .wr op e => .ifc 188 (.pe [.str op, aEr e])
def aFl : Er → AV
 | .wr op e => .pe [.str op, aEr e]
 | _ => .raw (.pointer none)
def Er.isNone : Er → Bool | .none => true | _ => false
def Er.isWr : Er → Bool | .wr _ _ => true | _ => false
def Er.inner : Er → Er | .wr _ e => e.inner | e => e
def Er.depth : Er → Nat | .wr _ e => e.depth + 1 | _ => 0
def Er.new (op : ByteArray) (c : Int) : Er := if c = 0 then .none else .wr op (.no c)
def Er.wrap (op : ByteArray) (e : Er) : Er := if e.isNone then .none else .wr op e
def Er.found (e : Er) : Option Int := match e.inner with | .no c => some c | _ => Option.none
def Er.code (e : Er) : Int := match e with | .none => 0 | e => match e.found with | some c => if c = 0 then 2 else c | Option.none => 2
theorem nilA_aEr (e : Er) : nilA (aEr e) = some e.isNone := by cases e <;> rfl
theorem nilP_aFl (e : Er) : nilP (aFl e) = some (!e.isWr) := by cases e <;> rfl
@[simp] theorem noH_aEr (m : Nat) (e : Er) : NoH m (aEr e) := by
 induction e with
 | none => exact .raw _
 | no c => exact .ifc _ _ (.int _ _)
 | wr op e ih => exact .ifc _ _ (.pe _ (by simp [ih]))
@[simp] theorem noH_aFl (m : Nat) (e : Er) : NoH m (aFl e) := by
 cases e <;> simp [aFl]
theorem aEr_one (e : Er) : (aEr e).one = true := by cases e <;> rfl
theorem aFl_one (e : Er) : (aFl e).one = true := by cases e <;> rfl
@[simp] theorem aEr_cells (e : Er) : (aEr e).cells = [aEr e] := by cases e <;> rfl
@[simp] theorem aFl_cells (e : Er) : (aFl e).cells = [aFl e] := by cases e <;> rfl
def Er.ty : Er → TypeId | .wr _ _ => 188 | _ => 36
def Er.held : Er → AV | .wr op e => .pe [.str op, aEr e] | .no c => .int .i64 c | .none => .raw .nilIface
theorem aEr_ifc {e : Er} (h : e.isNone = false) : aEr e = .ifc e.ty e.held := by cases e <;> first | rfl | cases h
def hT (t : TypeId) : AV := .raw (.pointer (some ⟨1, t, none⟩))
def rT (t : TypeId) : AV := .ifc 223 (.agg [hT t])
@[simp] theorem noH_hT (m : Nat) (t : TypeId) : NoH m (hT t) := .raw _
@[simp] theorem noH_rT (m : Nat) (t : TypeId) : NoH m (rT t) := .ifc _ _ (.agg _ (by simp))
theorem hT_inv {β : List Hd} {w : World} {v : Value} {t : TypeId} (h : VRep β w v (hT t)) : v = .pointer (some ⟨1, t, none⟩) := h.raw_inv
theorem rT_inv {β : List Hd} {w : World} {v : Value} {t : TypeId} (h : VRep β w v (rT t)) : v = .iface 223 (.agg #[.pointer (some ⟨1, t, none⟩)]) := by
 obtain ⟨u, rfl, h'⟩ := h.ifc_inv
 obtain ⟨x, rfl, h''⟩ := h'.agg1
 rw [hT_inv h'']
theorem rT_mk (β : List Hd) (w : World) (t : TypeId) : VRep β w (.iface 223 (.agg #[.pointer (some ⟨1, t, none⟩)])) (rT t) := .ifc _ _ _ (VRep.mk1 (.raw _))
theorem glob_mem : (0, .iface 223 (.agg #[.pointer (some ⟨1, 96, none⟩)])) ∈ globs := by simp [globs]
theorem invM {name : String} {F : FuncId} {t : TypeId} {X' : AV} {v' : Value} (h : ∀ w, (Go.method (Tryz.prog.types.size + Made.depth) 223 (.agg #[.pointer (some ⟨1, t, none⟩)]) name).run Tryz.prog w = .ok (F, v') w) (hv : ∀ β w, VRep β w v' X') : Inv Tryz.prog (rT t) name F X' := by
 intro W β u hu
 rw [rT_inv hu]
 exact ⟨_, _, _, rfl, h W, hv β W⟩
theorem inv_kind (t : TypeId) : Inv Tryz.prog (rT t) "Kind" 209 (hT t) := invM (fun w => by kernel_rfl) (fun _ _ => .raw _)
theorem inv_elem (t : TypeId) : Inv Tryz.prog (rT t) "Elem" 223 (.agg [hT t]) := invM (fun w => by kernel_rfl) (fun _ _ => VRep.mk1 (.raw _))
theorem inv_impl (t : TypeId) : Inv Tryz.prog (rT t) "Implements" 224 (.agg [hT t]) := invM (fun w => by kernel_rfl) (fun _ _ => VRep.mk1 (.raw _))
theorem inv_asg (t : TypeId) : Inv Tryz.prog (rT t) "AssignableTo" 221 (.agg [hT t]) := invM (fun w => by kernel_rfl) (fun _ _ => VRep.mk1 (.raw _))
theorem rlm (z : Sem Value) (f : TypeId → Addr → Nat → Nat → Sem Value) (v : Value) :
   ReflectliteValue.method z f #[v] = (do match ← ReflectliteValue.parts v with | Option.none => z | some (t, a, fl) => f t a fl (fl % 32)) := rfl
theorem rls (v x : Value) : ReflectliteValue.set #[v, x] = (do
   let (some (dst, a, fl), some (src, b, _)) := (← ReflectliteValue.parts v, ← ReflectliteValue.parts x)
     | unsupported (.noEntry "extern/(internal/reflectlite.Value).Set.zeroValue")
   if fl / ReflectliteValue.flagAddr % 2 == 0 then unsupported (.noEntry "extern/(internal/reflectlite.Value).Set.unaddressable")
   let val ← loadVar src b
   if ← Rtype.directlyAssignable dst src then storeVar dst a val
   else if ← Rtype.implements dst src then
     if (← Rtype.kind src) == 20 then
       match val with
       | .nilIface => unsupported (.noEntry "extern/reflectlite: a nil value of one interface type handed on as a value of another")
       | _ => storeVar dst a val
     else storeVar dst a (.iface src val)
   else panicString ("reflectlite.Set: value of type " ++ (← Rtype.spelt src) ++ " is not assignable to type " ++ (← Rtype.spelt dst))
   pure (.tuple #[])) := rfl
theorem ext_valueOf (args : Array Value) (w : World) : (callFunc 122 args).run Tryz.prog w = ((((fun args => ReflectliteValue.unpack (args.getD 0 (.tuple #[]))) : Array Value → Sem Value) args).run Tryz.prog w).andThen fun v w' => .ok (.value v) w' :=
 run_callFunc_extern (e := fun args => ReflectliteValue.unpack (args.getD 0 (.tuple #[]))) Tryz.func122 (by kernel_rfl) (by kernel_rfl) (by kernel_rfl) (by kernel_rfl) args w
theorem ext_type (args : Array Value) (w : World) : (callFunc 123 args).run Tryz.prog w = ((((ReflectliteValue.methodAny (ReflectliteValue.valueError "reflectlite.Value.Type" 0) (fun t _ _ _ => ReflectliteType.toType t)) : Array Value → Sem Value) args).run Tryz.prog w).andThen fun v w' => .ok (.value v) w' :=
 run_callFunc_extern (e := ReflectliteValue.methodAny (ReflectliteValue.valueError "reflectlite.Value.Type" 0) (fun t _ _ _ => ReflectliteType.toType t)) Tryz.func123 (by kernel_rfl) (by kernel_rfl) (by kernel_rfl) (by kernel_rfl) args w
theorem ext_isNil (args : Array Value) (w : World) : (callFunc 124 args).run Tryz.prog w = ((((ReflectliteValue.method (ReflectliteValue.valueError "reflectlite.Value.IsNil" 0) ReflectliteValue.isNil) : Array Value → Sem Value) args).run Tryz.prog w).andThen fun v w' => .ok (.value v) w' :=
 run_callFunc_extern (e := ReflectliteValue.method (ReflectliteValue.valueError "reflectlite.Value.IsNil" 0) ReflectliteValue.isNil) Tryz.func124 (by kernel_rfl) (by kernel_rfl) (by kernel_rfl) (by kernel_rfl) args w
theorem ext_kind (args : Array Value) (w : World) : (callFunc 209 args).run Tryz.prog w = ((((ReflectliteType.abiMethod fun t => do pure (.int .u8 (← Rtype.kind t))) : Array Value → Sem Value) args).run Tryz.prog w).andThen fun v w' => .ok (.value v) w' :=
 run_callFunc_extern (e := ReflectliteType.abiMethod fun t => do pure (.int .u8 (← Rtype.kind t))) Tryz.func209 (by kernel_rfl) (by kernel_rfl) (by kernel_rfl) (by kernel_rfl) args w
theorem ext_elem (args : Array Value) (w : World) : (callFunc 223 args).run Tryz.prog w = ((((ReflectliteType.method ReflectliteType.elem) : Array Value → Sem Value) args).run Tryz.prog w).andThen fun v w' => .ok (.value v) w' :=
 run_callFunc_extern (e := ReflectliteType.method ReflectliteType.elem) Tryz.func223 (by kernel_rfl) (by kernel_rfl) (by kernel_rfl) (by kernel_rfl) args w
theorem ext_impl (args : Array Value) (w : World) : (callFunc 224 args).run Tryz.prog w = ((((ReflectliteType.relation "Implements" ReflectliteType.implements_) : Array Value → Sem Value) args).run Tryz.prog w).andThen fun v w' => .ok (.value v) w' :=
 run_callFunc_extern (e := ReflectliteType.relation "Implements" ReflectliteType.implements_) Tryz.func224 (by kernel_rfl) (by kernel_rfl) (by kernel_rfl) (by kernel_rfl) args w
theorem ext_typeOf (args : Array Value) (w : World) : (callFunc 147 args).run Tryz.prog w = ((((ReflectliteType.typeOf) : Array Value → Sem Value) args).run Tryz.prog w).andThen fun v w' => .ok (.value v) w' :=
 run_callFunc_extern (e := ReflectliteType.typeOf) Tryz.func147 (by kernel_rfl) (by kernel_rfl) (by kernel_rfl) (by kernel_rfl) args w
theorem ext_asg (args : Array Value) (w : World) : (callFunc 221 args).run Tryz.prog w = ((((ReflectliteType.relation "AssignableTo" ReflectliteType.assignableTo) : Array Value → Sem Value) args).run Tryz.prog w).andThen fun v w' => .ok (.value v) w' :=
 run_callFunc_extern (e := ReflectliteType.relation "AssignableTo" ReflectliteType.assignableTo) Tryz.func221 (by kernel_rfl) (by kernel_rfl) (by kernel_rfl) (by kernel_rfl) args w
theorem ext_elemV (args : Array Value) (w : World) : (callFunc 148 args).run Tryz.prog w = ((((ReflectliteValue.method (ReflectliteValue.valueError "reflectlite.Value.Elem" 0) ReflectliteValue.elem) : Array Value → Sem Value) args).run Tryz.prog w).andThen fun v w' => .ok (.value v) w' :=
 run_callFunc_extern (e := ReflectliteValue.method (ReflectliteValue.valueError "reflectlite.Value.Elem" 0) ReflectliteValue.elem) Tryz.func148 (by kernel_rfl) (by kernel_rfl) (by kernel_rfl) (by kernel_rfl) args w
theorem ext_set (args : Array Value) (w : World) : (callFunc 149 args).run Tryz.prog w = ((((ReflectliteValue.set) : Array Value → Sem Value) args).run Tryz.prog w).andThen fun v w' => .ok (.value v) w' :=
 run_callFunc_extern (e := ReflectliteValue.set) Tryz.func149 (by kernel_rfl) (by kernel_rfl) (by kernel_rfl) (by kernel_rfl) args w
/-! ### E -/
theorem rf_kindPE (w : World) : ((ReflectliteType.abiMethod fun t => do pure (.int .u8 (← Rtype.kind t))) #[.pointer (some ⟨1, 141, none⟩)]).run Tryz.prog w = .ok (.int .u8 22) w := by kernel_rfl
theorem rf_kindE (w : World) : ((ReflectliteType.abiMethod fun t => do pure (.int .u8 (← Rtype.kind t))) #[.pointer (some ⟨1, 36, none⟩)]).run Tryz.prog w = .ok (.int .u8 2) w := by kernel_rfl
theorem rf_typeE (a : Addr) (w : World) : (ReflectliteValue.methodAny (ReflectliteValue.valueError "reflectlite.Value.Type" 0) (fun t _ _ _ => ReflectliteType.toType t) #[.agg #[.pointer (some ⟨1, 141, none⟩), .pointer (some a), .int .u64 150]]).run Tryz.prog w = .ok (.iface 223 (.agg #[.pointer (some ⟨1, 141, none⟩)])) w := by kernel_rfl
theorem rf_valueOfPE (t : Addr) (w : World) : (ReflectliteValue.unpack (.iface 141 (.pointer (some t)))).run Tryz.prog w = .ok (.agg #[.pointer (some ⟨1, 141, none⟩), .pointer (some ⟨w.heap.size, 0, none⟩), .int .u64 150]) (w.alloc (.cells #[.pointer (some t)] 141)) := by kernel_rfl
theorem rf_partsE (a : Addr) (w : World) : (ReflectliteValue.parts (.agg #[.pointer (some ⟨1, 141, none⟩), .pointer (some a), .int .u64 150])).run Tryz.prog w = .ok (some (141, a, 150)) w := by kernel_rfl
theorem rf_partsDE (a : Addr) (w : World) : (ReflectliteValue.parts (.agg #[.pointer (some ⟨1, 36, none⟩), .pointer (some a), .int .u64 386])).run Tryz.prog w = .ok (some (36, a, 386)) w := by kernel_rfl
theorem rf_partsSE (a : Addr) (w : World) : (ReflectliteValue.parts (.agg #[.pointer (some ⟨1, 36, none⟩), .pointer (some a), .int .u64 130])).run Tryz.prog w = .ok (some (36, a, 130)) w := by kernel_rfl
theorem rf_elemE (w : World) : (ReflectliteType.method ReflectliteType.elem #[.agg #[.pointer (some ⟨1, 141, none⟩)]]).run Tryz.prog w = .ok (.iface 223 (.agg #[.pointer (some ⟨1, 36, none⟩)])) w := by kernel_rfl
theorem rf_implE (w : World) : (ReflectliteType.relation "Implements" ReflectliteType.implements_ #[.agg #[.pointer (some ⟨1, 36, none⟩)], .iface 223 (.agg #[.pointer (some ⟨1, 96, none⟩)])]).run Tryz.prog w = .ok (.bool true) w := by kernel_rfl
theorem rf_elemOfE (w : World) : (Rtype.elem? 141).run Tryz.prog w = .ok (some 36) w := by kernel_rfl
theorem rf_mkE (p : Addr) (w : World) : (ReflectliteValue.mk 36 p ReflectliteValue.flagAddr).run Tryz.prog w = .ok (.agg #[.pointer (some ⟨1, 36, none⟩), .pointer (some p), .int .u64 386]) w := by kernel_rfl
theorem rf_directE (w : World) : (Rtype.directlyAssignable 36 36).run Tryz.prog w = .ok true w := by kernel_rfl
theorem rf_sizeE (w : World) : (sizeOf 36).run Tryz.prog w = .ok 1 w := by kernel_rfl
theorem x_kindPE : FnXP Tryz.prog 209 [hT 141] (.int .u8 22) := by
 intro w β vs hβ hv
 obtain ⟨a, rfl, h⟩ := hv.single
 rw [hT_inv h]
 exact ⟨_, w, by rw [ext_kind, rf_kindPE]; rfl, Below.refl _ _, .int _ _⟩
theorem x_kindE : FnXP Tryz.prog 209 [hT 36] (.int .u8 2) := by
 intro w β vs hβ hv
 obtain ⟨a, rfl, h⟩ := hv.single
 rw [hT_inv h]
 exact ⟨_, w, by rw [ext_kind, rf_kindE]; rfl, Below.refl _ _, .int _ _⟩
theorem x_elemE : FnXP Tryz.prog 223 [.agg [hT 141]] (rT 36) := by
 intro w β vs hβ hv
 obtain ⟨a, rfl, h⟩ := hv.single
 obtain ⟨b, rfl, h'⟩ := h.agg1
 rw [hT_inv h']
 exact ⟨_, w, by rw [ext_elem, rf_elemE]; rfl, Below.refl _ _, rT_mk _ _ _⟩
theorem x_implE : FnXP Tryz.prog 224 [.agg [hT 36], rT 96] (.bool true) := by
 intro w β vs hβ hv
 obtain ⟨a, c, rfl, h, k⟩ := hv.two
 obtain ⟨b, rfl, h'⟩ := h.agg1
 rw [hT_inv h', rT_inv k]
 exact ⟨_, w, by rw [ext_impl, rf_implE]; rfl, Below.refl _ _, .bool _⟩
theorem x_valueOfPE {H : List AO} {i off : Nat} {cs : List AV} (hi : H[i]? = some (.box cs)) : FnX Tryz.prog 122 [.ifc 141 (.box i off)] H (.agg [hT 141, .pe [.box i off], .int .u64 150]) H := by
 intro w β vs hH hv
 obtain ⟨a, rfl, h⟩ := hv.single
 obtain ⟨u, rfl, h0⟩ := h.ifc_inv
 obtain ⟨b, arr, T, h1, rfl, h3, h4, h5⟩ := h0.box_at hH hi
 have hb : Below w.heap.size w (w.alloc (.cells #[.pointer (some ⟨b, off, Option.none⟩)] 141)) := (Below.refl _ _).alloc (Nat.le_refl _) _
 refine ⟨.agg #[.pointer (some ⟨1, 141, none⟩), .pointer (some ⟨w.heap.size, 0, Option.none⟩), .int .u64 150], w.alloc (.cells #[.pointer (some ⟨b, off, Option.none⟩)] 141), β, ?_, Ext.of_below β hb, hH.below hb, ?_⟩
 · have hk := rf_valueOfPE ⟨b, off, Option.none⟩ w
   rw [ext_valueOf]
   show Result.andThen ((ReflectliteValue.unpack (Value.iface 141 (.pointer (some ⟨b, off, Option.none⟩)))).run Tryz.prog w) _ = _
   rw [hk]; rfl
 · refine VRep.mk3 (.raw _) (CRep.pe (vs := #[.pointer (some ⟨b, off, Option.none⟩)]) (fun y hy b' hb' => ?_) ⟨rfl, fun q u y e1 e2 => ?_⟩) (.int _ _)
   · obtain ⟨j, hj, rfl⟩ := List.mem_iff_getElem.1 hy
     exact hH.lt (List.getElem?_eq_getElem hj) hb'
   · cases q with
     | zero => simp at e1 e2; subst e1 e2; exact h0
     | succ q => simp at e1
theorem x_typeE (X : List AV) : FnXP Tryz.prog 123 [.agg [hT 141, .pe X, .int .u64 150]] (rT 141) := by
 intro w β vs hβ hv
 obtain ⟨a, rfl, h⟩ := hv.single
 obtain ⟨x, y, z, rfl, h1, h2, h3⟩ := h.agg3
 rw [hT_inv h1, h3.int_inv]
 obtain ⟨b, off, rfl, _⟩ := h2.pe_inv
 exact ⟨_, w, by rw [ext_type, rf_typeE]; rfl, Below.refl _ _, rT_mk _ _ _⟩
theorem x_isNilE {H : List AO} {i off : Nat} {cs : List AV} (hi : H[i]? = some (.box cs)) : FnX Tryz.prog 124 [.agg [hT 141, .pe [.box i off], .int .u64 150]] H (.bool false) H := by
 intro w β vs hH hv
 obtain ⟨a, rfl, h⟩ := hv.single
 obtain ⟨x, y, z, rfl, h1, h2, h3⟩ := h.agg3
 rw [hT_inv h1, h3.int_inv]
 obtain ⟨b, o2, rfl, hb, hS, hc⟩ := h2.pe_inv
 obtain ⟨u, hu, hr⟩ := hc 0 _ rfl
 obtain ⟨b2, arr, T, k1, rfl, k3, k4, k5⟩ := hr.box_at hH hi
 refine ⟨.bool false, w, β, ?_, Ext.refl _ _, hH, .bool _⟩
 rw [Nat.add_zero] at hu
 rw [ext_isNil, rlm]
 simp only [Sem.run_bind, rf_partsE, Result.andThen]
 simp [ReflectliteValue.isNil, loadVar, isAgg, underlying, U141, hu, Result.andThen]
theorem x_elemVE {H : List AO} {i off : Nat} {cs : List AV} (hi : H[i]? = some (.box cs)) : FnX Tryz.prog 148 [.agg [hT 141, .pe [.box i off], .int .u64 150]] H (.agg [hT 36, .box i off, .int .u64 386]) H := by
 intro w β vs hH hv
 obtain ⟨a, rfl, h⟩ := hv.single
 obtain ⟨x, y, z, rfl, h1, h2, h3⟩ := h.agg3
 rw [hT_inv h1, h3.int_inv]
 obtain ⟨b, o2, rfl, hb, hS, hc⟩ := h2.pe_inv
 obtain ⟨u, hu, hr⟩ := hc 0 _ rfl
 obtain ⟨b2, arr, T, k1, rfl, k3, k4, k5⟩ := hr.box_at hH hi
 refine ⟨.agg #[.pointer (some ⟨1, 36, none⟩), .pointer (some ⟨b2, off, Option.none⟩), .int .u64 386], w, β, ?_, Ext.refl _ _, hH, VRep.mk3 (.raw _) hr (.int _ _)⟩
 rw [Nat.add_zero] at hu
 rw [ext_elemV, rlm]
 simp only [Sem.run_bind, rf_partsE, Result.andThen]
 simp [ReflectliteValue.elem, loadVar, isAgg, underlying, U141, hu, Result.andThen, rf_elemOfE, rf_mkE]
theorem x_setE {H : List AO} {i : Nat} {old X : AV} (hi : H[i]? = some (.box [old])) (hX : X.one = true) (hold : old.plainC = true) : FnX Tryz.prog 149 [.agg [hT 36, .box i 0, .int .u64 386], .agg [hT 36, .pe [X], .int .u64 130]] H (.tup []) (H.set i (.box [X])) := by
 intro w β vs hH hv
 obtain ⟨a, c, rfl, h, g⟩ := hv.two
 obtain ⟨x, y, z, rfl, h1, h2, h3⟩ := h.agg3
 obtain ⟨x', y', z', rfl, g1, g2, g3⟩ := g.agg3
 rw [hT_inv h1, h3.int_inv, hT_inv g1, g3.int_inv]
 obtain ⟨b, arr, T, k1, rfl, k3, k4, k5⟩ := h2.box_at hH hi
 obtain ⟨b2, o2, rfl, hb, hS, hc⟩ := g2.pe_inv
 obtain ⟨u, hu, hr⟩ := hc 0 _ rfl
 have hu1 := hr.one hX
 have hst := run_storeCells_at Tryz.prog b 0 T [u] 0 arr w k3 (by simp [k4]) (by simpa using hu1)
 have hcs : u.cells = #[u] := by cases u <;> first | rfl | cases hu1
 have harr : (arr.toList.take 0 ++ [u] ++ arr.toList.drop (0 + 1)).toArray = #[u] := by
   have : arr.toList.drop 1 = [] := List.drop_of_length_le (by simp [k4])
   simp [this]
 simp only [Nat.add_zero, List.length_singleton] at hst
 rw [harr] at hst
 have hset := hH.setB k1 hi (cs' := [X]) (w' := w.setRow b #[u]) (by simp) (by simp) (by simp) (by simp) (fun k hk => setRow_other w b k _ hk) (fun hx => by
   refine ⟨_, setRow_heap w b arr _ T (0, 0) k3, rfl, fun q u' y' hq hy' => ?_, fun q y' hq hpl => ?_, fun _ => by simp [one_plain hX]⟩
   · cases q with
     | zero => simp at hq hy'; subst hq hy'; exact hr.ext hx
     | succ q => simp at hq
   · cases q with
     | zero => simp at hq; subst hq; rw [hold] at hpl; cases hpl
     | succ q => simp at hq)
 refine ⟨.tuple #[], w.setRow b #[u], β, ?_, hset.1, hset.2, .tup _ _ rfl (fun j u x h => by simp at h)⟩
 rw [ext_set, rls]
 simp only [Sem.run_bind, rf_partsDE, rf_partsSE, Result.andThen]
 simp only [Nat.add_zero] at hu
 simp [ReflectliteValue.flagAddr, loadVar, isAgg, underlying, U36, hu, Result.andThen, rf_directE, storeVar, rf_sizeE, hcs, hst]
/-! ### F -/
theorem rf_kindPF (w : World) : ((ReflectliteType.abiMethod fun t => do pure (.int .u8 (← Rtype.kind t))) #[.pointer (some ⟨1, 219, none⟩)]).run Tryz.prog w = .ok (.int .u8 22) w := by kernel_rfl
theorem rf_kindF (w : World) : ((ReflectliteType.abiMethod fun t => do pure (.int .u8 (← Rtype.kind t))) #[.pointer (some ⟨1, 188, none⟩)]).run Tryz.prog w = .ok (.int .u8 22) w := by kernel_rfl
theorem rf_typeF (a : Addr) (w : World) : (ReflectliteValue.methodAny (ReflectliteValue.valueError "reflectlite.Value.Type" 0) (fun t _ _ _ => ReflectliteType.toType t) #[.agg #[.pointer (some ⟨1, 219, none⟩), .pointer (some a), .int .u64 150]]).run Tryz.prog w = .ok (.iface 223 (.agg #[.pointer (some ⟨1, 219, none⟩)])) w := by kernel_rfl
theorem rf_valueOfPF (t : Addr) (w : World) : (ReflectliteValue.unpack (.iface 219 (.pointer (some t)))).run Tryz.prog w = .ok (.agg #[.pointer (some ⟨1, 219, none⟩), .pointer (some ⟨w.heap.size, 0, none⟩), .int .u64 150]) (w.alloc (.cells #[.pointer (some t)] 219)) := by kernel_rfl
theorem rf_partsF (a : Addr) (w : World) : (ReflectliteValue.parts (.agg #[.pointer (some ⟨1, 219, none⟩), .pointer (some a), .int .u64 150])).run Tryz.prog w = .ok (some (219, a, 150)) w := by kernel_rfl
theorem rf_partsDF (a : Addr) (w : World) : (ReflectliteValue.parts (.agg #[.pointer (some ⟨1, 188, none⟩), .pointer (some a), .int .u64 406])).run Tryz.prog w = .ok (some (188, a, 406)) w := by kernel_rfl
theorem rf_partsSF (a : Addr) (w : World) : (ReflectliteValue.parts (.agg #[.pointer (some ⟨1, 188, none⟩), .pointer (some a), .int .u64 150])).run Tryz.prog w = .ok (some (188, a, 150)) w := by kernel_rfl
theorem rf_elemF (w : World) : (ReflectliteType.method ReflectliteType.elem #[.agg #[.pointer (some ⟨1, 219, none⟩)]]).run Tryz.prog w = .ok (.iface 223 (.agg #[.pointer (some ⟨1, 188, none⟩)])) w := by kernel_rfl
theorem rf_implF (w : World) : (ReflectliteType.relation "Implements" ReflectliteType.implements_ #[.agg #[.pointer (some ⟨1, 188, none⟩)], .iface 223 (.agg #[.pointer (some ⟨1, 96, none⟩)])]).run Tryz.prog w = .ok (.bool true) w := by kernel_rfl
theorem rf_elemOfF (w : World) : (Rtype.elem? 219).run Tryz.prog w = .ok (some 188) w := by kernel_rfl
theorem rf_mkF (p : Addr) (w : World) : (ReflectliteValue.mk 188 p ReflectliteValue.flagAddr).run Tryz.prog w = .ok (.agg #[.pointer (some ⟨1, 188, none⟩), .pointer (some p), .int .u64 406]) w := by kernel_rfl
theorem rf_directF (w : World) : (Rtype.directlyAssignable 188 188).run Tryz.prog w = .ok true w := by kernel_rfl
theorem rf_sizeF (w : World) : (sizeOf 188).run Tryz.prog w = .ok 1 w := by kernel_rfl
theorem x_kindPF : FnXP Tryz.prog 209 [hT 219] (.int .u8 22) := by
 intro w β vs hβ hv
 obtain ⟨a, rfl, h⟩ := hv.single
 rw [hT_inv h]
 exact ⟨_, w, by rw [ext_kind, rf_kindPF]; rfl, Below.refl _ _, .int _ _⟩
theorem x_kindF : FnXP Tryz.prog 209 [hT 188] (.int .u8 22) := by
 intro w β vs hβ hv
 obtain ⟨a, rfl, h⟩ := hv.single
 rw [hT_inv h]
 exact ⟨_, w, by rw [ext_kind, rf_kindF]; rfl, Below.refl _ _, .int _ _⟩
theorem x_elemF : FnXP Tryz.prog 223 [.agg [hT 219]] (rT 188) := by
 intro w β vs hβ hv
 obtain ⟨a, rfl, h⟩ := hv.single
 obtain ⟨b, rfl, h'⟩ := h.agg1
 rw [hT_inv h']
 exact ⟨_, w, by rw [ext_elem, rf_elemF]; rfl, Below.refl _ _, rT_mk _ _ _⟩
theorem x_implF : FnXP Tryz.prog 224 [.agg [hT 188], rT 96] (.bool true) := by
 intro w β vs hβ hv
 obtain ⟨a, c, rfl, h, k⟩ := hv.two
 obtain ⟨b, rfl, h'⟩ := h.agg1
 rw [hT_inv h', rT_inv k]
 exact ⟨_, w, by rw [ext_impl, rf_implF]; rfl, Below.refl _ _, .bool _⟩
theorem x_valueOfPF {H : List AO} {i off : Nat} {cs : List AV} (hi : H[i]? = some (.box cs)) : FnX Tryz.prog 122 [.ifc 219 (.box i off)] H (.agg [hT 219, .pe [.box i off], .int .u64 150]) H := by
 intro w β vs hH hv
 obtain ⟨a, rfl, h⟩ := hv.single
 obtain ⟨u, rfl, h0⟩ := h.ifc_inv
 obtain ⟨b, arr, T, h1, rfl, h3, h4, h5⟩ := h0.box_at hH hi
 have hb : Below w.heap.size w (w.alloc (.cells #[.pointer (some ⟨b, off, Option.none⟩)] 219)) := (Below.refl _ _).alloc (Nat.le_refl _) _
 refine ⟨.agg #[.pointer (some ⟨1, 219, none⟩), .pointer (some ⟨w.heap.size, 0, Option.none⟩), .int .u64 150], w.alloc (.cells #[.pointer (some ⟨b, off, Option.none⟩)] 219), β, ?_, Ext.of_below β hb, hH.below hb, ?_⟩
 · have hk := rf_valueOfPF ⟨b, off, Option.none⟩ w
   rw [ext_valueOf]
   show Result.andThen ((ReflectliteValue.unpack (Value.iface 219 (.pointer (some ⟨b, off, Option.none⟩)))).run Tryz.prog w) _ = _
   rw [hk]; rfl
 · refine VRep.mk3 (.raw _) (CRep.pe (vs := #[.pointer (some ⟨b, off, Option.none⟩)]) (fun y hy b' hb' => ?_) ⟨rfl, fun q u y e1 e2 => ?_⟩) (.int _ _)
   · obtain ⟨j, hj, rfl⟩ := List.mem_iff_getElem.1 hy
     exact hH.lt (List.getElem?_eq_getElem hj) hb'
   · cases q with
     | zero => simp at e1 e2; subst e1 e2; exact h0
     | succ q => simp at e1
theorem x_typeF (X : List AV) : FnXP Tryz.prog 123 [.agg [hT 219, .pe X, .int .u64 150]] (rT 219) := by
 intro w β vs hβ hv
 obtain ⟨a, rfl, h⟩ := hv.single
 obtain ⟨x, y, z, rfl, h1, h2, h3⟩ := h.agg3
 rw [hT_inv h1, h3.int_inv]
 obtain ⟨b, off, rfl, _⟩ := h2.pe_inv
 exact ⟨_, w, by rw [ext_type, rf_typeF]; rfl, Below.refl _ _, rT_mk _ _ _⟩
theorem x_isNilF {H : List AO} {i off : Nat} {cs : List AV} (hi : H[i]? = some (.box cs)) : FnX Tryz.prog 124 [.agg [hT 219, .pe [.box i off], .int .u64 150]] H (.bool false) H := by
 intro w β vs hH hv
 obtain ⟨a, rfl, h⟩ := hv.single
 obtain ⟨x, y, z, rfl, h1, h2, h3⟩ := h.agg3
 rw [hT_inv h1, h3.int_inv]
 obtain ⟨b, o2, rfl, hb, hS, hc⟩ := h2.pe_inv
 obtain ⟨u, hu, hr⟩ := hc 0 _ rfl
 obtain ⟨b2, arr, T, k1, rfl, k3, k4, k5⟩ := hr.box_at hH hi
 refine ⟨.bool false, w, β, ?_, Ext.refl _ _, hH, .bool _⟩
 rw [Nat.add_zero] at hu
 rw [ext_isNil, rlm]
 simp only [Sem.run_bind, rf_partsF, Result.andThen]
 simp [ReflectliteValue.isNil, loadVar, isAgg, underlying, U219, hu, Result.andThen]
theorem x_elemVF {H : List AO} {i off : Nat} {cs : List AV} (hi : H[i]? = some (.box cs)) : FnX Tryz.prog 148 [.agg [hT 219, .pe [.box i off], .int .u64 150]] H (.agg [hT 188, .box i off, .int .u64 406]) H := by
 intro w β vs hH hv
 obtain ⟨a, rfl, h⟩ := hv.single
 obtain ⟨x, y, z, rfl, h1, h2, h3⟩ := h.agg3
 rw [hT_inv h1, h3.int_inv]
 obtain ⟨b, o2, rfl, hb, hS, hc⟩ := h2.pe_inv
 obtain ⟨u, hu, hr⟩ := hc 0 _ rfl
 obtain ⟨b2, arr, T, k1, rfl, k3, k4, k5⟩ := hr.box_at hH hi
 refine ⟨.agg #[.pointer (some ⟨1, 188, none⟩), .pointer (some ⟨b2, off, Option.none⟩), .int .u64 406], w, β, ?_, Ext.refl _ _, hH, VRep.mk3 (.raw _) hr (.int _ _)⟩
 rw [Nat.add_zero] at hu
 rw [ext_elemV, rlm]
 simp only [Sem.run_bind, rf_partsF, Result.andThen]
 simp [ReflectliteValue.elem, loadVar, isAgg, underlying, U219, hu, Result.andThen, rf_elemOfF, rf_mkF]
theorem x_setF {H : List AO} {i : Nat} {old X : AV} (hi : H[i]? = some (.box [old])) (hX : X.one = true) (hold : old.plainC = true) : FnX Tryz.prog 149 [.agg [hT 188, .box i 0, .int .u64 406], .agg [hT 188, .pe [X], .int .u64 150]] H (.tup []) (H.set i (.box [X])) := by
 intro w β vs hH hv
 obtain ⟨a, c, rfl, h, g⟩ := hv.two
 obtain ⟨x, y, z, rfl, h1, h2, h3⟩ := h.agg3
 obtain ⟨x', y', z', rfl, g1, g2, g3⟩ := g.agg3
 rw [hT_inv h1, h3.int_inv, hT_inv g1, g3.int_inv]
 obtain ⟨b, arr, T, k1, rfl, k3, k4, k5⟩ := h2.box_at hH hi
 obtain ⟨b2, o2, rfl, hb, hS, hc⟩ := g2.pe_inv
 obtain ⟨u, hu, hr⟩ := hc 0 _ rfl
 have hu1 := hr.one hX
 have hst := run_storeCells_at Tryz.prog b 0 T [u] 0 arr w k3 (by simp [k4]) (by simpa using hu1)
 have hcs : u.cells = #[u] := by cases u <;> first | rfl | cases hu1
 have harr : (arr.toList.take 0 ++ [u] ++ arr.toList.drop (0 + 1)).toArray = #[u] := by
   have : arr.toList.drop 1 = [] := List.drop_of_length_le (by simp [k4])
   simp [this]
 simp only [Nat.add_zero, List.length_singleton] at hst
 rw [harr] at hst
 have hset := hH.setB k1 hi (cs' := [X]) (w' := w.setRow b #[u]) (by simp) (by simp) (by simp) (by simp) (fun k hk => setRow_other w b k _ hk) (fun hx => by
   refine ⟨_, setRow_heap w b arr _ T (0, 0) k3, rfl, fun q u' y' hq hy' => ?_, fun q y' hq hpl => ?_, fun _ => by simp [one_plain hX]⟩
   · cases q with
     | zero => simp at hq hy'; subst hq hy'; exact hr.ext hx
     | succ q => simp at hq
   · cases q with
     | zero => simp at hq; subst hq; rw [hold] at hpl; cases hpl
     | succ q => simp at hq)
 refine ⟨.tuple #[], w.setRow b #[u], β, ?_, hset.1, hset.2, .tup _ _ rfl (fun j u x h => by simp at h)⟩
 rw [ext_set, rls]
 simp only [Sem.run_bind, rf_partsDF, rf_partsSF, Result.andThen]
 simp only [Nat.add_zero] at hu
 simp [ReflectliteValue.flagAddr, loadVar, isAgg, underlying, U188, hu, Result.andThen, rf_directF, storeVar, rf_sizeF, hcs, hst]
/-! ### of an error -/
theorem rf_typeOf (t : TypeId) (v : Value) (w : World) (ht : t = 36 ∨ t = 188) : (ReflectliteType.typeOf #[.iface t v]).run Tryz.prog w = .ok (.iface 223 (.agg #[.pointer (some ⟨1, t, Option.none⟩)])) w := by
 rcases ht with rfl | rfl <;> kernel_rfl
theorem Er.ty_two (e : Er) : e.ty = 36 ∨ e.ty = 188 := by cases e <;> simp [Er.ty]
theorem x_typeOf {e : Er} (h : e.isNone = false) : FnXP Tryz.prog 147 [aEr e] (rT e.ty) := by
 intro w β vs hβ hv
 obtain ⟨a, rfl, h1⟩ := hv.single
 rw [aEr_ifc h] at h1
 obtain ⟨u, rfl, h1'⟩ := h1.ifc_inv
 exact ⟨_, w, by rw [ext_typeOf, rf_typeOf _ _ _ e.ty_two]; rfl, Below.refl _ _, rT_mk _ _ _⟩
theorem rf_valueOfN (c : Int) (w : World) : (ReflectliteValue.unpack (.iface 36 (.int .i64 c))).run Tryz.prog w = .ok (.agg #[.pointer (some ⟨1, 36, none⟩), .pointer (some ⟨w.heap.size, 0, Option.none⟩), .int .u64 130]) (w.alloc (.cells #[.int .i64 c] 36)) := by kernel_rfl
theorem rf_valueOfF (t : Addr) (w : World) : (ReflectliteValue.unpack (.iface 188 (.pointer (some t)))).run Tryz.prog w = .ok (.agg #[.pointer (some ⟨1, 188, none⟩), .pointer (some ⟨w.heap.size, 0, Option.none⟩), .int .u64 150]) (w.alloc (.cells #[.pointer (some t)] 188)) := by kernel_rfl
theorem x_valueOfN (c : Int) : FnXP Tryz.prog 122 [aEr (.no c)] (.agg [hT 36, .pe [.int .i64 c], .int .u64 130]) := by
 intro w β vs hβ hv
 obtain ⟨a, rfl, h⟩ := hv.single
 obtain ⟨u, rfl, h'⟩ := VRep.ifc_inv h
 obtain rfl := h'.int_inv
 refine ⟨.agg #[.pointer (some ⟨1, 36, none⟩), .pointer (some ⟨w.heap.size, 0, Option.none⟩), .int .u64 130], w.alloc (.cells #[.int .i64 c] 36), ?_, (Below.refl _ _).alloc (Nat.le_refl _) _, VRep.mk3 (.raw _) (CRep.pe (vs := #[.int .i64 c]) hβ ⟨rfl, fun q u y e1 e2 => ?_⟩) (.int _ _)⟩
 · have hk := rf_valueOfN c w
   rw [ext_valueOf]
   show Result.andThen ((ReflectliteValue.unpack (Value.iface 36 (.int .i64 c))).run Tryz.prog w) _ = _
   rw [hk]; rfl
 · cases q with
   | zero => simp at e1 e2; subst e1 e2; exact .int _ _
   | succ q => simp at e1
theorem x_valueOfF (op : ByteArray) (e : Er) : FnXP Tryz.prog 122 [aEr (.wr op e)] (.agg [hT 188, .pe [aFl (.wr op e)], .int .u64 150]) := by
 intro w β vs hβ hv
 obtain ⟨a, rfl, h⟩ := hv.single
 obtain ⟨u, rfl, h0⟩ := VRep.ifc_inv h
 obtain ⟨b, off, rfl, _⟩ := h0.pe_inv
 refine ⟨.agg #[.pointer (some ⟨1, 188, none⟩), .pointer (some ⟨w.heap.size, 0, Option.none⟩), .int .u64 150], w.alloc (.cells #[.pointer (some ⟨b, off, Option.none⟩)] 188), ?_, (Below.refl _ _).alloc (Nat.le_refl _) _, VRep.mk3 (.raw _) (CRep.pe (vs := #[.pointer (some ⟨b, off, Option.none⟩)]) hβ ⟨rfl, fun q u y e1 e2 => ?_⟩) (.int _ _)⟩
 · have hk := rf_valueOfF ⟨b, off, Option.none⟩ w
   rw [ext_valueOf]
   show Result.andThen ((ReflectliteValue.unpack (Value.iface 188 (.pointer (some ⟨b, off, Option.none⟩)))).run Tryz.prog w) _ = _
   rw [hk]; rfl
 · cases q with
   | zero => simp at e1 e2; subst e1 e2; exact h0
   | succ q => simp at e1
theorem rf_asg (a b : TypeId) (w : World) (ha : a = 36 ∨ a = 188) (hb : b = 36 ∨ b = 188) : (ReflectliteType.relation "AssignableTo" ReflectliteType.assignableTo #[.agg #[.pointer (some ⟨1, a, Option.none⟩)], .iface 223 (.agg #[.pointer (some ⟨1, b, Option.none⟩)])]).run Tryz.prog w = .ok (.bool (decide (a = b))) w := by
 rcases ha with rfl | rfl <;> rcases hb with rfl | rfl <;> kernel_rfl
theorem x_asg {a b : TypeId} (ha : a = 36 ∨ a = 188) (hb : b = 36 ∨ b = 188) : FnXP Tryz.prog 221 [.agg [hT a], rT b] (.bool (decide (a = b))) := by
 intro w β vs hβ hv
 obtain ⟨x, c, rfl, h, k⟩ := hv.two
 obtain ⟨y, rfl, h'⟩ := h.agg1
 rw [hT_inv h', rT_inv k]
 exact ⟨_, w, by rw [ext_asg, rf_asg a b w ha hb]; rfl, Below.refl _ _, .bool _⟩
theorem no_as {e : Er} (h : e.isNone = false) (W : World) (β : List Hd) (u : Value) (hu : VRep β W u (aEr e)) : ∃ v, (Instr.typeAssert u 96 228 true).run Tryz.prog W = .ok v W ∧ VRep β W v (.tup [.raw .nilIface, .bool false]) := by
 rw [aEr_ifc h] at hu
 obtain ⟨x, rfl, _⟩ := hu.ifc_inv
 refine ⟨.tuple #[.nilIface, .bool false], ?_, VRep.tup2 (.raw _) (.bool _)⟩
 rcases e.ty_two with h | h <;> rw [h] <;> exact run_typeAssert_lacksB U228 (by kernel_rfl) (by kernel_rfl) x 96 W
theorem no_unwraps0 {e : Er} (h : e.isNone = false) (W : World) (β : List Hd) (u : Value) (hu : VRep β W u (aEr e)) : ∃ v, (Instr.typeAssert u 96 232 true).run Tryz.prog W = .ok v W ∧ VRep β W v (.tup [.raw .nilIface, .bool false]) := by
 rw [aEr_ifc h] at hu
 obtain ⟨x, rfl, _⟩ := hu.ifc_inv
 refine ⟨.tuple #[.nilIface, .bool false], ?_, VRep.tup2 (.raw _) (.bool _)⟩
 rcases e.ty_two with h | h <;> rw [h] <;> exact run_typeAssert_lacksB U232 (by kernel_rfl) (by kernel_rfl) x 96 W
theorem to_unwrap {e : Er} (h : e.isNone = false) (W : World) (β : List Hd) (u : Value) (hu : VRep β W u (aEr e)) : ∃ v, (Instr.typeAssert u 96 231 true).run Tryz.prog W = .ok v W ∧ VRep β W v (.tup [if e.isWr then aEr e else .raw .nilIface, .bool e.isWr]) := by
 have hu0 := hu
 rw [aEr_ifc h] at hu
 obtain ⟨x, rfl, _⟩ := hu.ifc_inv
 cases e with
 | none => cases h
 | no c => exact ⟨.tuple #[.nilIface, .bool false], run_typeAssert_lacksB U231 (by kernel_rfl) (by kernel_rfl) x 96 W, VRep.tup2 (.raw _) (.bool _)⟩
 | wr op e => exact ⟨.tuple #[.iface 188 x, .bool true], run_typeAssert_hasB U231 (by kernel_rfl) x 96 W, VRep.tup2 hu0 (.bool _)⟩
theorem inv_unwrap (op : ByteArray) (e : Er) : Inv Tryz.prog (aEr (.wr op e)) "Unwrap" 215 (aFl (.wr op e)) := by
 intro W β u hu
 obtain ⟨v, rfl, h⟩ := VRep.ifc_inv hu
 exact ⟨_, v, v, rfl, by kernel_rfl, h⟩
end Go.Proofs.YtcndnllmlhhjiaaGreatDoor
namespace Go.Proofs.YtcndnllmlhhjiaaGreatDoor
open NumP
def tNum : ByteArray := ⟨#[110, 117, 109]⟩
def tRow : ByteArray := ⟨#[114, 111, 119]⟩
def tEnd : ByteArray := ⟨#[101, 110, 100]⟩
def tRead : ByteArray := ⟨#[114, 101, 97, 100]⟩
def tWrite : ByteArray := ⟨#[119, 114, 105, 116, 101]⟩
def errOf (op p : ByteArray) (e : Int) : Er := if e = 0 then .none else .wr op (.wr p (.no e))
theorem errOf_zero (op p : ByteArray) : errOf op p 0 = .none := if_pos rfl
theorem errOf_none (op p : ByteArray) (e : Int) : (errOf op p e).isNone = decide (e = 0) := by
 unfold errOf; split <;> simp_all [Er.isNone]
theorem errOf_isWr (op p : ByteArray) (e : Int) : (errOf op p e).isWr = !decide (e = 0) := by
 unfold errOf; split <;> simp_all [Er.isWr]
theorem errOf_mk (op p : ByteArray) (e : Int) : Er.wrap op (Er.new p e) = errOf op p e := by
 unfold errOf Er.wrap Er.new; split <;> simp [Er.isNone]
/-! ### a reader -/
structure RdS where
 s : ByteArray
 at_ : Int
 p : ByteArray
 e : Int
def RdS.new (s : ByteArray) : RdS := ⟨s, 0, ⟨#[]⟩, 0⟩
def RdS.ok (r : RdS) : Prop := 0 ≤ r.at_ ∧ r.at_ ≤ r.s.size ∧ r.s.size ≤ 1000000
def RdS.moved (r : RdS) (p : ByteArray) (to e : Int) : RdS := if e ≠ 0 then { r with p := p, e := e } else { r with at_ := to }
def numE (r : RdS) (most : Int) : Int := if (getN (bl r.s) r.at_).2.2 = 0 ∧ (getN (bl r.s) r.at_).1 > most then 3 else (getN (bl r.s) r.at_).2.2
def rdNum (r : RdS) (most : Int) : RdS × Int :=
 if r.e ≠ 0 then (r, 0) else (r.moved tNum (getN (bl r.s) r.at_).2.1 (numE r most), if numE r most ≠ 0 then 0 else (getN (bl r.s) r.at_).1)
def rdRow (r : RdS) (most : Int) : RdS × List Int :=
 if r.e ≠ 0 then (r, []) else (r.moved tRow (unrowN (bl r.s) r.at_ most).2.1 (unrowN (bl r.s) r.at_ most).2.2, (unrowN (bl r.s) r.at_ most).1)
def rdEnd (r : RdS) : RdS := if r.e = 0 ∧ r.at_ < r.s.size then r.moved tEnd 0 6 else r
theorem moved_ok {r : RdS} (h : r.ok) (p : ByteArray) (to e : Int) (ht : e = 0 → 0 ≤ to ∧ to ≤ r.s.size) : (r.moved p to e).ok := by
 unfold RdS.moved RdS.ok at *
 split
 · exact h
 · rename_i h0
   have := ht (by omega)
   exact ⟨this.1, this.2, h.2.2⟩
theorem unrowF_bd (l : List UInt8) (hl : l.length ≤ 1000000) (k : Nat) : ∀ (to : Int) (acc : List Int), 0 ≤ to → to ≤ l.length → 0 ≤ (unrowF l k to acc).2.1 ∧ (unrowF l k to acc).2.1 ≤ l.length := by
 induction k with
 | zero => intro to acc h1 h2; exact ⟨h1, h2⟩
 | succ k ih =>
   intro to acc h1 h2
   rw [unrow_step]
   split
   · dsimp only; omega
   · have := getN_bd l to hl
     exact ih _ _ this.2.2.1 this.2.2.2
theorem unrowN_bd (l : List UInt8) (hl : l.length ≤ 1000000) (p top : Int) : 0 ≤ (unrowN l p top).2.1 ∧ (unrowN l p top).2.1 ≤ l.length := by
 unfold unrowN
 split
 · dsimp only; omega
 · split
   · dsimp only; omega
   · have := getN_bd l p hl
     exact unrowF_bd l hl _ _ _ this.2.2.1 this.2.2.2
theorem rdNum_ok {r : RdS} (h : r.ok) (most : Int) : (rdNum r most).1.ok := by
 unfold rdNum
 split
 · exact h
 · have := getN_bd (bl r.s) r.at_ (by rw [bl_len]; exact h.2.2)
   rw [bl_len] at this
   exact moved_ok h _ _ _ fun _ => ⟨this.2.2.1, this.2.2.2⟩
theorem rdRow_ok {r : RdS} (h : r.ok) (most : Int) : (rdRow r most).1.ok := by
 unfold rdRow
 split
 · exact h
 · have := unrowN_bd (bl r.s) (by rw [bl_len]; exact h.2.2) r.at_ most
   rw [bl_len] at this
   exact moved_ok h _ _ _ fun _ => this
/-! ### a writer -/
structure WrS where
 s : List UInt8
 p : ByteArray
 e : Int
def WrS.new : WrS := ⟨[], ⟨#[]⟩, 0⟩
def WrS.out (w : WrS) : ByteArray := if w.e = 0 then bs w.s else ⟨#[]⟩
def wrPut (w : WrS) (p : ByteArray) (t : List UInt8) (e : Int) : WrS := if w.e ≠ 0 then w else if e ≠ 0 then { w with p := p, e := e } else { w with s := w.s ++ t }
def wrNum (w : WrS) (n : Int) : WrS := wrPut w tNum (putN n).1 (putN n).2
def wrNums (w : WrS) (l : List Int) : WrS := l.foldl wrNum w
def wrRow (w : WrS) (l : List Int) : WrS := wrPut w tRow (rowN l).1 (rowN l).2
theorem wrPut_len (w : WrS) (p : ByteArray) (t : List UInt8) (e : Int) : (wrPut w p t e).s.length ≤ w.s.length + t.length := by
 unfold wrPut
 split
 · omega
 · split
   · dsimp only; omega
   · simp
theorem wrNum_len (w : WrS) (n : Int) : (wrNum w n).s.length ≤ w.s.length + 9 := Nat.le_trans (wrPut_len _ _ _ _) (by have := putN_len n; omega)
theorem wrNums_len (l : List Int) : ∀ (w : WrS), (wrNums w l).s.length ≤ w.s.length + 9 * l.length := by
 induction l with
 | nil => intro w; simp [wrNums]
 | cons x l ih =>
   intro w
   have h1 := ih (wrNum w x)
   have h2 := wrNum_len w x
   show (wrNums (wrNum w x) l).s.length ≤ _
   simp; omega
theorem wrNums_snoc (w : WrS) (l : List Int) (x : Int) : wrNums w (l ++ [x]) = wrNum (wrNums w l) x := by simp [wrNums]
theorem wrNums_succ (w : WrS) (l : List Int) (k : Nat) (h : k < l.length) : wrNums w (l.take (k + 1)) = wrNum (wrNums w (l.take k)) (l.getD k default) := by
 rw [List.take_succ_eq_append_getElem h, wrNums_snoc]; simp [List.getD, h]
end Go.Proofs.YtcndnllmlhhjiaaGreatDoor
namespace Go.Proofs.YtcndnllmlhhjiaaGreatDoor
open NumP
structure Ln where
 item : Int
 qty : Int
deriving DecidableEq
instance : Inhabited Ln := ⟨⟨0, 0⟩⟩
structure Cl where
 client : Int
 seq : Int
 kind : Int
 item : Int
 to_ : Int
 qty : Int
 lines : List Ln
deriving DecidableEq
instance : Inhabited Cl := ⟨⟨0, 0, 0, 0, 0, 0, []⟩⟩
def Cl.zero : Cl := ⟨0, 0, 0, 0, 0, 0, []⟩
def numbP (n : Int) : Bool := decide (1 ≤ n) && decide (n ≤ 99999)
def someP (n : Int) : Bool := decide (1 ≤ n) && decide (n ≤ 1000000)
def okAt (l : List Ln) (k : Nat) : Bool := numbP (l.getD k default).item && (decide (k = 0) || decide ((l.getD (k - 1) default).item < (l.getD k default).item)) && someP (l.getD k default).qty
def linesP (l : List Ln) : Bool := decide (0 < l.length) && decide (l.length ≤ 5) && (List.range l.length).all (okAt l)
def lastAt (l : List Ln) (k : Nat) : Int := if k = 0 then 0 else (l.getD (k - 1) default).item
def bareP (c : Cl) : Bool := decide (c.to_ = 0) && decide (c.lines.length = 0) && numbP c.item
def mayP (c : Cl) : Bool :=
 if c.kind = 1 then bareP c && (decide (c.qty = 0) || someP c.qty) else if c.kind = 2 ∨ c.kind = 3 ∨ c.kind = 4 ∨ c.kind = 5 then bareP c && someP c.qty else
 if c.kind = 6 then numbP c.item && numbP c.to_ && !decide (c.to_ = c.item) && someP c.qty && decide (c.lines.length = 0) else if c.kind = 7 then bareP c && decide (c.qty = 0) else
 decide (c.item = 0) && decide (c.to_ = 0) && decide (c.qty = 0) && linesP c.lines
def checkP (c : Cl) : Int := if c.kind < 1 ∨ 8 < c.kind then 30 else if (numbP c.client && numbP c.seq && mayP c) = true then 0 else 2
theorem okAt_iff (l : List Ln) (k : Nat) (h : numbP (l.getD k default).item = true) : (decide (k = 0) || decide ((l.getD (k - 1) default).item < (l.getD k default).item)) = decide (lastAt l k < (l.getD k default).item) := by
 unfold lastAt
 by_cases h0 : k = 0
 · subst h0
   unfold numbP at h; simp at h
   simp; omega
 · simp [h0]
theorem linesP_no {l : List Ln} {k : Nat} (hk : k < l.length) (h : okAt l k = false) : linesP l = false := by
 have : (List.range l.length).all (okAt l) = false := List.all_eq_false.2 ⟨k, List.mem_range.2 hk, by simp [h]⟩
 unfold linesP; rw [this, Bool.and_false]
theorem linesP_yes {l : List Ln} (h : ∀ k, k < l.length → okAt l k = true) : linesP l = (decide (0 < l.length) && decide (l.length ≤ 5)) := by
 have : (List.range l.length).all (okAt l) = true := List.all_eq_true.2 fun k hk => h k (List.mem_range.1 hk)
 unfold linesP; rw [this, Bool.and_true]
/-! ### bytes -/
def flatL (l : List Ln) : List Int := l.flatMap fun x => [x.item, x.qty]
def tCall : ByteArray := ⟨#[99, 97, 108, 108]⟩
def tTake : ByteArray := ⟨#[116, 97, 107, 101]⟩
def tReply : ByteArray := ⟨#[114, 101, 112, 108, 121]⟩
theorem all_pos {l : List Ln} (h : linesP l = true) : ∀ x, x ∈ flatL l → 0 ≤ x ∧ x ≤ 1000000 := by
 unfold linesP at h
 simp only [Bool.and_eq_true, List.all_eq_true, List.mem_range] at h
 intro x hx
 obtain ⟨y, hy, hx⟩ := List.mem_flatMap.1 hx
 obtain ⟨k, hk, rfl⟩ := List.mem_iff_getElem.1 hy
 have := h.2 k hk
 simp [okAt, numbP, someP, List.getD, hk] at this
 simp at hx
 rcases hx with rfl | rfl <;> omega
theorem bare_lines {c : Cl} (h : bareP c = true) : c.lines = [] ∧ (1 ≤ c.item ∧ c.item ≤ 99999) ∧ c.to_ = 0 := by
 unfold bareP numbP at h; simp at h; exact ⟨h.1.2, by omega, h.1.1⟩
theorem len_zero {l : List Ln} (h : decide (l.length = 0) = true) : l = [] := List.length_eq_zero_iff.1 (by simpa using h)
theorem check_ok {c : Cl} (h : checkP c = 0) : (1 ≤ c.client ∧ c.client ≤ 99999) ∧ (1 ≤ c.seq ∧ c.seq ≤ 99999) ∧ (1 ≤ c.kind ∧ c.kind ≤ 8) ∧ (0 ≤ c.item ∧ c.item ≤ 99999) ∧ (0 ≤ c.to_ ∧ c.to_ ≤ 99999) ∧ (0 ≤ c.qty ∧ c.qty ≤ 1000000) ∧ c.lines.length ≤ 5 ∧ ∀ x, x ∈ flatL c.lines → 0 ≤ x ∧ x ≤ 1000000 := by
 unfold checkP at h
 split at h
 · cases h
 · rename_i hk
   split at h
   · rename_i hm
     simp only [Bool.and_eq_true] at hm
     obtain ⟨⟨h1, h2⟩, h3⟩ := hm
     simp only [numbP, Bool.and_eq_true, decide_eq_true_eq] at h1 h2
     refine ⟨h1, h2, by omega, ?_⟩
     unfold mayP at h3
     split at h3
     · simp only [Bool.and_eq_true] at h3
       obtain ⟨hl, hi, ht⟩ := bare_lines h3.1
       have hq := h3.2; simp [someP] at hq
       rw [hl]; exact ⟨by omega, by omega, by omega, by simp, by simp [flatL]⟩
     · split at h3
       · simp only [Bool.and_eq_true] at h3
         obtain ⟨hl, hi, ht⟩ := bare_lines h3.1
         have hq := h3.2; simp [someP] at hq
         rw [hl]; exact ⟨by omega, by omega, by omega, by simp, by simp [flatL]⟩
       · split at h3
         · simp only [Bool.and_eq_true] at h3
           have hl := len_zero h3.2
           have h4 := h3.1
           simp [numbP, someP] at h4
           rw [hl]; exact ⟨by omega, by omega, by omega, by simp, by simp [flatL]⟩
         · split at h3
           · simp only [Bool.and_eq_true] at h3
             obtain ⟨hl, hi, ht⟩ := bare_lines h3.1
             have hq := h3.2; simp at hq
             rw [hl]; exact ⟨by omega, by omega, by omega, by simp, by simp [flatL]⟩
           · simp only [Bool.and_eq_true, decide_eq_true_eq] at h3
             have hlen : c.lines.length ≤ 5 := by
               have := h3.2; unfold linesP at this; simp only [Bool.and_eq_true, decide_eq_true_eq] at this; exact this.1.2
             exact ⟨by omega, by omega, by omega, hlen, all_pos h3.2⟩
   · cases h
theorem wrNum_pos {w : WrS} (h : w.e = 0) {n : Int} (hn : 0 ≤ n) : wrNum w n = { w with s := w.s ++ (putN n).1 } := by
 unfold wrNum wrPut
 rw [if_neg (by omega), if_neg (by rw [putN_err, if_pos hn]; simp)]
theorem wrNums_pos (l : List Int) : ∀ {w : WrS}, w.e = 0 → (∀ x, x ∈ l → 0 ≤ x) → wrNums w l = { w with s := w.s ++ rowBytes l } := by
 induction l with
 | nil => intro w h _; simp [wrNums, rowBytes]
 | cons x l ih =>
   intro w h hl
   show wrNums (wrNum w x) l = _
   rw [wrNum_pos h (hl x List.mem_cons_self), ih (w := { w with s := w.s ++ (putN x).1 }) h (fun y hy => hl y (List.mem_cons_of_mem _ hy))]
   simp [rowBytes]
theorem nneg_of {l : List Int} (h : ∀ x, x ∈ l → 0 ≤ x) : nneg l = true := List.all_eq_true.2 fun x hx => decide_eq_true (h x hx)
theorem wrRow_pos {w : WrS} (h : w.e = 0) {l : List Int} (hl : ∀ x, x ∈ l → 0 ≤ x) : wrRow w l = { w with s := w.s ++ (rowN l).1 } := by
 unfold wrRow wrPut
 rw [if_neg (by omega), if_neg (by unfold rowN; rw [if_pos (nneg_of hl)]; simp)]
/-! ### a call is taken -/
def pairsL : List Int → List Ln
 | a :: b :: r => ⟨a, b⟩ :: pairsL r
 | _ => []
def sixR (s : ByteArray) : Nat → RdS
 | 0 => RdS.new s
 | k + 1 => (rdNum (sixR s k) 2000000).1
def sixN (s : ByteArray) (k : Nat) : Int := (rdNum (sixR s k) 2000000).2
def sixL (s : ByteArray) : List Int := [sixN s 0, sixN s 1, sixN s 2, sixN s 3, sixN s 4, sixN s 5]
def rdCall (s : ByteArray) : RdS × List Int × List Int := (rdEnd (rdRow (sixR s 6) 10).1, sixL s, (rdRow (sixR s 6) 10).2)
theorem sixR_ok {s : ByteArray} (h : s.size ≤ 1000000) : ∀ k, (sixR s k).ok
 | 0 => ⟨Int.le_refl 0, by show (0 : Int) ≤ s.size; omega, h⟩
 | k + 1 => rdNum_ok (sixR_ok h k) _
def mkCall (n l : List Int) : Cl := ⟨n.getD 0 0, n.getD 1 0, n.getD 2 0, n.getD 3 0, n.getD 4 0, n.getD 5 0, pairsL l⟩
def takeE (s : ByteArray) : Int :=
 if (rdCall s).1.e ≠ 0 then (rdCall s).1.e else if (rdCall s).2.2.length % 2 = 1 then 5 else checkP (mkCall (rdCall s).2.1 (rdCall s).2.2)
def takeC (s : ByteArray) : Cl := if takeE s = 0 then mkCall (rdCall s).2.1 (rdCall s).2.2 else Cl.zero
def takeErr (s : ByteArray) : Er :=
 if (rdCall s).1.e ≠ 0 then Er.wrap tTake (errOf tRead (rdCall s).1.p (rdCall s).1.e) else if (rdCall s).2.2.length % 2 = 1 then Er.new tTake 5 else
 Er.wrap tTake (Er.new tCall (checkP (mkCall (rdCall s).2.1 (rdCall s).2.2)))
theorem check_two (c : Cl) : checkP c = 0 ∨ checkP c = 2 ∨ checkP c = 30 := by
 unfold checkP; split
 · simp
 · split <;> simp
theorem pairsL_take (l : List Int) (k : Nat) (h : 2 * k + 1 < l.length) : pairsL (l.take (2 * (k + 1))) = pairsL (l.take (2 * k)) ++ [⟨l.getD (2 * k) default, l.getD (2 * k + 1) default⟩] := by
 induction k generalizing l with
 | zero =>
   match l with
   | [] => simp at h
   | [a] => simp at h
   | a :: b :: r => rfl
 | succ k ih =>
   match l with
   | [] => simp at h
   | [a] => simp at h
   | a :: b :: r =>
     have := ih r (by simp at h; omega)
     rw [show 2 * (k + 1 + 1) = 2 * (k + 1) + 1 + 1 by omega, show 2 * (k + 1) = 2 * k + 1 + 1 by omega, List.take_succ_cons, List.take_succ_cons, List.take_succ_cons, List.take_succ_cons, pairsL, pairsL]
     rw [show 2 * k + 1 + 1 = 2 * (k + 1) by omega, this]
     have e1 : (a :: b :: r).getD (2 * (k + 1)) default = r.getD (2 * k) default := by rw [show 2 * (k + 1) = 2 * k + 1 + 1 by omega]; rfl
     have e2 : (a :: b :: r).getD (2 * (k + 1) + 1) default = r.getD (2 * k + 1) default := by rw [show 2 * (k + 1) + 1 = 2 * k + 1 + 1 + 1 by omega]; rfl
     rw [e1, e2]; rfl
/-! ### replies -/
structure Rp where
 code : Int
 nums : List Int
deriving DecidableEq
def repE (r : Rp) : Int := if r.code < 0 ∨ 255 < r.code ∨ 20 < r.nums.length ∨ nneg r.nums = false then 2 else 0
def layR (r : Rp) : WrS := wrRow (wrNums WrS.new [r.code]) r.nums
def putR (r : Rp) : ByteArray := if repE r = 0 then (layR r).out else ⟨#[]⟩
theorem layR_ok {r : Rp} (h : repE r = 0) : layR r = ⟨(putN r.code).1 ++ (rowN r.nums).1, ⟨#[]⟩, 0⟩ := by
 unfold repE at h
 split at h
 · cases h
 · rename_i h0
   have hn : ∀ x, x ∈ r.nums → 0 ≤ x := by
     have : nneg r.nums = true := by cases hh : nneg r.nums <;> simp_all
     intro x hx
     have := List.all_eq_true.1 this x hx
     simpa using this
   unfold layR
   rw [wrNums_pos _ rfl (fun x hx => by simp at hx; subst hx; omega), wrRow_pos rfl hn]
   simp [WrS.new, rowBytes]
end Go.Proofs.YtcndnllmlhhjiaaGreatDoor
namespace Go.Proofs.YtcndnllmlhhjiaaGreatDoor
open NumP
structure Pc where
 kind : Int
 n : Int
 s : ByteArray
 l : List Int
instance : Inhabited Pc := ⟨⟨0, 0, ⟨#[]⟩, []⟩⟩
theorem unrowF_len (l : List UInt8) (k : Nat) : ∀ (to : Int) (acc : List Int), (unrowF l k to acc).1.length ≤ acc.length + k := by
 induction k with
 | zero => intro to acc; exact Nat.le_refl _
 | succ k ih =>
   intro to acc
   rw [unrow_step]
   split
   · simp
   · have := ih (getN l to).2.1 (acc ++ [(getN l to).1]); simp at this; omega
theorem unrowN_len (l : List UInt8) (p top : Int) : (unrowN l p top).1.length ≤ 1000 := by
 unfold unrowN
 split
 · exact Nat.zero_le _
 · split
   · exact Nat.zero_le _
   · have := unrowF_len l (getN l p).1.toNat (getN l p).2.1 []
     simp at this; omega
theorem rdRow_len (r : RdS) (most : Int) : (rdRow r most).2.length ≤ 1000 := by
 unfold rdRow
 split
 · exact Nat.zero_le _
 · exact unrowN_len _ _ _
end Go.Proofs.YtcndnllmlhhjiaaGreatDoor
namespace Go.Proofs.YtcndnllmlhhjiaaGreatDoor
open NumP
/-! ### the errors -/
theorem new_code (p : ByteArray) (e : Int) : (Er.new p e).code = e := by
 unfold Er.new
 split
 · rename_i h; rw [h]; rfl
 · rename_i h
   show (match (some e : Option Int) with | some c => if c = 0 then 2 else c | Option.none => 2) = e
   simp [h]
theorem errOf_code (op p : ByteArray) (e : Int) : (errOf op p e).code = e := by
 unfold errOf
 split
 · rename_i h; rw [h]; rfl
 · rename_i h
   show (match (some e : Option Int) with | some c => if c = 0 then 2 else c | Option.none => 2) = e
   simp [h]
theorem wrap_code (p : ByteArray) {e : Er} : (Er.wrap p e).code = e.code := by
 cases e <;> rfl
theorem takeErr_code (s : ByteArray) : (takeErr s).code = takeE s := by
 unfold takeErr takeE
 split
 · rw [wrap_code, errOf_code]
 · split
   · rw [new_code]
   · rw [wrap_code, new_code]
/-! ### replies -/
theorem repE_zero {r : Rp} (h : repE r = 0) : (0 ≤ r.code ∧ r.code ≤ 255) ∧ r.nums.length ≤ 20 ∧ nneg r.nums = true := by
 unfold repE at h
 split at h
 · cases h
 · rename_i h0
   exact ⟨by omega, by omega, by cases hh : nneg r.nums <;> simp_all⟩
theorem takeC_len (s : ByteArray) : (takeC s).lines.length ≤ 1000 := by
 unfold takeC
 split
 · have h1 := rdRow_len (sixR s 6) 10
   have : ∀ l : List Int, (pairsL l).length ≤ l.length := by
     intro l
     induction l using pairsL.induct with
     | case1 a b r ih => simp [pairsL]; omega
     | case2 t h => rw [show pairsL t = [] from by unfold pairsL; split <;> simp_all]; exact Nat.zero_le _
   exact Nat.le_trans (this _) h1
 · exact Nat.zero_le _
theorem putR_len (r : Rp) : (putR r).size ≤ 1000 := by
 unfold putR
 split
 · rename_i h
   rw [layR_ok h]
   have h1 := rowN_len r.nums
   have h2 := (repE_zero h).2.1
   have a1 := putN_len r.code
   show (bs _).size ≤ _
   rw [bs_size]; simp; omega
 · exact Nat.zero_le _
end Go.Proofs.YtcndnllmlhhjiaaGreatDoor
namespace Go.Proofs.YtcndnllmlhhjiaaGreatDoor
open NumP
structure Co where
 client : Int
 seq : Int
 payload : ByteArray
 start : Int
 end_ : Int
 reply : ByteArray
deriving DecidableEq
instance : Inhabited Co := ⟨⟨0, 0, ⟨#[]⟩, 0, 0, ⟨#[]⟩⟩⟩
def momentP (n : Int) : Bool := decide (1 ≤ n) && decide (n ≤ 1000000)
def mayO (o : Co) : Bool :=
 decide (takeE o.payload = 0) && decide ((takeC o.payload).client = o.client) && decide ((takeC o.payload).seq = o.seq) && momentP o.start && (if o.end_ = 0 then decide (o.reply = ⟨#[]⟩) else decide (o.start < o.end_) && decide (o.end_ ≤ 1000000))
def aheadP (a b : Co) : Bool := decide (a.end_ ≠ 0) && decide (a.end_ < b.start)
def apartP (a o : Co) : Bool := decide (a.client ≠ o.client) || (aheadP a o && decide (a.seq < o.seq))
def okO (l : List Co) (i : Nat) : Bool :=
 mayO (l.getD i default) && (decide (i = 0) || decide ((l.getD (i - 1) default).start < (l.getD i default).start)) && (List.range i).all fun k => apartP (l.getD k default) (l.getD i default)
def checkO (l : List Co) : Int := if l.length ≤ 100 ∧ (List.range l.length).all (okO l) = true then 0 else 2
def ofP (l : List Co) (c : Int) : List Co := l.filter fun o => decide (o.client = c)
def openP (l : List Co) : List Co := l.filter fun o => decide (o.end_ = 0)
def hadOk (l : List Co) (i : Nat) : Bool :=
 if 0 < (ofP (l.take i) (l.getD i default).client).length then
   aheadP ((ofP (l.take i) (l.getD i default).client).getD ((ofP (l.take i) (l.getD i default).client).length - 1) default) (l.getD i default) && decide (((ofP (l.take i) (l.getD i default).client).getD ((ofP (l.take i) (l.getD i default).client).length - 1) default).seq < (l.getD i default).seq)
 else true
theorem last_at (p : Co → Bool) (l : List Co) : ∀ n, n ≤ l.length → ((l.take n).filter p = [] ∧ ∀ k, k < n → p (l.getD k default) = false) ∨
   ∃ m, m < n ∧ p (l.getD m default) = true ∧ 0 < ((l.take n).filter p).length ∧ ((l.take n).filter p).getD (((l.take n).filter p).length - 1) default = l.getD m default ∧ ∀ k, m < k → k < n → p (l.getD k default) = false := by
 intro n
 induction n with
 | zero => intro _; exact .inl ⟨rfl, fun k hk => by omega⟩
 | succ n ih =>
   intro hn
   have hg : l.getD n default = l[n] := by rw [List.getD, List.getElem?_eq_getElem (by omega)]; rfl
   rw [List.take_succ_eq_append_getElem (by omega), List.filter_append]
   by_cases hp : p l[n] = true
   · right
     refine ⟨n, by omega, by rw [hg]; exact hp, ?_, ?_, fun k h1 h2 => by omega⟩
     · simp [hp]
     · rw [hg]; simp [hp]
   · have hp0 : p l[n] = false := by simpa using hp
     have e : [l[n]].filter p = [] := by simp [hp0]
     rw [e, List.append_nil]
     rcases ih (by omega) with ⟨h1, h2⟩ | ⟨m, h1, h2, h3, h4, h5⟩
     · left
       refine ⟨h1, fun k hk => ?_⟩
       by_cases ek : k = n
       · subst ek; rw [hg]; exact hp0
       · exact h2 k (by omega)
     · right
       refine ⟨m, by omega, h2, h3, h4, fun k k1 k2 => ?_⟩
       by_cases ek : k = n
       · subst ek; rw [hg]; exact hp0
       · exact h5 k k1 (by omega)
theorem okO_parts {l : List Co} {i : Nat} (h : okO l i = true) : mayO (l.getD i default) = true ∧ (0 < i → (l.getD (i - 1) default).start < (l.getD i default).start) ∧ ∀ k, k < i → apartP (l.getD k default) (l.getD i default) = true := by
 unfold okO at h
 simp only [Bool.and_eq_true, Bool.or_eq_true, decide_eq_true_eq, List.all_eq_true, List.mem_range] at h
 exact ⟨h.1.1, fun h0 => by rcases h.1.2 with h1 | h1; omega; exact h1, h.2⟩
theorem mayO_end {o : Co} (h : mayO o = true) (h0 : o.end_ ≠ 0) : o.start < o.end_ := by
 unfold mayO at h
 rw [if_neg h0] at h
 simp only [Bool.and_eq_true, decide_eq_true_eq] at h
 exact h.2.1
theorem apart_same {a o : Co} (h : apartP a o = true) (hc : a.client = o.client) : (a.end_ ≠ 0 ∧ a.end_ < o.start) ∧ a.seq < o.seq := by
 unfold apartP aheadP at h
 simp only [Bool.or_eq_true, Bool.and_eq_true, decide_eq_true_eq] at h
 rcases h with h | h
 · exact absurd hc h
 · exact h
theorem apart_mk {a o : Co} (h : a.client = o.client → (a.end_ ≠ 0 ∧ a.end_ < o.start) ∧ a.seq < o.seq) : apartP a o = true := by
 unfold apartP aheadP
 simp only [Bool.or_eq_true, Bool.and_eq_true, decide_eq_true_eq]
 by_cases e : a.client = o.client
 · exact .inr (h e)
 · exact .inl e
theorem had_all {l : List Co} {i : Nat} (hi : i < l.length) (hok : ∀ j, j < i → okO l j = true) : hadOk l i = (List.range i).all fun k => apartP (l.getD k default) (l.getD i default) := by
 unfold hadOk
 rcases last_at (fun o => decide (o.client = (l.getD i default).client)) l i (by omega) with ⟨h1, h2⟩ | ⟨m, h1, h2, h3, h4, h5⟩
 · rw [if_neg (by unfold ofP; rw [h1]; simp)]
   symm
   rw [List.all_eq_true]
   intro k hk
   have := h2 k (List.mem_range.1 hk)
   exact apart_mk fun e => absurd e (by simpa using this)
 · have h3' : 0 < (ofP (l.take i) (l.getD i default).client).length := h3
   rw [if_pos h3']
   have h4' : (ofP (l.take i) (l.getD i default).client).getD ((ofP (l.take i) (l.getD i default).client).length - 1) default = l.getD m default := h4
   rw [h4']
   have hm : (l.getD m default).client = (l.getD i default).client := by simpa using h2
   rw [Bool.eq_iff_iff, List.all_eq_true]
   constructor
   · intro h k hk
     have hk := List.mem_range.1 hk
     simp only [aheadP, Bool.and_eq_true, decide_eq_true_eq] at h
     refine apart_mk fun e => ?_
     by_cases e1 : k = m
     · subst e1; exact h
     · by_cases e2 : m < k
       · have := h5 k e2 hk; exact absurd e (by simpa using this)
       · obtain ⟨o1, o2, o3⟩ := okO_parts (hok m h1)
         have a1 := apart_same (o3 k (by omega)) (e.trans hm.symm)
         have a2 := mayO_end o1 h.1.1
         omega
   · intro h
     have := apart_same (h m (List.mem_range.2 h1)) hm
     simp only [aheadP, Bool.and_eq_true, decide_eq_true_eq]
     exact this
theorem check_at {l : List Co} (h : checkO l = 0) : ∀ i, i < l.length → okO l i = true := by
 unfold checkO at h; split at h
 · rename_i h1; exact fun i hi => List.all_eq_true.1 h1.2 i (List.mem_range.2 hi)
 · cases h
theorem check_bad {l : List Co} {i : Nat} (hi : i < l.length) (h : okO l i = false) : checkO l = 2 := by
 unfold checkO; rw [if_neg]; rintro ⟨_, h2⟩
 have := List.all_eq_true.1 h2 i (List.mem_range.2 hi)
 rw [h] at this; cases this
theorem check_many {l : List Co} (h : 100 < l.length) : checkO l = 2 := by unfold checkO; rw [if_neg (by omega)]
theorem check_good {l : List Co} (h : l.length ≤ 100) (h2 : ∀ i, i < l.length → okO l i = true) : checkO l = 0 := by
 unfold checkO; rw [if_pos ⟨h, List.all_eq_true.2 fun i hi => h2 i (List.mem_range.1 hi)⟩]
end Go.Proofs.YtcndnllmlhhjiaaGreatDoor
namespace Go.Proofs.YtcndnllmlhhjiaaGreatDoor
open Go.RowKit
open NumP
def aCo (s : Co) : AV := .agg [.int .i64 s.client, .int .i64 s.seq, .str s.payload, .int .i64 s.start, .int .i64 s.end_, .str s.reply]
theorem Co_idx {l : List Co} {k : Nat} (h : k < l.length) : l.getD k default = l[k] := by simp [List.getD, h]
theorem pay_at {l : List Co} (hp : ∀ x, x ∈ l → x.payload.size ≤ 1000000) {k : Nat} (hk : k < l.length) : (l.getD k default).payload.size ≤ 1000000 := by
 rw [Co_idx hk]; exact hp _ (List.getElem_mem hk)
theorem co_map (l : List Co) (x : Co) : l.map aCo ++ [aCo x] = (l ++ [x]).map aCo := by simp
theorem co_filter (p : Co → Bool) (l : List Co) (k : Nat) (hk : k < l.length) : (l.take (k + 1)).filter p = if p (l.getD k default) = true then (l.take k).filter p ++ [l.getD k default] else (l.take k).filter p := by
 rw [List.take_succ_eq_append_getElem hk, List.filter_append, Co_idx hk]
 by_cases h : p l[k] = true <;> simp [h]
theorem co_app (p : Co → Bool) (l : List Co) (k : Nat) (hk : k < l.length) (h : p (l.getD k default) = true) : ((l.take k).filter p).map aCo ++ [aCo (l.getD k default)] = ((l.take (k + 1)).filter p).map aCo := by
 rw [co_filter p l k hk, if_pos h, co_map]
theorem noH_cos (m : Nat) (l : List Co) : NoH m (.sl (l.map aCo)) := by simp [AV.cells, aCo]
theorem ofP_len (l : List Co) (k : Nat) (c : Int) (hl : l.length ≤ 1000) : (ofP (l.take k) c).length ≤ 1000 ∧ ((ofP (l.take k) c).map aCo).length = (ofP (l.take k) c).length := by
 have h : (ofP (l.take k) c).length ≤ (l.take k).length := List.length_filter_le _ _
 rw [List.length_take] at h
 exact ⟨by omega, List.length_map ..⟩
theorem filter_len (p : Co → Bool) (l : List Co) : (l.filter p).length ≤ l.length := List.length_filter_le _ _
end Go.Proofs.YtcndnllmlhhjiaaGreatDoor
namespace Go.Proofs.YtcndnllmlhhjiaaGreatDoor
open Go.RowKit
def idxOf {α : Type} (p : α → Bool) (l : List α) : Int := match l.findIdx? p with
 | some i => (i : Int)
 | none => -1
theorem idx_hit {α : Type} [Inhabited α] {p : α → Bool} {l : List α} {k : Nat} (hk : k < l.length) (h : ∀ j, j < k → p (l.getD j default) = false) (hp : p (l.getD k default) = true) : idxOf p l = (k : Int) := by
 have : l.findIdx? p = some k := by
   rw [List.findIdx?_eq_some_iff_getElem]
   refine ⟨hk, ?_, fun j hj => ?_⟩
   · simpa [List.getD, hk] using hp
   have := h j hj
   simp [List.getD, show j < l.length by omega] at this
   simp [this]
 unfold idxOf; rw [this]
theorem idx_none {α : Type} [Inhabited α] {p : α → Bool} {l : List α} (h : ∀ j, j < l.length → p (l.getD j default) = false) : idxOf p l = -1 := by
 have : l.findIdx? p = none := by
   rw [List.findIdx?_eq_none_iff]
   intro x hx
   obtain ⟨j, hj, rfl⟩ := List.mem_iff_getElem.1 hx
   have := h j hj
   simpa [List.getD, hj] using this
 unfold idxOf; rw [this]
theorem any_idx {α : Type} (p : α → Bool) (l : List α) : decide (0 ≤ idxOf p l) = l.any p := by
 unfold idxOf
 cases h : l.findIdx? p with
 | none =>
   have := List.findIdx?_eq_none_iff.1 h
   symm; simp; exact this
 | some i =>
   obtain ⟨hi, h2, _⟩ := List.findIdx?_eq_some_iff_getElem.1 h
   have : l.any p = true := List.any_eq_true.2 ⟨_, List.getElem_mem hi, h2⟩
   rw [this]; simp
theorem take_eq_go {α : Type} [Inhabited α] {a b : List α} {k : Nat} (h : a.take k = b.take k) (ha : k < a.length) (hb : k < b.length) (he : a.getD k default = b.getD k default) : a.take (k + 1) = b.take (k + 1) := by
 rw [List.take_succ_eq_append_getElem ha, List.take_succ_eq_append_getElem hb, h]
 simp [List.getD, ha, hb] at he
 rw [he]
theorem ne_of_get {α : Type} [Inhabited α] {a b : List α} {k : Nat} (he : a.getD k default ≠ b.getD k default) : a ≠ b := fun e => he (by rw [e])
theorem found_congr {x e : Er} (h : x.inner = e.inner) : x.found = e.found := by unfold Er.found; rw [h]
theorem ty_no {x : Er} (hx : x.isNone = false) (h : x.ty = 36) : ∃ c, x = .no c := by
 cases x with
 | none => cases hx
 | no c => exact ⟨c, rfl⟩
 | wr op e => exact absurd h (show ¬ (188 : Nat) = 36 by decide)
theorem ty_wr {x : Er} (h : x.ty ≠ 36) : ∃ op e, x = .wr op e := by
 cases x with
 | none => exact absurd rfl h
 | no c => exact absurd rfl h
 | wr op e => exact ⟨op, e, rfl⟩
theorem is_none {x : Er} (h : x.isNone = true) : x = .none := by cases x <;> first | rfl | cases h
theorem unwrap_fn (op : ByteArray) (e : Er) : FnP Tryz.prog 215 [aFl (.wr op e)] (aEr e) := by
 show FnP _ _ [.pe [.str op, aEr e]] _
 refine FnP.of Tryz.func215 rfl rfl (by simp) (by simp [AV.cells]) (fun G hG => ?_)
 have hN : NoH G.length (aEr e) := (by simp [AV.cells])
 refine sr fun _ => ?_
 refine mz ?_
 refine AWP.seq (sr fun _ => ?_)
 refine mv ?_
 refine ARun.isNilP rfl rfl rfl rfl U188 (ep rfl) (fun hg => by first | rfl | exact nilP_aFl _) (.inl ⟨rfl, rfl⟩) optN ?_
 refine ez ?_
 refine ρp (fun h0 => ?_) (fun h0 => ?_)
 · simp at h0
 refine AWP.skip (thenA_n (sr fun _ => ?_))
 refine mv ?_
 refine ARun.nilPe rfl rfl rfl rfl (ep rfl) optN ?_
 refine ρ4 U190 sz96 ?_
 refine ρ7 U96 ?_
 refine mz ?_
 refine AWP.ret ?_
 refine ρi ?_
 rfl
theorem asE_fn (e : Er) (old : Int) (he : e.isNone = false) : FnM Tryz.prog 125 (fun i => [aEr e, .ifc 141 (.box i 0), .agg [hT 141, .pe [.box i 0], .int .u64 150], rT 36]) [.int .i64 old] (.bool e.found.isSome) [.int .i64 (e.found.getD old)] := by
 refine FnM.of Tryz.func125 rfl rfl (fun i => by simp) (fun H i m hHm hi hG => ?_)
 have hN : NoH H.length (.bool e.found.isSome) := (by simp [AV.cells])
 refine sr fun _ => ?_
 refine ARun.box (j := 0) hG rfl rfl rfl rfl rfl (ep rfl) rfl rfl optN ?_
 refine mz ?_
 refine AWP.block ?_
 refine AWP.rounds (fun x => x.isNone = false ∧ x.inner = e.inner) (fun x => [(0, aEr x), (1, .ifc 141 (.box i 0)), (3, rT 36), (6, .box (m + 0) 0)]) (fun x => [.box [hT 141, .pe [.box i 0], .int .u64 150]]) (fun x => x.depth) 1 e ⟨he, rfl⟩ (by repeat (first | exact .nil | refine .cons rfl ?_)) rfl (fun _ => rfl) (fun _ => ⟨by simp [hT, rT]; omega, by simp [AO.conts, hT]; omega⟩) (fun x hI => ?_)
 obtain ⟨hx, hin⟩ := hI
 refine AWP.block (AWP.seq ?_)
 refine sr fun _ => ?_
 refine mv ?_
 refine ARun.callXP rfl rfl rfl rfl (ep rfl) (.cons (ep rfl) .nil) (fun hg => x_typeOf hx) optN ?_
 refine mv ?_
 refine ARun.invokeX rfl rfl rfl rfl (ep rfl) (fun hg => inv_asg _) (.cons (ep rfl) .nil) (fun hg => x_asg (Er.ty_two x) (.inl rfl)) optN ?_
 refine ez ?_
 refine ρp (fun h0 => ?_) (fun h0 => ?_)
 · obtain ⟨c, rfl⟩ := ty_no hx (by simpa using h0)
   refine sr fun _ => ?_
   refine ρn U195 sz195 ?_
   refine ARun.callXR rfl rfl rfl rfl (ep rfl) (.cons (ep rfl) .nil) (fun hg => x_elemVE (atO hi)) optN ?_
   refine mv ?_
   refine ARun.callXP rfl rfl rfl rfl (ep rfl) (.cons (ep rfl) .nil) (fun hg => x_valueOfN c) optN ?_
   refine ARun.callXO hi hG rfl rfl rfl rfl (ep rfl) (.cons (ep rfl) (.cons (ep rfl) .nil)) (x_setE (atO hi) rfl rfl) (by simp) optN (fun hG => ?_)
   refine ez (sr fun _ => ?_)
   refine mz ?_
   refine AWP.ret (thenA_r ?_)
   refine blockA_r (thenA_r (blockA_r ?_))
   refine endF.toG (congrArg (fun c => H.set i (AO.box c)) (by rw [← found_congr hin]; rfl)) ?_
   refine endF.one (.inr rfl) rfl (.tmp rfl) ?_ (by rw [List.length_set]; exact hN)
   rw [← found_congr hin]; rfl
 obtain ⟨op, y, rfl⟩ := ty_wr (by simpa using h0)
 refine AWP.skip (thenA_n (AWP.seq (sr fun _ => ?_)))
 refine mv ?_
 refine ARun.assertV rfl rfl rfl rfl (ep rfl) (fun hg => no_as hx) optN ?_
 refine mv ?_
 refine ρ9 ?_
 refine ρ9 ?_
 refine ma ?_
 refine mz (sr fun _ => ?_)
 refine mv ?_
 refine mv ?_
 refine ρg ?_
 refine ρg ?_
 refine ARun.invokeX (F := 0) (X' := .bool false) (r := .bool false) rfl rfl rfl rfl (Ev.opt rfl (fun h => h)) (fun hg => absurd hg (by decide)) (.cons (Ev.opt rfl (fun h => h)) .nil) (fun hg => absurd hg (by decide)) optS ?_
 refine ρ0 ?_
 refine ez ?_
 refine ρp (fun h1 => ?_) (fun h1 => ?_)
 · exact absurd h1 (by decide)
 refine AWP.skip (thenA_n (sr fun _ => ?_))
 refine mv ?_
 refine ez ?_
 refine AWP.block (sr fun _ => ?_)
 refine ARun.assertV rfl rfl rfl rfl (ep rfl) (fun hg => to_unwrap hx) optN ?_
 refine ρ9 ?_
 refine ρ9 ?_
 refine ez ?_
 refine ρp (fun h2 => ?_) (fun h2 => ?_)
 · refine sr fun _ => ?_
   refine mz (sr fun _ => ?_)
   refine mv ?_
   refine ARun.invokeP rfl rfl rfl rfl cf215 (ep rfl) (fun hg => inv_unwrap op y) .nil (fun hg => unwrap_fn op y) optN ?_
   refine mz (sr fun _ => ?_)
   refine mv ?_
   refine ARun.isNil rfl rfl rfl rfl U96 (ep rfl) (fun hg => by first | rfl | exact nilA_aEr _) (.inl ⟨rfl, rfl⟩) optN ?_
   refine ez ?_
   refine ρp (fun h3 => ?_) (fun h3 => ?_)
   · refine sr fun _ => ?_
     refine mz ?_
     refine AWP.ret (blockA_r ?_)
     refine blockA_r (thenA_r (blockA_r ?_))
     refine endF.toG (congrArg (fun c => H.set i (AO.box c)) (by rw [← found_congr hin, is_none h3]; rfl)) ?_
     refine endF.one (.inr rfl) rfl (.tmp rfl) ?_ (by rw [List.length_set]; exact hN)
     rw [← found_congr hin, is_none h3]; rfl
   refine AWP.skip (blockA_n (blockA_n ?_))
   refine thenA_n ⟨rfl, y, _, ?_, ?_, rfl, ?_⟩
   · exact ⟨h3, hin⟩
   · repeat (first | exact .nil | refine .cons rfl ?_)
   show y.depth < y.depth + 1; omega
 cases h2
theorem asF_fn (e : Er) (he : e.isNone = false) : FnM Tryz.prog 125 (fun i => [aEr e, .ifc 219 (.box i 0), .agg [hT 219, .pe [.box i 0], .int .u64 150], rT 188]) [.raw (.pointer .none)] (.bool e.isWr) [aFl e] := by
 refine FnM.of Tryz.func125 rfl rfl (fun i => by simp) (fun H i m hHm hi hG => ?_)
 have hN : NoH H.length (.bool e.isWr) := (by simp [AV.cells])
 refine sr fun _ => ?_
 refine ARun.box (j := 0) hG rfl rfl rfl rfl rfl (ep rfl) rfl rfl optN ?_
 refine mz ?_
 refine AWP.block ?_
 refine AWP.rounds (fun x => x.isNone = false ∧ x = e) (fun x => [(0, aEr x), (1, .ifc 219 (.box i 0)), (3, rT 188), (6, .box (m + 0) 0)]) (fun x => [.box [hT 219, .pe [.box i 0], .int .u64 150]]) (fun x => x.depth) 1 e ⟨he, rfl⟩ (by repeat (first | exact .nil | refine .cons rfl ?_)) rfl (fun _ => rfl) (fun _ => ⟨by simp [hT, rT]; omega, by simp [AO.conts, hT]; omega⟩) (fun x hI => ?_)
 obtain ⟨hx, hin⟩ := hI
 refine AWP.block (AWP.seq ?_)
 refine sr fun _ => ?_
 refine mv ?_
 refine ARun.callXP rfl rfl rfl rfl (ep rfl) (.cons (ep rfl) .nil) (fun hg => x_typeOf hx) optN ?_
 refine mv ?_
 refine ARun.invokeX rfl rfl rfl rfl (ep rfl) (fun hg => inv_asg _) (.cons (ep rfl) .nil) (fun hg => x_asg (Er.ty_two x) (.inr rfl)) optN ?_
 refine ez ?_
 refine ρp (fun h0 => ?_) (fun h0 => ?_)
 · obtain rfl := hin
   obtain ⟨op, y, rfl⟩ := ty_wr (x := x) (by rw [show x.ty = 188 from by simpa using h0]; decide)
   refine sr fun _ => ?_
   refine ρn U195 sz195 ?_
   refine ARun.callXR rfl rfl rfl rfl (ep rfl) (.cons (ep rfl) .nil) (fun hg => x_elemVF (atO hi)) optN ?_
   refine mv ?_
   refine ARun.callXP rfl rfl rfl rfl (ep rfl) (.cons (ep rfl) .nil) (fun hg => x_valueOfF op y) optN ?_
   refine ARun.callXO hi hG rfl rfl rfl rfl (ep rfl) (.cons (ep rfl) (.cons (ep rfl) .nil)) (x_setF (atO hi) rfl rfl) (by simp) optN (fun hG => ?_)
   refine ez (sr fun _ => ?_)
   refine mz ?_
   refine AWP.ret (thenA_r ?_)
   refine blockA_r (thenA_r (blockA_r ?_))
   refine endF.toG (congrArg (fun c => H.set i (AO.box c)) rfl) ?_
   refine endF.one (.inr rfl) rfl (.tmp rfl) ?_ (by rw [List.length_set]; exact hN)
   rfl
 obtain rfl := hin
 obtain ⟨c, rfl⟩ : ∃ c, x = .no c := by
   cases x with
   | none => cases hx
   | no c => exact ⟨c, rfl⟩
   | wr op e => simp [Er.ty] at h0
 refine AWP.skip (thenA_n (AWP.seq (sr fun _ => ?_)))
 refine mv ?_
 refine ARun.assertV rfl rfl rfl rfl (ep rfl) (fun hg => no_as hx) optN ?_
 refine mv ?_
 refine ρ9 ?_
 refine ρ9 ?_
 refine ma ?_
 refine mz (sr fun _ => ?_)
 refine mv ?_
 refine mv ?_
 refine ρg ?_
 refine ρg ?_
 refine ARun.invokeX (F := 0) (X' := .bool false) (r := .bool false) rfl rfl rfl rfl (Ev.opt rfl (fun h => h)) (fun hg => absurd hg (by decide)) (.cons (Ev.opt rfl (fun h => h)) .nil) (fun hg => absurd hg (by decide)) optS ?_
 refine ρ0 ?_
 refine ez ?_
 refine ρp (fun h1 => ?_) (fun h1 => ?_)
 · exact absurd h1 (by decide)
 refine AWP.skip (thenA_n (sr fun _ => ?_))
 refine mv ?_
 refine ez ?_
 refine AWP.block (sr fun _ => ?_)
 refine ARun.assertV rfl rfl rfl rfl (ep rfl) (fun hg => to_unwrap hx) optN ?_
 refine ρ9 ?_
 refine ρ9 ?_
 refine ez ?_
 refine ρp (fun h2 => ?_) (fun h2 => ?_)
 · cases h2
 refine sr fun _ => ?_
 refine ARun.assertV rfl rfl rfl rfl (ep rfl) (fun hg => no_unwraps0 hx) optN ?_
 refine ρ9 ?_
 refine ρ9 ?_
 refine ez ?_
 refine ρp (fun h3 => ?_) (fun h3 => ?_)
 · cases h3
 refine sr fun _ => ?_
 refine mz (sr fun _ => ?_)
 refine mz ?_
 refine AWP.ret (blockA_r ?_)
 refine blockA_r (thenA_r (blockA_r ?_))
 refine endF.toG (congrArg (fun c => H.set i (AO.box c)) rfl) ?_
 refine endF.one (.inr rfl) rfl (.tmp rfl) ?_ (by rw [List.length_set]; exact hN)
 rfl
theorem As_E (e : Er) (old : Int) : FnM Tryz.prog 82 (fun i => [aEr e, .ifc 141 (.box i 0)]) [.int .i64 old] (.bool e.found.isSome) [.int .i64 (e.found.getD old)] := by
 refine FnM.of Tryz.func82 rfl rfl (fun i => by simp) (fun H i m hHm hi hG => ?_)
 have hN : NoH H.length (.bool e.found.isSome) := (by simp [AV.cells])
 refine sr fun _ => ?_
 refine mz ?_
 refine AWP.seq (sr fun _ => ?_)
 refine mv ?_
 refine ARun.isNil rfl rfl rfl rfl U96 (ep rfl) (fun hg => by first | rfl | exact nilA_aEr _) (.inl ⟨rfl, rfl⟩) optN ?_
 refine ez ?_
 refine ρp (fun h0 => ?_) (fun h0 => ?_)
 · obtain rfl := is_none h0
   refine sr fun _ => ?_
   refine mz ?_
   refine AWP.ret (thenA_r ?_)
   refine endF.toG (congrArg (fun c => H.set i (AO.box c)) rfl) ?_
   refine endF.one (.inr rfl) rfl (.tmp rfl) ?_ (by rw [List.length_set]; exact hN)
   rfl
 refine AWP.skip (thenA_n (AWP.seq (sr fun _ => ?_)))
 refine mv ?_
 refine ARun.isNil rfl rfl rfl rfl U20 (ep rfl) (fun hg => by first | rfl | exact nilA_aEr _) (.inl ⟨rfl, rfl⟩) optN ?_
 refine ez ?_
 refine ρp (fun h1 => ?_) (fun h1 => ?_)
 · first | (exact absurd h1 (by decide)) | (simp at h1; done)
 refine AWP.skip (thenA_n (sr fun _ => ?_))
 refine mv ?_
 refine ARun.callXR rfl rfl rfl rfl (ep rfl) (.cons (ep rfl) .nil) (fun hg => x_valueOfPE (atO hi)) optN ?_
 refine ρo (j := 0) zv195 ?_
 refine ρ1 sz195 ?_
 refine ez (sr fun _ => ?_)
 refine ρn U195 sz195 ?_
 refine ARun.callXP rfl rfl rfl rfl (ep rfl) (.cons (ep rfl) .nil) (fun hg => x_typeE _) optN ?_
 refine mz ?_
 refine AWP.seq (sr fun _ => ?_)
 refine mv ?_
 refine ARun.invokeX rfl rfl rfl rfl (ep rfl) (fun hg => inv_kind _) .nil (fun hg => x_kindPE) optN ?_
 refine ρ2 ?_
 refine mv ?_
 refine ARun.loadBoxA rfl rfl rfl rfl U195 rfl sz195 (ep rfl) ((hG.at _ _).trans rfl) rfl rfl optS ?_
 refine ARun.callXR rfl rfl rfl rfl (ep rfl) (.cons (Ev.opt rfl (fun h => h)) .nil) (fun hg => x_isNilE (atO hi)) optS ?_
 refine ρ3 ?_
 refine ez ?_
 refine ρp (fun h2 => ?_) (fun h2 => ?_)
 · first | (exact absurd h2 (by decide)) | (simp at h2; done)
 refine AWP.skip (thenA_n (sr fun _ => ?_))
 refine mv ?_
 refine ARun.invokeX rfl rfl rfl rfl (ep rfl) (fun hg => inv_elem _) .nil (fun hg => x_elemE) optN ?_
 refine mz ?_
 refine AWP.seq (sr fun _ => ?_)
 refine mv ?_
 refine ARun.invokeX rfl rfl rfl rfl (ep rfl) (fun hg => inv_kind _) .nil (fun hg => x_kindE) optN ?_
 refine ρ2 ?_
 refine mv ?_
 refine ρg ?_
 refine ARun.loadGlob rfl rfl rfl rfl U198 rfl glob_mem (fun β W => rT_mk _ _ _) optS ?_
 refine ARun.invokeX rfl rfl rfl rfl (Ev.opt rfl (fun h => h)) (fun hg => inv_impl _) (.cons (Ev.opt rfl (fun h => h)) .nil) (fun hg => x_implE) optS ?_
 refine ARun.not rfl rfl rfl rfl (Ev.opt rfl (fun h => h)) optS ?_
 refine ρ0 ?_
 refine ez ?_
 refine ρp (fun h3 => ?_) (fun h3 => ?_)
 · first | (exact absurd h3 (by decide)) | (simp at h3; done)
 refine AWP.skip (thenA_n (sr fun _ => ?_))
 refine mv ?_
 refine mv ?_
 refine ρn U195 sz195 ?_
 refine mv ?_
 refine ARun.callO hi hG rfl rfl rfl rfl cf125 (ep rfl) (.cons (ep rfl) (.cons (ep rfl) (.cons (ep rfl) (.cons (ep rfl) .nil)))) rfl (asE_fn e old h0 _ _ (atO hi)) (by simp) optN (fun hG => ?_)
 refine mz ?_
 refine AWP.ret ?_
 refine endF.toG (congrArg (fun c => H.set i (AO.box c)) rfl) ?_
 refine endF.one (.inr rfl) rfl (.tmp rfl) ?_ (by rw [List.length_set]; exact hN)
 rfl
theorem As_F (e : Er) : FnM Tryz.prog 82 (fun i => [aEr e, .ifc 219 (.box i 0)]) [.raw (.pointer .none)] (.bool e.isWr) [aFl e] := by
 refine FnM.of Tryz.func82 rfl rfl (fun i => by simp) (fun H i m hHm hi hG => ?_)
 have hN : NoH H.length (.bool e.isWr) := (by simp [AV.cells])
 refine sr fun _ => ?_
 refine mz ?_
 refine AWP.seq (sr fun _ => ?_)
 refine mv ?_
 refine ARun.isNil rfl rfl rfl rfl U96 (ep rfl) (fun hg => by first | rfl | exact nilA_aEr _) (.inl ⟨rfl, rfl⟩) optN ?_
 refine ez ?_
 refine ρp (fun h0 => ?_) (fun h0 => ?_)
 · obtain rfl := is_none h0
   refine sr fun _ => ?_
   refine mz ?_
   refine AWP.ret (thenA_r ?_)
   refine endF.toG (congrArg (fun c => H.set i (AO.box c)) rfl) ?_
   refine endF.one (.inr rfl) rfl (.tmp rfl) ?_ (by rw [List.length_set]; exact hN)
   rfl
 refine AWP.skip (thenA_n (AWP.seq (sr fun _ => ?_)))
 refine mv ?_
 refine ARun.isNil rfl rfl rfl rfl U20 (ep rfl) (fun hg => by first | rfl | exact nilA_aEr _) (.inl ⟨rfl, rfl⟩) optN ?_
 refine ez ?_
 refine ρp (fun h1 => ?_) (fun h1 => ?_)
 · first | (exact absurd h1 (by decide)) | (simp at h1; done)
 refine AWP.skip (thenA_n (sr fun _ => ?_))
 refine mv ?_
 refine ARun.callXR rfl rfl rfl rfl (ep rfl) (.cons (ep rfl) .nil) (fun hg => x_valueOfPF (atO hi)) optN ?_
 refine ρo (j := 0) zv195 ?_
 refine ρ1 sz195 ?_
 refine ez (sr fun _ => ?_)
 refine ρn U195 sz195 ?_
 refine ARun.callXP rfl rfl rfl rfl (ep rfl) (.cons (ep rfl) .nil) (fun hg => x_typeF _) optN ?_
 refine mz ?_
 refine AWP.seq (sr fun _ => ?_)
 refine mv ?_
 refine ARun.invokeX rfl rfl rfl rfl (ep rfl) (fun hg => inv_kind _) .nil (fun hg => x_kindPF) optN ?_
 refine ρ2 ?_
 refine mv ?_
 refine ARun.loadBoxA rfl rfl rfl rfl U195 rfl sz195 (ep rfl) ((hG.at _ _).trans rfl) rfl rfl optS ?_
 refine ARun.callXR rfl rfl rfl rfl (ep rfl) (.cons (Ev.opt rfl (fun h => h)) .nil) (fun hg => x_isNilF (atO hi)) optS ?_
 refine ρ3 ?_
 refine ez ?_
 refine ρp (fun h2 => ?_) (fun h2 => ?_)
 · first | (exact absurd h2 (by decide)) | (simp at h2; done)
 refine AWP.skip (thenA_n (sr fun _ => ?_))
 refine mv ?_
 refine ARun.invokeX rfl rfl rfl rfl (ep rfl) (fun hg => inv_elem _) .nil (fun hg => x_elemF) optN ?_
 refine mz ?_
 refine AWP.seq (sr fun _ => ?_)
 refine mv ?_
 refine ARun.invokeX rfl rfl rfl rfl (ep rfl) (fun hg => inv_kind _) .nil (fun hg => x_kindF) optN ?_
 refine ρ2 ?_
 refine mv ?_
 refine ρg ?_
 refine ARun.loadGlob rfl rfl rfl rfl U198 rfl glob_mem (fun β W => rT_mk _ _ _) optS ?_
 refine ARun.invokeX rfl rfl rfl rfl (Ev.opt rfl (fun h => h)) (fun hg => inv_impl _) (.cons (Ev.opt rfl (fun h => h)) .nil) (fun hg => x_implF) optS ?_
 refine ARun.not rfl rfl rfl rfl (Ev.opt rfl (fun h => h)) optS ?_
 refine ρ0 ?_
 refine ez ?_
 refine ρp (fun h3 => ?_) (fun h3 => ?_)
 · first | (exact absurd h3 (by decide)) | (simp at h3; done)
 refine AWP.skip (thenA_n (sr fun _ => ?_))
 refine mv ?_
 refine mv ?_
 refine ρn U195 sz195 ?_
 refine mv ?_
 refine ARun.callO hi hG rfl rfl rfl rfl cf125 (ep rfl) (.cons (ep rfl) (.cons (ep rfl) (.cons (ep rfl) (.cons (ep rfl) .nil)))) rfl (asF_fn e h0 _ _ (atO hi)) (by simp) optN (fun hG => ?_)
 refine mz ?_
 refine AWP.ret ?_
 refine endF.toG (congrArg (fun c => H.set i (AO.box c)) rfl) ?_
 refine endF.one (.inr rfl) rfl (.tmp rfl) ?_ (by rw [List.length_set]; exact hN)
 rfl
theorem code_of {e : Er} (h : e.isNone = false) : e.code = match e.found with | some c => if c = 0 then 2 else c | Option.none => 2 := by cases e <;> first | rfl | cases h
theorem code_two {e : Er} (h : e.isNone = false) (k : e.found = Option.none ∨ e.found.getD 0 = 0) : e.code = 2 := by
 rw [code_of h]
 cases hf : e.found with
 | none => rfl
 | some c => rw [hf] at k; simp at k; simp [k]
theorem code_got {e : Er} (h : e.isNone = false) (k : e.found.isSome = true) (k2 : ¬ e.found.getD 0 = 0) : e.code = e.found.getD 0 := by
 rw [code_of h]
 cases hf : e.found with
 | none => rw [hf] at k; cases k
 | some c => rw [hf] at k2; simp at k2; simp [k2]
theorem new_fn (op : ByteArray) (c : Int) : FnP Tryz.prog 80 [.str op, .int .i64 c] (aEr (Er.new op c)) := by
 refine FnP.of Tryz.func80 rfl rfl (by simp) (by simp [AV.cells]) (fun G hG => ?_)
 have hN : NoH G.length (aEr (Er.new op c)) := (by simp [AV.cells])
 refine sr fun _ => ?_
 refine mz ?_
 refine AWP.seq (sr fun _ => ?_)
 refine mv ?_
 refine ρ2 ?_
 refine ez ?_
 refine ρp (fun h0 => ?_) (fun h0 => ?_)
 · refine sr fun _ => ?_
   refine mz ?_
   refine AWP.ret (thenA_r ?_)
   refine ρi ?_
   rw [Er.new, if_pos (by simpa using h0)]; rfl
 refine AWP.skip (thenA_n (sr fun _ => ?_))
 refine mv ?_
 refine mv ?_
 refine ARun.iface rfl rfl rfl rfl (by kernel_rfl) (ep rfl) optN ?_
 refine ARun.build rfl rfl rfl rfl so190 (.cons (ep rfl) (.cons (ep rfl) .nil)) rfl rfl optN ?_
 refine ρz ?_
 refine ARun.iface rfl rfl rfl rfl (by kernel_rfl) (ep rfl) optN ?_
 refine mz ?_
 refine AWP.ret ?_
 refine ρi ?_
 rw [Er.new, if_neg (by simpa using h0)]; rfl
theorem wrap_fn (op : ByteArray) (e : Er) : FnP Tryz.prog 79 [.str op, aEr e] (aEr (Er.wrap op e)) := by
 refine FnP.of Tryz.func79 rfl rfl (by simp) (by simp [AV.cells]) (fun G hG => ?_)
 have hN : NoH G.length (aEr (Er.wrap op e)) := (by simp [AV.cells])
 refine sr fun _ => ?_
 refine mz ?_
 refine AWP.seq (sr fun _ => ?_)
 refine mv ?_
 refine ARun.isNil rfl rfl rfl rfl U96 (ep rfl) (fun hg => by first | rfl | exact nilA_aEr _) (.inl ⟨rfl, rfl⟩) optN ?_
 refine ez ?_
 refine ρp (fun h0 => ?_) (fun h0 => ?_)
 · refine sr fun _ => ?_
   refine mz ?_
   refine AWP.ret (thenA_r ?_)
   refine ρi ?_
   rw [Er.wrap, if_pos h0]; rfl
 rw [aEr_ifc h0]
 refine AWP.skip (thenA_n (sr fun _ => ?_))
 refine mv ?_
 refine mv ?_
 refine ARun.build rfl rfl rfl rfl so190 (.cons (ep rfl) (.cons (ep rfl) .nil)) rfl rfl optN ?_
 refine ρz ?_
 refine ARun.iface rfl rfl rfl rfl (by kernel_rfl) (ep rfl) optN ?_
 refine mz ?_
 refine AWP.ret ?_
 refine ρi ?_
 rw [Er.wrap, if_neg (by simp [h0])]
 show _ = AV.ifc _ (.pe [.str op, aEr e])
 rw [aEr_ifc h0]; rfl
theorem code_fn (e : Er) : FnP Tryz.prog 53 [aEr e] (.int .i64 e.code) := by
 refine FnP.of Tryz.func53 rfl rfl (by simp) (by simp [AV.cells]) (fun G hG => ?_)
 have hN : NoH G.length (.int .i64 e.code) := (by simp [AV.cells])
 refine sr fun _ => ?_
 refine mz ?_
 refine AWP.seq (sr fun _ => ?_)
 refine mv ?_
 refine ARun.isNil rfl rfl rfl rfl U96 (ep rfl) (fun hg => by first | rfl | exact nilA_aEr _) (.inl ⟨rfl, rfl⟩) optN ?_
 refine ez ?_
 refine ρp (fun h0 => ?_) (fun h0 => ?_)
 · obtain rfl := is_none h0
   refine sr fun _ => ?_
   refine mz ?_
   refine AWP.ret (thenA_r ?_)
   refine ρi ?_
   rfl
 try simp at h0
 refine AWP.skip (thenA_n (sr fun _ => ?_))
 refine ρo (j := 0) zv36 ?_
 refine ez ?_
 refine AWP.seq (sr fun _ => ?_)
 refine mv ?_
 refine ARun.iface rfl rfl rfl rfl (by kernel_rfl) (ep rfl) optN ?_
 refine ARun.callSet (j := 0) hG rfl rfl rfl rfl cf82 (ep rfl) (.cons (ep rfl) (.cons (ep rfl) .nil)) rfl (As_E e 0 _ _ ((hG.at _ _).trans rfl)) rfl optN ?_
 refine ρC ?_
 refine mv ?_
 refine ARun.loadBox rfl rfl rfl rfl U36 rfl (ep rfl) ((hG.at _ _).trans rfl) rfl optS ?_
 refine ρb ?_
 refine ρ3 ?_
 refine ez ?_
 refine ρp (fun h1 => ?_) (fun h1 => ?_)
 · try simp at h1
   refine sr fun _ => ?_
   refine mz ?_
   refine AWP.ret (thenA_r ?_)
   refine ρi ?_
   rw [code_two h0 h1]; rfl
 try simp at h1
 refine AWP.skip (thenA_n (sr fun _ => ?_))
 refine ρd U36 ?_
 refine mz ?_
 refine AWP.ret ?_
 refine ρi ?_
 rw [code_got h0 h1.1 h1.2]
-- instance : Inhabited ByteArray := ⟨⟨#[]⟩⟩
end Go.Proofs.YtcndnllmlhhjiaaGreatDoor
namespace Go.Proofs.YtcndnllmlhhjiaaGreatDoor
set_option linter.unusedVariables false
section
variable {P : Program} {ops : Array Oper} {n m : Nat} {QQ : List Kd → Sl → List AO → Prop} {l : List Oper} {ks : List Kd} {σ : Sl} {G L H : List AO} {o : Oper} {gd : Bool}
theorem ρt {x y : Operand} {t : TypeId} {j off : Nat} {cs cs' : List AV} {X : AV} {L' : List AO} (hz : Sz P t 1) (hr : ARun P ops n QQ l (ks ++ [.write]) σ (G ++ L')) (hm : GOK m G := by assumption) (ho : o.op = .store t x y := by exact rfl) (hd : o.dst = none := by exact rfl) (hg : gdS ops σ o.guard = some true := by exact rfl) (hx : Ev true σ x (.box (m + j) off) := by exact ep rfl) (hy : Ev true σ y X := by exact ep rfl) (hH : L[j]? = some (.box cs) := by exact rfl) (hX : X.one = true := by first | rfl | exact aEr_one _ | exact aFl_one _) (hoff : off + 1 ≤ cs.length := by exact Nat.le_of_ble_eq_true rfl) (hcs : cs.take off ++ [X] ++ cs.drop (off + 1) = cs' := by exact rfl) (hL : L.set j (.box cs') = L' := by exact rfl) (hsp : ((cs.drop off).take 1).all AV.plainC = true := by first | rfl | exact plain_take rfl | exact plain_take (by simp [AV.plainC])) : ARun P ops n QQ (o :: l) ks σ (G ++ L) := ARun.storeL1 hm ho hd hg hz hx hy hH hX hoff hcs hL hr hsp
end
end Go.Proofs.YtcndnllmlhhjiaaGreatDoor
namespace Go.Proofs.YtcndnllmlhhjiaaGreatDoor
open Go.RowKit
open NumP
theorem fit_at {l : List Int} (hf : ∀ x, x ∈ l → -9223372036854775808 ≤ x ∧ x ≤ 9223372036854775807) {k : Nat} (hk : k < l.length) : -9223372036854775808 ≤ l.getD k default ∧ l.getD k default ≤ 9223372036854775807 := by
 simp only [List.getD, List.getElem?_eq_getElem hk, Option.getD_some]; exact hf _ (List.getElem_mem hk)
theorem liesB : liesAt Tryz.prog Tryz.prog.depth 175 (2 / Tryz.prog.cellsOf 175) 0 175 1 = true := by kernel_rfl
theorem writeB (l : List UInt8) (t : ByteArray) (h : l.length + t.size ≤ 100000000) : FnM Tryz.prog 164 (fun i => [.box i 0, .str t]) [.adr 175, .buf 5 (bs l)] (.tup [.int .i64 t.size, .raw .nilIface]) [.adr 175, .buf 5 (bs l ++ t)] :=
 bld_write (n := 2) liesB (by decide) (bs l) t [] rfl (by rw [bs_size]; omega)
theorem rowPut_fn (n : Int) (h : -9223372036854775808 ≤ n ∧ n ≤ 9223372036854775807) (l : List UInt8) (hl : l.length ≤ 1000000) : FnM Tryz.prog 166 (fun i => [.int .i64 n, .box i 0]) ([.adr 175, .buf 5 (bs l)]) (.int .i64 (putN n).2) ([.adr 175, .buf 5 (bs (l ++ (putN n).1))]) := by
 have hpl := putN_len n
 refine FnM.of Tryz.func166 rfl rfl (fun i => by simp) (fun H i m hHm hi hG => ?_)
 have hN : NoH H.length (.int .i64 (putN n).2) := (by simp)
 refine sr fun _ => ?_
 refine mz (sr fun _ => ?_)
 refine mv ?_
 refine ρm cf140 (fun hg => put_fn n h) ?_
 refine mv ?_
 refine ρ9 ?_
 refine ρ9 ?_
 refine ma ?_
 refine mz (sr fun _ => ?_)
 refine mv ?_
 refine ARun.callO hi hG rfl rfl rfl rfl cf164 (ep rfl) (.cons (ep rfl) (.cons (ep rfl) .nil)) rfl (writeB l (bs (putN n).1) (by rw [bs_size]; omega) _ _ (atO hi)) (by simp) optN (fun hG => ?_)
 refine ez (sr fun _ => ?_)
 refine mv ?_
 refine mz ?_
 refine AWP.ret ?_
 refine endF.toG (congrArg (fun c => H.set i (AO.box c)) (by rw [bs_append])) ?_
 refine endF.one (.inr rfl) rfl (.tmp rfl) ?_ (by rw [List.length_set]; exact hN)
 rfl
theorem rowPut_st (x : Int) (h : -9223372036854775808 ≤ x ∧ x ≤ 9223372036854775807) (a : List UInt8 × Int) (ha : a.1.length ≤ 1000000) (h0 : a.2 = 0) : FnM Tryz.prog 166 (fun i => [.int .i64 x, .box i 0]) ([.adr 175, .buf 5 (bs a.1)]) (.int .i64 (rowStep a x).2) ([.adr 175, .buf 5 (bs (rowStep a x).1)]) := by
 rw [show rowStep a x = (a.1 ++ (putN x).1, (putN x).2) from if_pos h0]; exact rowPut_fn x h a.1 ha
theorem rowN_fn (l : List Int) (hl : l.length ≤ 10000) (hf : ∀ x, x ∈ l → -9223372036854775808 ≤ x ∧ x ≤ 9223372036854775807) : FnP Tryz.prog 141 [.sl (l.map (AV.int .i64))] (.tup [.str (bs (rowN l).1), .int .i64 (rowN l).2]) := by
 have hpe : (putN (l.length : Int)).2 = 0 := by rw [putN_err, if_pos (by omega)]
 have hp0 : FnM Tryz.prog 166 (fun i => [.int .i64 ((l.map (AV.int .i64)).length : Int), .box i 0]) ([.adr 175, .buf 5 (bs [])]) (.int .i64 (putN (l.length : Int)).2) ([.adr 175, .buf 5 (bs ([] ++ (putN (l.length : Int)).1))]) := by rw [List.length_map]; exact rowPut_fn l.length (by omega) [] (by simp)
 refine FnP.of Tryz.func141 rfl rfl (by simp) (by simp [AV.cells]) (fun G hG => ?_)
 have hN : NoH G.length (.tup [.str (bs (rowN l).1), .int .i64 (rowN l).2]) := (by simp [AV.cells])
 refine sr fun _ => ?_
 refine ma ?_
 refine mz (sr fun _ => ?_)
 refine ARun.allocBld (j := 0) (e := 5) hG rfl rfl rfl rfl rfl zv175 rfl rfl rfl optN ?_
 refine ez (sr fun _ => ?_)
 refine ARun.makeFunc rfl rfl rfl rfl .nil (.cons (ep rfl) .nil) optN ?_
 refine mz (sr fun _ => ?_)
 refine mv ?_
 refine mv ?_
 refine ρv U40 ?_
 refine ARun.callSet (j := 0) hG rfl rfl rfl rfl cf166 (ep rfl) (.cons (ep rfl) .nil) rfl (hp0 _ _ ((hG.at _ _).trans rfl)) rfl optN ?_
 refine mz ?_
 refine AWP.seq (sr fun _ => ?_)
 refine mv ?_
 refine ρv U40 ?_
 refine mv ?_
 refine ez ?_
 refine AWP.block ?_
 refine AWP.rounds (fun s => s.1 ≤ l.length ∧ s.2 = rowS l s.1) (fun s => [(5, .fn (.func 166) [] [.box (G.length + 0) 0]), (6, .int .i64 s.2.2), (14, .sl (l.map (AV.int .i64))), (15, .int .i64 ((l.map (AV.int .i64)).length : Int)), (16, .int .i64 (s.1 : Int)), (4, .box (G.length + 0) 0)]) (fun s => [.box ([.adr 175, .buf 5 (bs s.2.1)])]) (fun s => l.length - s.1) 1 ((0, rowS l 0) : Nat × (List UInt8 × Int)) ⟨Nat.zero_le _, rfl⟩ (by rw [show (rowS l 0).2 = (putN (l.length : Int)).2 from hpe.symm]; repeat (first | exact .nil | refine .cons rfl ?_)) rfl (fun _ => rfl) (fun _ => ⟨by simp [AV.cells], by simp [AO.conts]⟩) (fun s hI => ?_)
 obtain ⟨k, a⟩ := s
 dsimp only at hI
 show AWP _ _ _ _ _ [(5, .fn (.func 166) [] [.box (G.length + 0) 0]), (6, .int .i64 a.2), (14, .sl (l.map (AV.int .i64))), (15, .int .i64 ((l.map (AV.int .i64)).length : Int)), (16, .int .i64 (k : Int)), (4, .box (G.length + 0) 0)] _ [.box ([.adr 175, .buf 5 (bs a.1)])]
 obtain ⟨hk, ha⟩ := hI
 have hal := rowS_len l k
 rw [← ha] at hal
 refine sr fun _ => ?_
 refine ρ2 ?_
 refine ez ?_
 refine AWP.seq ?_
 refine ρp (fun h0 => ?_) (fun h0 => ?_)
 · simp [-List.getD_eq_getElem?_getD] at h0
   refine AWP.skip (thenA_n ?_)
   refine AWP.seq (AWP.block (sr fun _ => ?_))
   refine ρf U40 sz3 ?_
   refine ρ7 U3 ?_
   refine mz (sr fun _ => ?_)
   refine mv ?_
   refine ρ2 ?_
   refine ez ?_
   refine ρp (fun h1 => ?_) (fun h1 => ?_)
   · try simp [-List.getD_eq_getElem?_getD] at h1
     refine AWP.region (fun _ => ?_)
     refine mv ?_
     refine mv ?_
     refine ARun.callSet (j := 0) hG rfl rfl rfl rfl cf166 (ep rfl) (.cons (ep rfl) .nil) rfl (rowPut_st _ (fit_at hf (by simpa using h0)) a (by omega) h1 _ _ ((hG.at _ _).trans rfl)) rfl optN ?_
     refine ma ?_
     refine ⟨_, _, rfl, hG, ?_⟩
     refine blockA_n (thenA_n ?_)
     refine AWP.region (fun _ => ?_)
     refine ρa ?_
     refine mv ?_
     refine ⟨_, _, rfl, hG, ?_⟩
     refine thenA_n ⟨rfl, (k + 1, rowStep a (l.getD k default)), _, ?_, ?_, rfl, ?_⟩
     · refine ⟨by omega, ?_⟩
       show rowStep a _ = _
       rw [rowS_succ l k (by omega), ha]
     · repeat (first | exact .nil | refine .cons rfl ?_)
     dsimp only; omega
   try simp [-List.getD_eq_getElem?_getD] at h1
   refine AWP.skip (blockA_n (thenA_n ?_))
   refine AWP.region (fun _ => ?_)
   refine ρa ?_
   refine mv ?_
   refine ⟨_, _, rfl, hG, ?_⟩
   refine thenA_n ⟨rfl, (k + 1, a), _, ?_, ?_, rfl, ?_⟩
   · refine ⟨by omega, ?_⟩
     show a = _
     rw [rowS_succ l k (by omega), ← ha, rowStep, if_neg h1]
   · repeat (first | exact .nil | refine .cons rfl ?_)
   dsimp only; omega
 simp at h0
 obtain rfl : k = l.length := by omega
 have hall := rowS_all l
 rw [← ha] at hall
 refine AWP.exit ?_
 refine thenA_x ?_
 refine thenA_x ?_
 refine blockA_h ?_
 refine thenA_n (AWP.seq ?_)
 refine sr fun _ => ?_
 refine mv ?_
 refine ρ2 ?_
 refine ez ?_
 refine ρp (fun h2 => ?_) (fun h2 => ?_)
 · try simp [-List.getD_eq_getElem?_getD] at h2
   refine sr fun _ => ?_
   refine mv ?_
   refine ma ?_
   refine mz ?_
   refine AWP.ret (thenA_r ?_)
   refine ρj (rs := [.tmp 2, .tmp 3]) (.cons (.tmp rfl) (.cons (.tmp rfl) .nil)) ?_
   rw [if_neg h2] at hall
   rw [← hall]; rfl
 try simp [-List.getD_eq_getElem?_getD] at h2
 refine AWP.skip (thenA_n (sr fun _ => ?_))
 refine ARun.callSet (j := 0) hG rfl rfl rfl rfl cf142 (ep rfl) (.cons (ep rfl) .nil) rfl (bld_string (n := 2) (bs a.1) [] _ _ ((hG.at _ _).trans rfl)) rfl optN ?_
 refine ma ?_
 refine mz ?_
 refine AWP.ret ?_
 refine ρj (rs := [.tmp 2, .tmp 3]) (.cons (.tmp rfl) (.cons (.tmp rfl) .nil)) ?_
 rw [if_pos h2] at hall
 rw [← hall]; rfl
theorem map_snocI (l : List Int) (x : Int) : l.map (AV.int .i64) ++ [AV.int .i64 x] = (l ++ [x]).map (AV.int .i64) := by simp
theorem unrowN_fn (s : ByteArray) (p top : Int) (hs : s.size ≤ 1000000) : FnP Tryz.prog 119 [.str s, .int .i64 p, .int .i64 top] (.tup [.sl ((unrowN (bl s) p top).1.map (AV.int .i64)), .int .i64 (unrowN (bl s) p top).2.1, .int .i64 (unrowN (bl s) p top).2.2]) := by
 have hbd := getN_bd (bl s) p (by rw [bl_len]; exact hs)
 have hdef : unrowN (bl s) p top = (if (getN (bl s) p).2.2 ≠ 0 then (([], 0, (getN (bl s) p).2.2) : List Int × Int × Int) else if (getN (bl s) p).1 > 1000 ∨ ((getN (bl s) p).1 > top ∧ (getN (bl s) p).1 > 0) then ([], 0, 3) else unrowF (bl s) (getN (bl s) p).1.toNat (getN (bl s) p).2.1 []) := rfl
 refine FnP.of Tryz.func119 rfl rfl (by simp) (by simp [AV.cells]) (fun G hG => ?_)
 have hN : NoH G.length (.tup [.sl ((unrowN (bl s) p top).1.map (AV.int .i64)), .int .i64 (unrowN (bl s) p top).2.1, .int .i64 (unrowN (bl s) p top).2.2]) := (by simp [AV.cells])
 refine sr fun _ => ?_
 refine ARun.nilOwn (e := 3) (z := 1) (j := 0) hG rfl ⟨.inl rfl, rfl⟩ (fun _ => rfl) rfl rfl rfl optN ?_
 refine ma ?_
 refine mz (sr fun _ => ?_)
 refine mv ?_
 refine mv ?_
 refine ρh cf117 (fun hg => get_fn s p hs) ?_
 refine mv ?_
 refine ρ9 ?_
 refine ρ9 ?_
 refine ρ9 ?_
 refine ma ?_
 refine ma ?_
 refine mz ?_
 refine AWP.seq (sr fun _ => ?_)
 refine mv ?_
 refine ρ2 ?_
 refine ez ?_
 refine ρp (fun h0 => ?_) (fun h0 => ?_)
 · have h0' : (getN (bl s) p).2.2 ≠ 0 := by simpa using h0
   refine sr fun _ => ?_
   refine mv ?_
   refine ma ?_
   refine ma ?_
   refine mz ?_
   refine AWP.ret (thenA_r ?_)
   refine ρj (rs := [.tmp 6, .tmp 7, .tmp 8]) (.cons (.tmp rfl) (.cons (.tmp rfl) (.cons (.tmp rfl) .nil))) ?_
   rw [hdef, if_pos h0']; rfl
 simp at h0
 have hlen : (getN (bl s) p).1.toNat ≤ (getN (bl s) p).1.toNat := Nat.le_refl _
 rw [if_neg (by simp [h0])] at hdef
 refine AWP.skip (thenA_n (AWP.seq (sr fun _ => ?_)))
 refine mv ?_
 refine mv ?_
 refine ARun.minmax rfl rfl rfl rfl (ep rfl) (ep rfl) (.inr ⟨rfl, rfl⟩) optN ?_
 refine ARun.minmax rfl rfl rfl rfl (ep rfl) (ep rfl) (.inl ⟨rfl, rfl⟩) optN ?_
 refine ρ2 ?_
 refine ez ?_
 refine ρp (fun h1 => ?_) (fun h1 => ?_)
 · have h1' : (getN (bl s) p).1 > 1000 ∨ ((getN (bl s) p).1 > top ∧ (getN (bl s) p).1 > 0) := by simp at h1; omega
   rw [if_pos h1'] at hdef
   refine sr fun _ => ?_
   refine ma ?_
   refine ma ?_
   refine mz ?_
   refine AWP.ret (thenA_r ?_)
   refine ρj (rs := [.tmp 6, .tmp 7, .tmp 8]) (.cons (.tmp rfl) (.cons (.tmp rfl) (.cons (.tmp rfl) .nil))) ?_
   rw [hdef]; rfl
 have h1' : ¬ ((getN (bl s) p).1 > 1000 ∨ ((getN (bl s) p).1 > top ∧ (getN (bl s) p).1 > 0)) := by simp at h1; omega
 rw [if_neg h1'] at hdef
 refine AWP.skip (thenA_n (AWP.seq (sr fun _ => ?_)))
 refine mv ?_
 refine mv ?_
 refine ez ?_
 refine AWP.block ?_
 refine AWP.rounds (fun st => st.1 ≤ (getN (bl s) p).1.toNat ∧ st.2.2.2.length = st.1 ∧ unrowF (bl s) ((getN (bl s) p).1.toNat - st.1) st.2.2.1 st.2.2.2 = unrowF (bl s) (getN (bl s) p).1.toNat (getN (bl s) p).2.1 []) (fun st => [(0, .str s), (6, .own (G.length + 0) st.2.1), (7, .int .i64 st.2.2.1), (28, .int .i64 (getN (bl s) p).1), (29, .int .i64 (st.1 : Int))]) (fun st => [.row st.2.1 3 1 (st.2.2.2.map (AV.int .i64))]) (fun st => (getN (bl s) p).1.toNat - st.1) 1 ((0, 0, (getN (bl s) p).2.1, []) : Nat × Nat × Int × List Int) ⟨Nat.zero_le _, rfl, rfl⟩ (by repeat (first | exact .nil | refine .cons rfl ?_)) rfl (fun _ => rfl) (fun _ => ⟨by simp [AV.cells], by simp [AO.conts, AV.cells]; rintro y a _ rfl; simp⟩) (fun st hI => ?_)
 obtain ⟨k, g, to, acc⟩ := st
 dsimp only at hI
 show AWP _ _ _ _ _ [(0, .str s), (6, .own (G.length + 0) g), (7, .int .i64 to), (28, .int .i64 (getN (bl s) p).1), (29, .int .i64 (k : Int))] _ [.row g 3 1 (acc.map (AV.int .i64))]
 obtain ⟨hk, hal, hu⟩ := hI
 refine sr fun _ => ?_
 refine ρ2 ?_
 refine ez ?_
 refine AWP.seq ?_
 refine ρp (fun h2 => ?_) (fun h2 => ?_)
 · simp at h2
   refine AWP.skip (thenA_n ?_)
   refine AWP.seq (AWP.block (sr fun _ => ?_))
   refine mv ?_
   refine mv ?_
   refine ρh cf117 (fun hg => get_fn s to hs) ?_
   refine mv ?_
   refine ρ9 ?_
   refine ρ9 ?_
   refine ρ9 ?_
   refine ma ?_
   refine ma ?_
   refine mz ?_
   refine AWP.seq (sr fun _ => ?_)
   refine mv ?_
   refine ρ2 ?_
   refine ez ?_
   refine ρp (fun h3 => ?_) (fun h3 => ?_)
   · have h3' : (getN (bl s) to).2.2 ≠ 0 := by simpa using h3
     rw [show (getN (bl s) p).1.toNat - k = ((getN (bl s) p).1.toNat - (k + 1)) + 1 by omega, unrow_step, if_pos h3'] at hu
     refine sr fun _ => ?_
     refine mv ?_
     refine ma ?_
     refine ma ?_
     refine mz ?_
     refine AWP.ret (thenA_r ?_)
     refine blockA_r (thenA_r ?_)
     refine thenA_r (blockA_r (thenA_r ?_))
     refine ρj (rs := [.tmp 6, .tmp 7, .tmp 8]) (.cons (.tmp rfl) (.cons (.tmp rfl) (.cons (.tmp rfl) .nil))) ?_
     rw [hdef, ← hu]; rfl
   simp at h3
   rw [show (getN (bl s) p).1.toNat - k = ((getN (bl s) p).1.toNat - (k + 1)) + 1 by omega, unrow_step, if_neg (by simp [h3])] at hu
   refine AWP.skip (thenA_n ?_)
   refine AWP.region (fun _ => ?_)
   refine mv ?_
   refine mv ?_
   refine ρy U40 sz3 zv3 ?_
   refine ARun.appendL hG rfl rfl rfl rfl U40 ti3 rfl (by decide) (ep rfl) (ep rfl) rfl rfl (by simp [maxLen]; omega) (by simp; omega) (map_snocI acc _) optN rfl ?_
   refine mv ?_
   refine ma ?_
   refine ma ?_
   refine ⟨_, _, rfl, hG, ?_⟩
   refine blockA_n (thenA_n ?_)
   refine AWP.region (fun _ => ?_)
   refine ρa ?_
   refine mv ?_
   refine ⟨_, _, rfl, hG, ?_⟩
   refine thenA_n ⟨rfl, (k + 1, g + 1, (getN (bl s) to).2.1, acc ++ [(getN (bl s) to).1]), _, ?_, ?_, rfl, ?_⟩
   · exact ⟨by dsimp only; omega, by simp [hal], hu⟩
   · repeat (first | exact .nil | refine .cons rfl ?_)
   dsimp only; omega
 simp at h2
 have hkk : (getN (bl s) p).1.toNat - k = 0 := by omega
 rw [hkk] at hu
 refine AWP.exit ?_
 refine thenA_x ?_
 refine thenA_x ?_
 refine blockA_h ?_
 refine thenA_n (sr fun _ => ?_)
 refine mv ?_
 refine mv ?_
 refine ma ?_
 refine ma ?_
 refine mz ?_
 refine AWP.frzOwn 6 hG rfl rfl (by decide) (by simp [maxLen]; omega) rfl ?_
 refine AWP.ret ?_
 refine ρj (rs := [.tmp 6, .tmp 7, .tmp 8]) (.cons (.tmp rfl) (.cons (.tmp rfl) (.cons (.tmp rfl) .nil))) ?_
 rw [hdef, ← hu]; rfl
theorem unrowR_fn (s : ByteArray) (p top : Int) (hs : s.size ≤ 1000000) : FnP Tryz.prog 107 [.str s, .int .i64 p, .int .i64 top] (.tup [.sl ((unrowN (bl s) p top).1.map (AV.int .i64)), .int .i64 (unrowN (bl s) p top).2.1, .int .i64 (unrowN (bl s) p top).2.2]) := by
 have hbd := getN_bd (bl s) p (by rw [bl_len]; exact hs)
 have hdef : unrowN (bl s) p top = (if (getN (bl s) p).2.2 ≠ 0 then (([], 0, (getN (bl s) p).2.2) : List Int × Int × Int) else if (getN (bl s) p).1 > 1000 ∨ ((getN (bl s) p).1 > top ∧ (getN (bl s) p).1 > 0) then ([], 0, 3) else unrowF (bl s) (getN (bl s) p).1.toNat (getN (bl s) p).2.1 []) := rfl
 refine FnP.of Tryz.func107 rfl rfl (by simp) (by simp [AV.cells]) (fun G hG => ?_)
 have hN : NoH G.length (.tup [.sl ((unrowN (bl s) p top).1.map (AV.int .i64)), .int .i64 (unrowN (bl s) p top).2.1, .int .i64 (unrowN (bl s) p top).2.2]) := (by simp [AV.cells])
 refine sr fun _ => ?_
 refine ma ?_
 refine ma ?_
 refine mz (sr fun _ => ?_)
 refine mv ?_
 refine mv ?_
 refine ρh cf105 (fun hg => getR_fn s p hs) ?_
 refine mv ?_
 refine ρ9 ?_
 refine ρ9 ?_
 refine ρ9 ?_
 refine ma ?_
 refine ma ?_
 refine mz ?_
 refine AWP.seq (sr fun _ => ?_)
 refine mv ?_
 refine ρ2 ?_
 refine ez ?_
 refine ρp (fun h0 => ?_) (fun h0 => ?_)
 · have h0' : (getN (bl s) p).2.2 ≠ 0 := by simpa using h0
   refine sr fun _ => ?_
   refine mv ?_
   refine ma ?_
   refine ma ?_
   refine mz ?_
   refine AWP.ret (thenA_r ?_)
   refine ρj (rs := [.tmp 6, .tmp 7, .tmp 8]) (.cons (.tmp rfl) (.cons (.tmp rfl) (.cons (.tmp rfl) .nil))) ?_
   rw [hdef, if_pos h0']; rfl
 simp at h0
 have hlen : (getN (bl s) p).1.toNat ≤ (getN (bl s) p).1.toNat := Nat.le_refl _
 rw [if_neg (by simp [h0])] at hdef
 refine AWP.skip (thenA_n (AWP.seq (sr fun _ => ?_)))
 refine mv ?_
 refine ρ2 ?_
 refine mv ?_
 refine ρg ?_
 refine ρg ?_
 refine ρs ?_
 refine ARun.move (.inl rfl) rfl rfl rfl (Ev.opt rfl (fun h => h)) optS ?_
 refine ρg ?_
 refine ρb ?_
 refine ρD ?_
 refine ρ3 ?_
 refine ez ?_
 refine ρp (fun h1 => ?_) (fun h1 => ?_)
 · have h1' : (getN (bl s) p).1 > 1000 ∨ ((getN (bl s) p).1 > top ∧ (getN (bl s) p).1 > 0) := by simp at h1; omega
   rw [if_pos h1'] at hdef
   refine sr fun _ => ?_
   refine ma ?_
   refine ma ?_
   refine mz ?_
   refine AWP.ret (thenA_r ?_)
   refine ρj (rs := [.tmp 6, .tmp 7, .tmp 8]) (.cons (.tmp rfl) (.cons (.tmp rfl) (.cons (.tmp rfl) .nil))) ?_
   rw [hdef]; rfl
 have h1' : ¬ ((getN (bl s) p).1 > 1000 ∨ ((getN (bl s) p).1 > top ∧ (getN (bl s) p).1 > 0)) := by simp at h1; omega
 rw [if_neg h1'] at hdef
 refine AWP.skip (thenA_n (sr fun _ => ?_))
 refine ARun.nilOwn (e := 3) (z := 1) (j := 0) hG rfl ⟨.inl rfl, rfl⟩ (fun _ => rfl) rfl rfl rfl optN ?_
 refine ez ?_
 refine AWP.seq (sr fun _ => ?_)
 refine mz ?_
 refine AWP.block ?_
 refine AWP.rounds (fun st => st.1 ≤ (getN (bl s) p).1.toNat ∧ st.2.2.2.length = st.1 ∧ unrowF (bl s) ((getN (bl s) p).1.toNat - st.1) st.2.2.1 st.2.2.2 = unrowF (bl s) (getN (bl s) p).1.toNat (getN (bl s) p).2.1 []) (fun st => [(0, .str s), (12, .own (G.length + 0) st.2.1), (10, .int .i64 st.2.2.1), (9, .int .i64 (getN (bl s) p).1), (13, .int .i64 (st.1 : Int))]) (fun st => [.row st.2.1 3 1 (st.2.2.2.map (AV.int .i64))]) (fun st => (getN (bl s) p).1.toNat - st.1) 1 ((0, 0, (getN (bl s) p).2.1, []) : Nat × Nat × Int × List Int) ⟨Nat.zero_le _, rfl, rfl⟩ (by repeat (first | exact .nil | refine .cons rfl ?_)) rfl (fun _ => rfl) (fun _ => ⟨by simp [AV.cells], by simp [AO.conts, AV.cells]; rintro y a _ rfl; simp⟩) (fun st hI => ?_)
 obtain ⟨k, g, to, acc⟩ := st
 dsimp only at hI
 show AWP _ _ _ _ _ [(0, .str s), (12, .own (G.length + 0) g), (10, .int .i64 to), (9, .int .i64 (getN (bl s) p).1), (13, .int .i64 (k : Int))] _ [.row g 3 1 (acc.map (AV.int .i64))]
 obtain ⟨hk, hal, hu⟩ := hI
 refine AWP.seq (sr fun _ => ?_)
 refine mv ?_
 refine mv ?_
 refine ρ2 ?_
 refine ez ?_
 refine ρp (fun h2 => ?_) (fun h2 => ?_)
 · simp at h2
   refine AWP.skip (thenA_n ?_)
   refine AWP.seq (AWP.block (sr fun _ => ?_))
   refine mv ?_
   refine mv ?_
   refine ρh cf105 (fun hg => getR_fn s to hs) ?_
   refine mv ?_
   refine ρ9 ?_
   refine ρ9 ?_
   refine ρ9 ?_
   refine ma ?_
   refine ma ?_
   refine mz ?_
   refine AWP.seq (sr fun _ => ?_)
   refine mv ?_
   refine ρ2 ?_
   refine ez ?_
   refine ρp (fun h3 => ?_) (fun h3 => ?_)
   · have h3' : (getN (bl s) to).2.2 ≠ 0 := by simpa using h3
     rw [show (getN (bl s) p).1.toNat - k = ((getN (bl s) p).1.toNat - (k + 1)) + 1 by omega, unrow_step, if_pos h3'] at hu
     refine sr fun _ => ?_
     refine mv ?_
     refine ma ?_
     refine ma ?_
     refine mz ?_
     refine AWP.ret (thenA_r ?_)
     refine blockA_r (thenA_r ?_)
     refine thenA_r (blockA_r (thenA_r ?_))
     refine ρj (rs := [.tmp 6, .tmp 7, .tmp 8]) (.cons (.tmp rfl) (.cons (.tmp rfl) (.cons (.tmp rfl) .nil))) ?_
     rw [hdef, ← hu]; rfl
   simp at h3
   rw [show (getN (bl s) p).1.toNat - k = ((getN (bl s) p).1.toNat - (k + 1)) + 1 by omega, unrow_step, if_neg (by simp [h3])] at hu
   refine AWP.skip (thenA_n (sr fun _ => ?_))
   refine mv ?_
   refine mv ?_
   refine ρy U40 sz3 zv3 ?_
   refine ARun.appendL hG rfl rfl rfl rfl U40 ti3 rfl (by decide) (ep rfl) (ep rfl) rfl rfl (by simp [maxLen]; omega) (by simp; omega) (map_snocI acc _) optN rfl ?_
   refine mz ?_
   refine AWP.region (fun _ => ?_)
   refine mv ?_
   refine ma ?_
   refine ⟨_, _, rfl, hG, ?_⟩
   refine blockA_n (thenA_n ?_)
   refine AWP.region (fun _ => ?_)
   refine mv ?_
   refine ρa ?_
   refine ma ?_
   refine ⟨_, _, rfl, hG, ?_⟩
   refine thenA_n ⟨rfl, (k + 1, g + 1, (getN (bl s) to).2.1, acc ++ [(getN (bl s) to).1]), _, ?_, ?_, rfl, ?_⟩
   · exact ⟨by dsimp only; omega, by simp [hal], hu⟩
   · repeat (first | exact .nil | refine .cons rfl ?_)
   dsimp only; omega
 simp at h2
 have hkk : (getN (bl s) p).1.toNat - k = 0 := by omega
 rw [hkk] at hu
 refine AWP.exit ?_
 refine thenA_x ?_
 refine thenA_x ?_
 refine blockA_h ?_
 refine thenA_n (sr fun _ => ?_)
 refine mv ?_
 refine mv ?_
 refine ma ?_
 refine ma ?_
 refine mz ?_
 refine AWP.frzOwn 6 hG rfl rfl (by decide) (by simp [maxLen]; omega) rfl ?_
 refine AWP.ret ?_
 refine ρj (rs := [.tmp 6, .tmp 7, .tmp 8]) (.cons (.tmp rfl) (.cons (.tmp rfl) (.cons (.tmp rfl) .nil))) ?_
 rw [hdef, ← hu]; rfl
theorem rowR_fn (l : List Int) (hl : l.length ≤ 10000) (hf : ∀ x, x ∈ l → -9223372036854775808 ≤ x ∧ x ≤ 9223372036854775807) : FnP Tryz.prog 161 [.sl (l.map (AV.int .i64))] (.tup [.str (bs (rowN l).1), .int .i64 (rowN l).2]) := by
 have hp0 : FnP Tryz.prog 163 [.int .i64 ((l.map (AV.int .i64)).length : Int)] (.tup [.str (bs (putN (l.length : Int)).1), .int .i64 (putN (l.length : Int)).2]) := by rw [List.length_map]; exact putR_fn l.length (by omega)
 refine FnP.of Tryz.func161 rfl rfl (by simp) (by simp [AV.cells]) (fun G hG => ?_)
 have hN : NoH G.length (.tup [.str (bs (rowN l).1), .int .i64 (rowN l).2]) := (by simp [AV.cells])
 refine sr fun _ => ?_
 refine ma ?_
 refine mz (sr fun _ => ?_)
 refine mv ?_
 refine ρv U40 ?_
 refine ρm cf163 (fun hg => hp0) ?_
 refine mv ?_
 refine ρ9 ?_
 refine ρ9 ?_
 refine ma ?_
 refine mz ?_
 refine AWP.seq (sr fun _ => ?_)
 refine mz ?_
 refine AWP.block ?_
 refine AWP.rounds (fun k => k ≤ l.length ∧ (rowS l k).2 = 0) (fun k => [(0, .sl (l.map (AV.int .i64))), (4, .str (bs (rowS l k).1)), (6, .int .i64 (k : Int))]) (fun k => []) (fun k => l.length - k) 0 0 ⟨Nat.zero_le _, rfl⟩ (by repeat (first | exact .nil | refine .cons rfl ?_)) rfl (fun _ => rfl) (fun _ => ⟨by simp [AV.cells], by simp⟩) (fun k hI => ?_)
 obtain ⟨hk, ha⟩ := hI
 have hal := rowS_len l k
 refine AWP.seq (sr fun _ => ?_)
 refine mv ?_
 refine mv ?_
 refine ρv U40 ?_
 refine ρ2 ?_
 refine ez ?_
 refine ρp (fun h0 => ?_) (fun h0 => ?_)
 · try simp [-List.getD_eq_getElem?_getD] at h0
   refine AWP.skip (thenA_n ?_)
   refine AWP.seq (AWP.block (sr fun _ => ?_))
   refine mv ?_
   refine mv ?_
   refine ρf U40 sz3 ?_
   refine ρ7 U3 ?_
   refine ρA cf163 ?_ (hF := fun hg => putR_fn _ (fit_at hf (by simpa using h0)))
   refine mv ?_
   refine ρ9 ?_
   refine ρ9 ?_
   refine ma ?_
   refine mz ?_
   refine AWP.seq (sr fun _ => ?_)
   refine mv ?_
   refine ρ2 ?_
   refine ez ?_
   refine ρp (fun h1 => ?_) (fun h1 => ?_)
   · try simp [-List.getD_eq_getElem?_getD] at h1
     refine sr fun _ => ?_
     refine mv ?_
     refine ma ?_
     refine mz ?_
     refine AWP.ret (thenA_r ?_)
     refine blockA_r (thenA_r ?_)
     refine thenA_r (blockA_r (thenA_r ?_))
     refine ρj (rs := [.tmp 2, .tmp 3]) (.cons (.tmp rfl) (.cons (.tmp rfl) .nil)) ?_
     have h1' : ¬ (putN (l.getD k default)).2 = 0 := h1
     rw [putN_err] at h1' ⊢
     have hlt : ¬ 0 ≤ l.getD k default := by intro h; rw [if_pos h] at h1'; exact h1' rfl
     have hn : nneg l = false := by
       unfold nneg; rw [List.all_eq_false]
       refine ⟨l[k], List.getElem_mem (by omega), ?_⟩
       simp [List.getD, show k < l.length by omega] at hlt
       simp; omega
     rw [if_neg hlt, rowN, if_neg (by simp [hn])]; rfl
   try simp [-List.getD_eq_getElem?_getD] at h1
   refine AWP.skip (thenA_n ?_)
   refine AWP.region (fun _ => ?_)
   refine mv ?_
   refine mv ?_
   refine ARun.cat rfl rfl rfl rfl (ep rfl) (ep rfl) (fun hg => (by simp only [bs_size]; have := putN_len (l.getD k default); omega)) optN ?_
   refine ma ?_
   refine ⟨_, _, rfl, hG, ?_⟩
   refine blockA_n (thenA_n ?_)
   refine AWP.region (fun _ => ?_)
   refine mv ?_
   refine ρa ?_
   refine ma ?_
   refine ⟨_, _, rfl, hG, ?_⟩
   refine thenA_n ⟨rfl, k + 1, _, ?_, ?_, rfl, ?_⟩
   · refine ⟨by omega, ?_⟩
     rw [rowS_succ l k (by omega), rowStep, if_pos ha]; exact h1
   · rw [show (rowS l (k + 1)).1 = (rowS l k).1 ++ (putN (l.getD k default)).1 by rw [rowS_succ l k (by omega), rowStep, if_pos ha], ← bs_append]
     repeat (first | exact .nil | refine .cons rfl ?_)
   omega
 simp at h0
 obtain rfl : k = l.length := by omega
 have hall := rowS_all l
 rw [if_pos ha] at hall
 refine AWP.exit ?_
 refine thenA_x ?_
 refine thenA_x ?_
 refine blockA_h ?_
 refine thenA_n (sr fun _ => ?_)
 refine mv ?_
 refine ma ?_
 refine mz ?_
 refine AWP.ret ?_
 refine ρj (rs := [.tmp 2, .tmp 3]) (.cons (.tmp rfl) (.cons (.tmp rfl) .nil)) ?_
 rw [← hall]; rfl
end Go.Proofs.YtcndnllmlhhjiaaGreatDoor
namespace Go.Proofs.YtcndnllmlhhjiaaGreatDoor
open Go.RowKit
open NumP
def aW (w : WrS) : List AV := [.adr 177, .buf 5 (bs w.s), aEr (errOf tWrite w.p w.e)]
def aRd (r : RdS) : List AV := [.str r.s, .int .i64 r.at_, aEr (errOf tRead r.p r.e), .bool true]
def aIn (r : RdS) : AV := .agg [.str r.s, .int .i64 r.at_, .str r.p, .int .i64 r.e]
def aOut (w : WrS) : AV := .agg [.str w.out, .str w.p, .int .i64 w.e]
theorem noH_aW (m : Nat) (w : WrS) : ∀ x, x ∈ aW w → NoH m x := by simp [aW]
theorem noH_aRd (m : Nat) (r : RdS) : ∀ x, x ∈ aRd r → NoH m x := by simp [aRd]
theorem liesW : liesAt Tryz.prog Tryz.prog.depth 177 (3 / Tryz.prog.cellsOf 177) 0 175 1 = true := by kernel_rfl
theorem writeW (w : WrS) (s : ByteArray) (h : w.s.length + s.size ≤ 100000000) : FnM Tryz.prog 164 (fun i => [.box i 0, .str s]) (aW w) (.tup [.int .i64 s.size, .raw .nilIface]) [.adr 177, .buf 5 (bs w.s ++ s), aEr (errOf tWrite w.p w.e)] :=
 bld_write (n := 3) liesW (by decide) (bs w.s) s [aEr (errOf tWrite w.p w.e)] rfl (by rw [bs_size]; omega)
theorem plain_aEr (e : Er) : (aEr e).plainC = true := by cases e <;> rfl
theorem out_len (w : WrS) : w.out.size ≤ w.s.length := by
 unfold WrS.out; split
 · exact Nat.le_refl _
 exact Nat.zero_le _
theorem unrowF_bad (l : List UInt8) (k : Nat) : ∀ (to : Int) (acc : List Int), (unrowF l k to acc).2.2 ≠ 0 → (unrowF l k to acc).1 = [] := by
 induction k with
 | zero => intro to acc h; exact absurd rfl h
 | succ k ih =>
   intro to acc h
   rw [unrow_step] at h ⊢
   split
   · rfl
   rename_i h1; rw [if_neg h1] at h; exact ih _ _ h
theorem unrow_bad {l : List UInt8} {p top : Int} (h : (unrowN l p top).2.2 ≠ 0) : (unrowN l p top).1 = [] := by
 unfold unrowN at h ⊢
 split
 · rfl
 rename_i h1
 rw [if_neg h1] at h
 split
 · rfl
 rename_i h2; rw [if_neg h2] at h; exact unrowF_bad _ _ _ _ h
theorem moved_pos {r : RdS} {p : ByteArray} {to e : Int} (h : e ≠ 0) : r.moved p to e = { r with p := p, e := e } := if_pos h
theorem moved_neg {r : RdS} {p : ByteArray} {to e : Int} (h : e = 0) : r.moved p to e = { r with at_ := to } := if_neg (by simpa using h)
theorem put_w (w : WrS) (p : ByteArray) (u : List UInt8) (s : ByteArray) (hs : s = bs u) (e : Int) (hl : w.s.length + u.length ≤ 10000000) : FnM Tryz.prog 139 (fun i => [.box i 0, .str p, .str s, .int .i64 e]) (aW w) (.tup []) (aW (wrPut w p u e)) := by
 subst hs
 refine FnM.of Tryz.func139 rfl rfl (fun i => by simp) (fun H i m hHm hi hG => ?_)
 have hN : NoH H.length (.tup []) := (by simp [AV.cells, aIn, aOut])
 refine AWP.seq (sr fun _ => ?_)
 refine mv ?_
 refine ARun.isNilBox rfl rfl rfl rfl U213 (ep rfl) (atO hi) (.inl ⟨rfl, rfl⟩) optN ?_
 refine mv ?_
 refine ρg ?_
 refine ARun.nilBox rfl rfl rfl rfl (Ev.opt rfl (fun h => h)) (atO hi) optS ?_
 refine ARun.fieldBox (fo := 2) rfl rfl rfl rfl U177 rfl rfl sz96 (by decide) (Ev.opt rfl (fun h => h)) (atO hi) optS ?_
 refine ARun.loadBox rfl rfl rfl rfl U96 rfl (Ev.opt rfl (fun h => h)) (atO hi) rfl optS ?_
 refine ARun.isNil rfl rfl rfl rfl U96 (Ev.opt rfl (fun h => h)) (fun hg => by first | rfl | exact nilA_aEr _) (.inr ⟨rfl, rfl⟩) optS ?_
 refine ρ3 ?_
 refine ez ?_
 refine ρp (fun h0 => ?_) (fun h0 => ?_)
 · have hw : w.e ≠ 0 := by simpa [errOf_none] using h0
   refine AWP.ret (thenA_r ?_)
   refine endF.toG (congrArg (fun c => H.set i (AO.box c)) (by rw [wrPut, if_pos hw])) ?_
   refine endF.many (.inr rfl) (rs := []) rfl .nil (by simp) ?_ (by rw [List.length_set]; exact hN)
   rfl
 have hw : w.e = 0 := by simpa [errOf_none] using h0
 refine AWP.skip (thenA_n (AWP.seq (sr fun _ => ?_)))
 refine mv ?_
 refine ρ2 ?_
 refine ez ?_
 refine ρp (fun h1 => ?_) (fun h1 => ?_)
 · have he : e ≠ 0 := by simpa using h1
   refine sr fun _ => ?_
   refine mv ?_
   refine mv ?_
   refine mv ?_
   refine ρh cf80 (fun hg => new_fn p e) ?_
   refine ρh cf79 (fun hg => wrap_fn tWrite (Er.new p e)) ?_
   refine ARun.nilBox rfl rfl rfl rfl (ep rfl) (atO hi) optN ?_
   refine ARun.fieldBox (fo := 2) rfl rfl rfl rfl U177 rfl rfl sz96 (by decide) (ep rfl) (atO hi) optN ?_
   refine ARun.storeO1 hi hG rfl rfl rfl sz96 (ep rfl) (ep rfl) (by first | rfl | exact aEr_one _ | exact aFl_one _) (Nat.le_of_ble_eq_true rfl) rfl (by first | exact noH_aW _ _ | (simp; done) | (simp [cAV]; done)) (fun hG => ?_) (hsp := (by simp [aW, plain_aEr]))
   refine ez ?_
   refine AWP.ret (thenA_r ?_)
   refine endF.toG (congrArg (fun c => H.set i (AO.box c)) (by rw [wrPut, if_neg (by omega), if_pos he]; exact congrArg (fun x => [AV.adr _, .buf _ (bs w.s), aEr x]) (errOf_mk tWrite p e))) ?_
   refine endF.many (.inr rfl) (rs := []) rfl .nil (by simp) ?_ (by rw [List.length_set]; exact hN)
   rfl
 have he : e = 0 := by simpa using h1
 refine AWP.skip (thenA_n ?_)
 refine AWP.region (fun _ => ?_)
 refine mv ?_
 refine ARun.nilBox rfl rfl rfl rfl (ep rfl) (atO hi) optN ?_
 refine ARun.fieldBox (fo := 0) rfl rfl rfl rfl U177 rfl rfl sz175 (by decide) (ep rfl) (atO hi) optN ?_
 refine mv ?_
 refine ARun.callO hi hG rfl rfl rfl rfl cf164 (ep rfl) (.cons (ep rfl) (.cons (ep rfl) .nil)) rfl (writeW w (bs u) (by rw [bs_size]; omega) _ _ (atO hi)) (by first | exact noH_aW _ _ | (simp; done) | (simp [cAV]; done)) optN (fun hG => ?_)
 refine ⟨_, _, rfl, hG, ?_⟩
 refine endF.toG (congrArg (fun c => H.set i (AO.box c)) (by rw [wrPut, if_neg (by omega), if_neg (by omega), bs_append]; rfl)) ?_
 refine endF.many (.inl rfl) (rs := []) rfl .nil (by simp) ?_ (by rw [List.length_set]; exact hN)
 rfl
-- numbers
theorem nums_w (w : WrS) (l : List Int) (hll : l.length ≤ 1000) (hl : w.s.length ≤ 1000000) (hf : ∀ x, x ∈ l → -9223372036854775808 ≤ x ∧ x ≤ 9223372036854775807) : FnM Tryz.prog 113 (fun i => [.box i 0, .sl (l.map (AV.int .i64))]) (aW w) (.tup []) (aW (wrNums w l)) := by
 refine FnM.of Tryz.func113 rfl rfl (fun i => by simp) (fun H i m hHm hi hG => ?_)
 have hN : NoH H.length (.tup []) := (by simp [AV.cells, aIn, aOut])
 refine sr fun _ => ?_
 refine mv ?_
 refine ARun.makeFunc rfl rfl rfl rfl (.cons (ep rfl) .nil) .nil optN ?_
 refine mz (sr fun _ => ?_)
 refine mv ?_
 refine ρv U40 ?_
 refine mv ?_
 refine ez ?_
 refine AWP.block ?_
 refine AWP.roundsO (fun k => k ≤ l.length) (fun k => [(1, .sl (l.map (AV.int .i64))), (4, .fn (.func 139) [.box i 0] []), (11, .sl (l.map (AV.int .i64))), (12, .int .i64 ((l.map (AV.int .i64)).length : Int)), (13, .int .i64 (k : Int))]) (fun k => H.set i (.box (aW (wrNums w (l.take k))))) (fun k => []) (fun k => l.length - k) 0 0 (Nat.zero_le _) (by repeat (first | exact .nil | refine .cons rfl ?_)) rfl rfl (fun _ => rfl) (fun _ => ⟨by simp [AV.cells]; omega, by simp⟩) (fun k hI hG => ?_)
 show AWP _ _ _ _ _ [(1, .sl (l.map (AV.int .i64))), (4, .fn (.func 139) [.box i 0] []), (11, .sl (l.map (AV.int .i64))), (12, .int .i64 ((l.map (AV.int .i64)).length : Int)), (13, .int .i64 (k : Int))] (H.set i (.box (aW (wrNums w (l.take k))))) []
 replace hG : GOK _ (H.set i (.box (aW (wrNums w (l.take k))))) := hG
 have hwl := wrNums_len (l.take k) w
 have htl : (l.take k).length ≤ k := by rw [List.length_take]; omega
 refine sr fun _ => ?_
 refine ρ2 ?_
 refine ez ?_
 refine AWP.seq ?_
 refine ρp (fun h0 => ?_) (fun h0 => ?_)
 · try simp [-List.getD_eq_getElem?_getD] at h0
   refine AWP.skip (thenA_n ?_)
   refine AWP.seq (AWP.block (sr fun _ => ?_))
   refine ρf U40 sz3 ?_
   refine ρ7 U3 ?_
   refine mz (sr fun _ => ?_)
   refine mv ?_
   refine ρA cf140 ?_ (hF := fun hg => put_fn _ (fit_at hf (by simpa using h0)))
   refine mv ?_
   refine ρ9 ?_
   refine ρ9 ?_
   refine ma ?_
   refine mz ?_
   refine AWP.region (fun _ => ?_)
   refine mv ?_
   refine mv ?_
   refine mv ?_
   refine ARun.callO hi hG rfl rfl rfl rfl cf139 (ep rfl) (.cons (ep rfl) (.cons (ep rfl) (.cons (ep rfl) .nil))) rfl (put_w (wrNums w (l.take k)) tNum (putN (l.getD k default)).1 _ rfl (putN (l.getD k default)).2 (by have := putN_len (l.getD k default); omega) _ _ (atO hi)) (by first | exact noH_aW _ _ | (simp; done) | (simp [cAV]; done)) optN (fun hG => ?_)
   refine ⟨_, _, rfl, hG, ?_⟩
   refine blockA_n (thenA_n ?_)
   refine AWP.region (fun _ => ?_)
   refine ρa ?_
   refine mv ?_
   refine ⟨_, _, rfl, hG, ?_⟩
   refine thenA_n ⟨k + 1, _, ?_, ?_, ?_, rfl, ?_⟩
   · rw [wrNums_succ w l k (by simpa using h0)]; rfl
   · omega
   · repeat (first | exact .nil | refine .cons rfl ?_)
   omega
 simp at h0
 obtain rfl : k = l.length := by omega
 rw [List.take_length]
 refine AWP.exit ?_
 refine thenA_x ?_
 refine thenA_x ?_
 refine blockA_h ?_
 refine endF.toG (congrArg (fun c => H.set i (AO.box c)) rfl) ?_
 refine endF.many (.inl rfl) (rs := []) rfl .nil (by simp) ?_ (by rw [List.length_set]; exact hN)
 rfl
theorem row_w (w : WrS) (l : List Int) (hll : l.length ≤ 10000) (hl : w.s.length ≤ 1000000) (hf : ∀ x, x ∈ l → -9223372036854775808 ≤ x ∧ x ≤ 9223372036854775807) : FnM Tryz.prog 114 (fun i => [.box i 0, .sl (l.map (AV.int .i64))]) (aW w) (.tup []) (aW (wrRow w l)) := by
 have hrl := rowN_len l
 refine FnM.of Tryz.func114 rfl rfl (fun i => by simp) (fun H i m hHm hi hG => ?_)
 have hN : NoH H.length (.tup []) := (by simp [AV.cells, aIn, aOut])
 refine sr fun _ => ?_
 refine mv ?_
 refine ρm cf141 (fun hg => rowN_fn l hll hf) ?_
 refine mv ?_
 refine ρ9 ?_
 refine ρ9 ?_
 refine ma ?_
 refine mz ?_
 refine AWP.region (fun _ => ?_)
 refine mv ?_
 refine mv ?_
 refine mv ?_
 refine ARun.callO hi hG rfl rfl rfl rfl cf139 (ep rfl) (.cons (ep rfl) (.cons (ep rfl) (.cons (ep rfl) (.cons (ep rfl) .nil)))) rfl (put_w w tRow (rowN l).1 _ rfl (rowN l).2 (by omega) _ _ (atO hi)) (by first | exact noH_aW _ _ | (simp; done) | (simp [cAV]; done)) optN (fun hG => ?_)
 refine ⟨_, _, rfl, hG, ?_⟩
 refine endF.toG (congrArg (fun c => H.set i (AO.box c)) rfl) ?_
 refine endF.many (.inl rfl) (rs := []) rfl .nil (by simp) ?_ (by rw [List.length_set]; exact hN)
 rfl
theorem done_ok (w : WrS) (h : w.e = 0) : FnK Tryz.prog 115 (fun i => [.box i 0]) (aW w) (.tup [.str w.out, .raw .nilIface]) := by
 refine FnK.of Tryz.func115 rfl rfl (fun i => by simp) (fun H i m hHm hi hG => ?_)
 have hN : NoH H.length (.tup [.str w.out, .raw .nilIface]) := (by simp [AV.cells, aIn, aOut])
 refine sr fun _ => ?_
 refine ma ?_
 refine mz ?_
 refine AWP.seq (sr fun _ => ?_)
 refine mv ?_
 refine ARun.isNilBox rfl rfl rfl rfl U213 (ep rfl) (atO hi) (.inl ⟨rfl, rfl⟩) optN ?_
 refine ez ?_
 refine ρp (fun h0 => ?_) (fun h0 => ?_)
 · simp at h0
 refine AWP.skip (thenA_n (AWP.seq (sr fun _ => ?_)))
 refine mv ?_
 refine ARun.nilBox rfl rfl rfl rfl (ep rfl) (atO hi) optN ?_
 refine ARun.fieldBox (fo := 2) rfl rfl rfl rfl U177 rfl rfl sz96 (by decide) (ep rfl) (atO hi) optN ?_
 refine ARun.loadBox rfl rfl rfl rfl U96 rfl (ep rfl) (atO hi) rfl optN ?_
 refine ARun.isNil rfl rfl rfl rfl U96 (ep rfl) (fun hg => by first | rfl | exact nilA_aEr _) (.inr ⟨rfl, rfl⟩) optN ?_
 refine ez ?_
 refine ρp (fun h1 => ?_) (fun h1 => ?_)
 · simp [errOf_none, h] at h1
 refine AWP.skip (thenA_n (sr fun _ => ?_))
 refine mv ?_
 refine ARun.nilBox rfl rfl rfl rfl (ep rfl) (atO hi) optN ?_
 refine ARun.fieldBox (fo := 0) rfl rfl rfl rfl U177 rfl rfl sz175 (by decide) (ep rfl) (atO hi) optN ?_
 refine ARun.callK hi hG rfl rfl rfl rfl cf142 (ep rfl) (.cons (ep rfl) .nil) rfl (bld_string (T := 177) (n := 3) (bs w.s) [aEr (errOf tWrite w.p w.e)] _ _ (atO hi)) optN (fun hG => ?_)
 refine ma ?_
 refine mz ?_
 refine AWP.ret ?_
 refine endF.many (.inr rfl) (rs := [.tmp 2, .tmp 3]) rfl (.cons (.tmp rfl) (.cons (.tmp rfl) .nil)) (by simp) ?_ (by rw [List.length_set]; exact hN)
 rw [WrS.out, if_pos h]; rfl
theorem done_bad (w : WrS) (h : w.e ≠ 0) : FnM Tryz.prog 115 (fun i => [.box i 0]) (aW w) (.tup [.str w.out, aEr (errOf tWrite w.p w.e)]) (aW w) := by
 refine FnM.of Tryz.func115 rfl rfl (fun i => by simp) (fun H i m hHm hi hG => ?_)
 have hN : NoH H.length (.tup [.str w.out, aEr (errOf tWrite w.p w.e)]) := (by simp [AV.cells, aIn, aOut])
 refine sr fun _ => ?_
 refine ma ?_
 refine mz ?_
 refine AWP.seq (sr fun _ => ?_)
 refine mv ?_
 refine ARun.isNilBox rfl rfl rfl rfl U213 (ep rfl) (atO hi) (.inl ⟨rfl, rfl⟩) optN ?_
 refine ez ?_
 refine ρp (fun h0 => ?_) (fun h0 => ?_)
 · simp at h0
 refine AWP.skip (thenA_n (AWP.seq (sr fun _ => ?_)))
 refine mv ?_
 refine ARun.nilBox rfl rfl rfl rfl (ep rfl) (atO hi) optN ?_
 refine ARun.fieldBox (fo := 2) rfl rfl rfl rfl U177 rfl rfl sz96 (by decide) (ep rfl) (atO hi) optN ?_
 refine ARun.loadBox rfl rfl rfl rfl U96 rfl (ep rfl) (atO hi) rfl optN ?_
 refine ARun.isNil rfl rfl rfl rfl U96 (ep rfl) (fun hg => by first | rfl | exact nilA_aEr _) (.inr ⟨rfl, rfl⟩) optN ?_
 refine ez ?_
 refine ρp (fun h1 => ?_) (fun h1 => ?_)
 · refine AWP.seq ?_
   refine ρE mixed (fun _ => ?_)
   refine mv ?_
   refine ARun.nilBox rfl rfl rfl rfl (ep rfl) (atO hi) optN ?_
   refine ARun.fieldBox (fo := 2) rfl rfl rfl rfl U177 rfl rfl sz96 (by decide) (ep rfl) (atO hi) optN ?_
   refine ARun.loadBox rfl rfl rfl rfl U96 rfl (ep rfl) (atO hi) rfl optN ?_
   refine ma ?_
   refine ma ?_
   refine ⟨by kernel_rfl, _, _, rfl, hG, ?_⟩
   refine thenA_n (AWP.ret (thenA_r ?_))
   refine endF.toG (congrArg (fun c => H.set i (AO.box c)) rfl) ?_
   refine endF.many (.inr rfl) (rs := [.tmp 2, .tmp 3]) rfl (.cons (.tmp rfl) (.cons (.tmp rfl) .nil)) (by simp) ?_ (by rw [List.length_set]; exact hN)
   rw [WrS.out, if_neg h]; rfl
 simp [errOf_none, h] at h1
theorem done_w (w : WrS) : FnK Tryz.prog 115 (fun i => [.box i 0]) (aW w) (.tup [.str w.out, aEr (errOf tWrite w.p w.e)]) := by
 by_cases h : w.e = 0
 · rw [h, errOf_zero]; exact done_ok w h
 exact (done_bad w h).kill (by simp)
theorem newr_fn (s : ByteArray) : FnNewB Tryz.prog 74 [.str s] (fun i => .box i 0) (aRd (RdS.new s)) := by
 refine FnNewB.of Tryz.func74 rfl rfl (by simp) (fun G hG => ?_)
 refine sr fun _ => ?_
 refine mz (sr fun _ => ?_)
 refine mv ?_
 refine ARun.build rfl rfl rfl rfl so182 (.cons (ep rfl) (.cons (ep rfl) .nil)) rfl rfl optN ?_
 refine ARun.box (j := 0) hG rfl rfl rfl rfl rfl (ep rfl) rfl rfl optN ?_
 refine mz ?_
 refine AWP.ret ?_
 refine endN.one (.inr rfl) rfl (.tmp rfl) ?_ (by first | exact noH_aRd _ _ | (simp; done)) (by first | exact noH_aRd _ _ | (simp; done))
 rfl
theorem goes_fn (r : RdS) : FnM Tryz.prog 116 (fun i => [.box i 0]) (aRd r) (.bool (decide (r.e = 0))) (aRd r) := by
 refine FnM.of Tryz.func116 rfl rfl (fun i => by simp) (fun H i m hHm hi hG => ?_)
 have hN : NoH H.length (.bool (decide (r.e = 0))) := (by simp [AV.cells, aIn, aOut])
 refine sr fun _ => ?_
 refine mz (sr fun _ => ?_)
 refine ρo (j := 0) zv188 ?_
 refine ez (sr fun _ => ?_)
 refine mv ?_
 refine ARun.isNilBox rfl rfl rfl rfl U132 (ep rfl) (atO hi) (.inr ⟨rfl, rfl⟩) optN ?_
 refine mv ?_
 refine ρg ?_
 refine ARun.nilBox rfl rfl rfl rfl (Ev.opt rfl (fun h => h)) (atO hi) optS ?_
 refine ARun.fieldBox (fo := 3) rfl rfl rfl rfl U182 rfl rfl sz4 (by decide) (Ev.opt rfl (fun h => h)) (atO hi) optS ?_
 refine ARun.loadBox rfl rfl rfl rfl U4 rfl (Ev.opt rfl (fun h => h)) (atO hi) rfl optS ?_
 refine ρ0 ?_
 refine mv ?_
 refine ρg ?_
 refine ARun.nilBox rfl rfl rfl rfl (Ev.opt rfl (fun h => h)) (atO hi) optS ?_
 refine ARun.fieldBox (fo := 2) rfl rfl rfl rfl U182 rfl rfl sz96 (by decide) (Ev.opt rfl (fun h => h)) (atO hi) optS ?_
 refine ARun.loadBox rfl rfl rfl rfl U96 rfl (Ev.opt rfl (fun h => h)) (atO hi) rfl optS ?_
 refine ARun.iface rfl rfl rfl rfl (by kernel_rfl) (ep rfl) optS ?_
 refine ARun.callSetG (j := 0) hG rfl rfl rfl rfl cf82 (ep rfl) (.cons (Ev.opt rfl (fun h => h)) (.cons (Ev.opt rfl (fun h => h)) .nil)) rfl (fun hg => As_F (errOf tRead r.p r.e) _ _ ((hG.at _ _).trans rfl)) (fun hg => by simp at hg) rfl optS ?_
 refine ARun.not rfl rfl rfl rfl (Ev.opt rfl (fun h => h)) optS ?_
 refine ρ0 ?_
 refine mz ?_
 refine AWP.ret ?_
 refine endF.toG (congrArg (fun c => H.set i (AO.box c)) rfl) ?_
 refine endF.one (.inr rfl) rfl (.tmp rfl) ?_ (by rw [List.length_set]; exact hN)
 simp [errOf_isWr]
theorem done_fn (r : RdS) (p : ByteArray) (to e : Int) : FnM Tryz.prog 118 (fun i => [.box i 0, .str p, .int .i64 to, .int .i64 e]) (aRd r) (.bool (decide (e = 0))) (aRd (r.moved p to e)) := by
 refine FnM.of Tryz.func118 rfl rfl (fun i => by simp) (fun H i m hHm hi hG => ?_)
 have hN : NoH H.length (.bool (decide (e = 0))) := (by simp [AV.cells, aIn, aOut])
 refine sr fun _ => ?_
 refine mz ?_
 refine AWP.seq (sr fun _ => ?_)
 refine mv ?_
 refine ρ2 ?_
 refine ez ?_
 refine ρp (fun h0 => ?_) (fun h0 => ?_)
 · have he : e ≠ 0 := by simpa using h0
   refine sr fun _ => ?_
   refine mv ?_
   refine mv ?_
   refine mv ?_
   refine ρh cf80 (fun hg => new_fn p e) ?_
   refine ρh cf79 (fun hg => wrap_fn tRead (Er.new p e)) ?_
   refine ARun.nilBox rfl rfl rfl rfl (ep rfl) (atO hi) optN ?_
   refine ARun.fieldBox (fo := 2) rfl rfl rfl rfl U182 rfl rfl sz96 (by decide) (ep rfl) (atO hi) optN ?_
   refine ARun.storeO1 hi hG rfl rfl rfl sz96 (ep rfl) (ep rfl) (by first | rfl | exact aEr_one _ | exact aFl_one _) (Nat.le_of_ble_eq_true rfl) rfl (by first | exact noH_aRd _ _ | (simp; done) | (simp [cAV]; done)) (fun hG => ?_) (hsp := (by first | rfl | simp [aRd, plain_aEr]))
   refine ez (sr fun _ => ?_)
   refine mz ?_
   refine AWP.ret (thenA_r ?_)
   refine endF.toG (congrArg (fun c => H.set i (AO.box c)) (by rw [moved_pos he]; exact congrArg (fun x => [AV.str r.s, .int .i64 r.at_, aEr x, .bool true]) (errOf_mk tRead p e))) ?_
   refine endF.one (.inr rfl) rfl (.tmp rfl) ?_ (by rw [List.length_set]; exact hN)
   simp [he]; rfl
 have he : e = 0 := by simpa using h0
 refine AWP.skip (thenA_n (sr fun _ => ?_))
 refine mv ?_
 refine mv ?_
 refine ARun.nilBox rfl rfl rfl rfl (ep rfl) (atO hi) optN ?_
 refine ARun.fieldBox (fo := 1) rfl rfl rfl rfl U182 rfl rfl sz3 (by decide) (ep rfl) (atO hi) optN ?_
 refine ARun.storeO1 hi hG rfl rfl rfl sz3 (ep rfl) (ep rfl) (by first | rfl | exact aEr_one _ | exact aFl_one _) (Nat.le_of_ble_eq_true rfl) rfl (by first | exact noH_aRd _ _ | (simp; done) | (simp [cAV]; done)) (fun hG => ?_) (hsp := (by first | rfl | simp [aRd, plain_aEr]))
 refine ez (sr fun _ => ?_)
 refine mz ?_
 refine AWP.ret ?_
 refine endF.toG (congrArg (fun c => H.set i (AO.box c)) (by rw [moved_neg he]; rfl)) ?_
 refine endF.one (.inr rfl) rfl (.tmp rfl) ?_ (by rw [List.length_set]; exact hN)
 simp [he]; rfl
theorem num_r (r : RdS) (most : Int) (h : r.ok) : FnM Tryz.prog 75 (fun i => [.box i 0, .int .i64 most]) (aRd r) (.int .i64 (rdNum r most).2) (aRd (rdNum r most).1) := by
 refine FnM.of Tryz.func75 rfl rfl (fun i => by simp) (fun H i m hHm hi hG => ?_)
 have hN : NoH H.length (.int .i64 (rdNum r most).2) := (by simp [AV.cells, aIn, aOut])
 refine sr fun _ => ?_
 refine mz ?_
 refine AWP.seq (sr fun _ => ?_)
 refine mv ?_
 refine ARun.callR rfl rfl rfl rfl cf116 (ep rfl) (.cons (ep rfl) .nil) rfl (fun hg => FnM.keep (goes_fn r) (atO hi)) optN ?_
 refine ρC ?_
 refine ez ?_
 refine ρp (fun h0 => ?_) (fun h0 => ?_)
 · have he : r.e ≠ 0 := by simpa using h0
   refine sr fun _ => ?_
   refine mz ?_
   refine AWP.ret (thenA_r ?_)
   refine endF.toG (congrArg (fun c => H.set i (AO.box c)) (by rw [rdNum, if_pos he])) ?_
   refine endF.one (.inr rfl) rfl (.tmp rfl) ?_ (by rw [List.length_set]; exact hN)
   rw [rdNum, if_pos he]; rfl
 have he : r.e = 0 := by simpa using h0
 have hde : rdNum r most = (r.moved tNum (getN (bl r.s) r.at_).2.1 (numE r most), if numE r most ≠ 0 then 0 else (getN (bl r.s) r.at_).1) := by rw [rdNum, if_neg (by omega)]
 refine AWP.skip (thenA_n (AWP.seq ?_))
 refine ρE mixed (fun _ => ?_)
 refine mv ?_
 refine ARun.nilBox rfl rfl rfl rfl (ep rfl) (atO hi) optN ?_
 refine ARun.fieldBox (fo := 0) rfl rfl rfl rfl U182 rfl rfl sz9 (by decide) (ep rfl) (atO hi) optN ?_
 refine ARun.loadBox rfl rfl rfl rfl U9 rfl (ep rfl) (atO hi) rfl optN ?_
 refine mv ?_
 refine ARun.nilBox rfl rfl rfl rfl (ep rfl) (atO hi) optN ?_
 refine ARun.fieldBox (fo := 1) rfl rfl rfl rfl U182 rfl rfl sz3 (by decide) (ep rfl) (atO hi) optN ?_
 refine ARun.loadBox rfl rfl rfl rfl U3 rfl (ep rfl) (atO hi) rfl optN ?_
 refine ρh cf117 (fun hg => get_fn r.s r.at_ h.2.2) ?_
 refine mv ?_
 refine ρ9 ?_
 refine ρ9 ?_
 refine ρ9 ?_
 refine ma ?_
 refine ma ?_
 refine ma ?_
 refine ⟨by kernel_rfl, _, _, rfl, hG, ?_⟩
 refine thenA_n (AWP.seq ?_)
 refine sr fun _ => ?_
 refine mv ?_
 refine ρ2 ?_
 refine mv ?_
 refine ρg ?_
 refine ρg ?_
 refine ρs ?_
 refine ρ0 ?_
 refine ez ?_
 refine ρp (fun h1 => ?_) (fun h1 => ?_)
 · simp at h1
   have hne : numE r most = 3 := by rw [numE, if_pos (by omega)]
   rw [hne] at hde
   refine AWP.region (fun _ => ?_)
   refine mz ?_
   refine AWP.seq (sr fun _ => ?_)
   refine mv ?_
   refine mv ?_
   refine mv ?_
   refine ARun.callO hi hG rfl rfl rfl rfl cf118 (ep rfl) (.cons (ep rfl) (.cons (ep rfl) (.cons (ep rfl) (.cons (ep rfl) .nil)))) rfl (done_fn r tNum (getN (bl r.s) r.at_).2.1 3 _ _ (atO hi)) (by first | exact noH_aRd _ _ | (simp; done) | (simp [cAV]; done)) optN (fun hG => ?_)
   refine ρC ?_
   refine ez ?_
   refine ρp (fun h2 => ?_) (fun h2 => ?_)
   · refine sr fun _ => ?_
     refine mz ?_
     refine AWP.ret (thenA_r ?_)
     refine endF.toG (congrArg (fun c => H.set i (AO.box c)) (by rw [hde])) ?_
     refine endF.one (.inr rfl) rfl (.tmp rfl) ?_ (by rw [List.length_set]; exact hN)
     rw [hde]; rfl
   simp at h2
 have h1' : ¬ ((getN (bl r.s) r.at_).2.2 = 0 ∧ (getN (bl r.s) r.at_).1 > most) := by simp at h1; omega
 have hne : numE r most = (getN (bl r.s) r.at_).2.2 := by rw [numE, if_neg h1']
 rw [hne] at hde
 refine AWP.skip (thenA_n (AWP.seq (sr fun _ => ?_)))
 refine mv ?_
 refine mv ?_
 refine mv ?_
 refine ARun.callO hi hG rfl rfl rfl rfl cf118 (ep rfl) (.cons (ep rfl) (.cons (ep rfl) (.cons (ep rfl) (.cons (ep rfl) .nil)))) rfl (done_fn r tNum (getN (bl r.s) r.at_).2.1 (getN (bl r.s) r.at_).2.2 _ _ (atO hi)) (by first | exact noH_aRd _ _ | (simp; done) | (simp [cAV]; done)) optN (fun hG => ?_)
 refine ρC ?_
 refine ez ?_
 refine ρp (fun h3 => ?_) (fun h3 => ?_)
 · simp at h3
   refine sr fun _ => ?_
   refine mz ?_
   refine AWP.ret (thenA_r ?_)
   refine endF.toG (congrArg (fun c => H.set i (AO.box c)) (by rw [hde])) ?_
   refine endF.one (.inr rfl) rfl (.tmp rfl) ?_ (by rw [List.length_set]; exact hN)
   rw [hde, if_pos h3]; rfl
 simp at h3
 refine AWP.skip (thenA_n (sr fun _ => ?_))
 refine mv ?_
 refine mz ?_
 refine AWP.ret ?_
 refine endF.toG (congrArg (fun c => H.set i (AO.box c)) (by rw [hde])) ?_
 refine endF.one (.inr rfl) rfl (.tmp rfl) ?_ (by rw [List.length_set]; exact hN)
 rw [hde, if_neg (by omega)]
theorem row_r (r : RdS) (most : Int) (h : r.ok) : FnM Tryz.prog 76 (fun i => [.box i 0, .int .i64 most]) (aRd r) (.sl ((rdRow r most).2.map (AV.int .i64))) (aRd (rdRow r most).1) := by
 refine FnM.of Tryz.func76 rfl rfl (fun i => by simp) (fun H i m hHm hi hG => ?_)
 have hN : NoH H.length (.sl ((rdRow r most).2.map (AV.int .i64))) := (by simp [AV.cells])
 refine sr fun _ => ?_
 refine mz ?_
 refine AWP.seq (sr fun _ => ?_)
 refine mv ?_
 refine ARun.callR rfl rfl rfl rfl cf116 (ep rfl) (.cons (ep rfl) .nil) rfl (fun hg => FnM.keep (goes_fn r) (atO hi)) optN ?_
 refine ρC ?_
 refine ez ?_
 refine ρp (fun h0 => ?_) (fun h0 => ?_)
 · have he : r.e ≠ 0 := by simpa using h0
   refine sr fun _ => ?_
   refine mz ?_
   refine AWP.ret (thenA_r ?_)
   refine endF.toG (congrArg (fun c => H.set i (AO.box c)) (by rw [rdRow, if_pos he])) ?_
   refine endF.one (.inr rfl) rfl (.tmp rfl) ?_ (by rw [List.length_set]; exact hN)
   rw [rdRow, if_pos he]; rfl
 have he : r.e = 0 := by simpa using h0
 have hde : rdRow r most = (r.moved tRow (unrowN (bl r.s) r.at_ most).2.1 (unrowN (bl r.s) r.at_ most).2.2, (unrowN (bl r.s) r.at_ most).1) := by rw [rdRow, if_neg (by omega)]
 refine AWP.skip (thenA_n (AWP.seq ?_))
 refine ρE mixed (fun _ => ?_)
 refine mv ?_
 refine ARun.nilBox rfl rfl rfl rfl (ep rfl) (atO hi) optN ?_
 refine ARun.fieldBox (fo := 0) rfl rfl rfl rfl U182 rfl rfl sz9 (by decide) (ep rfl) (atO hi) optN ?_
 refine ARun.loadBox rfl rfl rfl rfl U9 rfl (ep rfl) (atO hi) rfl optN ?_
 refine mv ?_
 refine ARun.nilBox rfl rfl rfl rfl (ep rfl) (atO hi) optN ?_
 refine ARun.fieldBox (fo := 1) rfl rfl rfl rfl U182 rfl rfl sz3 (by decide) (ep rfl) (atO hi) optN ?_
 refine ARun.loadBox rfl rfl rfl rfl U3 rfl (ep rfl) (atO hi) rfl optN ?_
 refine mv ?_
 refine ARun.call rfl rfl rfl rfl cf119 (ep rfl) (.cons (ep rfl) (.cons (ep rfl) (.cons (ep rfl) .nil))) rfl (fun hg => unrowN_fn r.s r.at_ most h.2.2) optN ?_
 refine mv ?_
 refine ρ9 ?_
 refine ρ9 ?_
 refine ρ9 ?_
 refine ma ?_
 refine ma ?_
 refine ma ?_
 refine ⟨by kernel_rfl, _, _, rfl, hG, ?_⟩
 refine thenA_n (AWP.seq ?_)
 refine sr fun _ => ?_
 refine mv ?_
 refine mv ?_
 refine mv ?_
 refine ARun.callO hi hG rfl rfl rfl rfl cf118 (ep rfl) (.cons (ep rfl) (.cons (ep rfl) (.cons (ep rfl) (.cons (ep rfl) .nil)))) rfl (done_fn r tRow (unrowN (bl r.s) r.at_ most).2.1 (unrowN (bl r.s) r.at_ most).2.2 _ _ (atO hi)) (by first | exact noH_aRd _ _ | (simp; done) | (simp [cAV]; done)) optN (fun hG => ?_)
 refine ρC ?_
 refine ez ?_
 refine ρp (fun h1 => ?_) (fun h1 => ?_)
 · simp at h1
   refine sr fun _ => ?_
   refine mz ?_
   refine AWP.ret (thenA_r ?_)
   refine endF.toG (congrArg (fun c => H.set i (AO.box c)) (by rw [hde])) ?_
   refine endF.one (.inr rfl) rfl (.tmp rfl) ?_ (by rw [List.length_set]; exact hN)
   rw [hde, unrow_bad h1]; rfl
 simp at h1
 refine AWP.skip (thenA_n (sr fun _ => ?_))
 refine mv ?_
 refine mz ?_
 refine AWP.ret ?_
 refine endF.toG (congrArg (fun c => H.set i (AO.box c)) (by rw [hde])) ?_
 refine endF.one (.inr rfl) rfl (.tmp rfl) ?_ (by rw [List.length_set]; exact hN)
 rw [hde]
theorem end_r (r : RdS) (h : r.ok) : FnM Tryz.prog 77 (fun i => [.box i 0]) (aRd r) (.tup []) (aRd (rdEnd r)) := by
 refine FnM.of Tryz.func77 rfl rfl (fun i => by simp) (fun H i m hHm hi hG => ?_)
 have hN : NoH H.length (.tup []) := (by simp [AV.cells, aIn, aOut])
 refine AWP.seq ?_
 refine ρE mixed (fun _ => ?_)
 refine mv ?_
 refine ARun.callR rfl rfl rfl rfl cf116 (ep rfl) (.cons (ep rfl) .nil) rfl (fun hg => FnM.keep (goes_fn r) (atO hi)) optN ?_
 refine mv ?_
 refine ρg ?_
 refine ARun.nilBox rfl rfl rfl rfl (Ev.opt rfl (fun h => h)) (atO hi) optS ?_
 refine ARun.fieldBox (fo := 1) rfl rfl rfl rfl U182 rfl rfl sz3 (by decide) (Ev.opt rfl (fun h => h)) (atO hi) optS ?_
 refine ARun.loadBox rfl rfl rfl rfl U3 rfl (Ev.opt rfl (fun h => h)) (atO hi) rfl optS ?_
 refine ρg ?_
 refine ARun.nilBox rfl rfl rfl rfl (Ev.opt rfl (fun h => h)) (atO hi) optS ?_
 refine ARun.fieldBox (fo := 0) rfl rfl rfl rfl U182 rfl rfl sz9 (by decide) (Ev.opt rfl (fun h => h)) (atO hi) optS ?_
 refine ARun.loadBox rfl rfl rfl rfl U9 rfl (Ev.opt rfl (fun h => h)) (atO hi) rfl optS ?_
 refine ARun.lenStr rfl rfl rfl rfl U9 (Ev.opt rfl (fun h => h)) optS ?_
 refine ρs ?_
 refine ρ0 ?_
 refine ⟨by kernel_rfl, _, _, rfl, hG, ?_⟩
 refine thenA_n ?_
 refine ρp (fun h0 => ?_) (fun h0 => ?_)
 · simp at h0
   refine AWP.region (fun _ => ?_)
   refine mv ?_
   refine ARun.callO hi hG rfl rfl rfl rfl cf118 (ep rfl) (.cons (ep rfl) (.cons (ep rfl) (.cons (ep rfl) (.cons (ep rfl) .nil)))) rfl (done_fn r tEnd 0 6 _ _ (atO hi)) (by first | exact noH_aRd _ _ | (simp; done) | (simp [cAV]; done)) optN (fun hG => ?_)
   refine ⟨_, _, rfl, hG, ?_⟩
   refine endF.toG (congrArg (fun c => H.set i (AO.box c)) (by rw [rdEnd, if_pos h0])) ?_
   refine endF.many (.inl rfl) (rs := []) rfl .nil (by simp) ?_ (by rw [List.length_set]; exact hN)
   rfl
 simp at h0
 refine AWP.skip ?_
 refine endF.toG (congrArg (fun c => H.set i (AO.box c)) (by rw [rdEnd, if_neg (by omega)])) ?_
 refine endF.many (.inl rfl) (rs := []) rfl .nil (by simp) ?_ (by rw [List.length_set]; exact hN)
 rfl
theorem rdone_fn (r : RdS) : FnM Tryz.prog 78 (fun i => [.box i 0]) (aRd r) (aEr (errOf tRead r.p r.e)) (aRd r) := by
 refine FnM.of Tryz.func78 rfl rfl (fun i => by simp) (fun H i m hHm hi hG => ?_)
 have hN : NoH H.length (aEr (errOf tRead r.p r.e)) := (by simp [AV.cells, aIn, aOut])
 refine sr fun _ => ?_
 refine mz ?_
 refine AWP.seq (sr fun _ => ?_)
 refine mv ?_
 refine ARun.isNilBox rfl rfl rfl rfl U132 (ep rfl) (atO hi) (.inl ⟨rfl, rfl⟩) optN ?_
 refine mv ?_
 refine ρg ?_
 refine ARun.nilBox rfl rfl rfl rfl (Ev.opt rfl (fun h => h)) (atO hi) optS ?_
 refine ARun.fieldBox (fo := 3) rfl rfl rfl rfl U182 rfl rfl sz4 (by decide) (Ev.opt rfl (fun h => h)) (atO hi) optS ?_
 refine ARun.loadBox rfl rfl rfl rfl U4 rfl (Ev.opt rfl (fun h => h)) (atO hi) rfl optS ?_
 refine ARun.not rfl rfl rfl rfl (Ev.opt rfl (fun h => h)) optS ?_
 refine ρ3 ?_
 refine ez ?_
 refine ρp (fun h0 => ?_) (fun h0 => ?_)
 · simp at h0
 refine AWP.skip (thenA_n (sr fun _ => ?_))
 refine mv ?_
 refine ARun.nilBox rfl rfl rfl rfl (ep rfl) (atO hi) optN ?_
 refine ARun.fieldBox (fo := 2) rfl rfl rfl rfl U182 rfl rfl sz96 (by decide) (ep rfl) (atO hi) optN ?_
 refine ARun.loadBox rfl rfl rfl rfl U96 rfl (ep rfl) (atO hi) rfl optN ?_
 refine mz ?_
 refine AWP.ret ?_
 refine endF.toG (congrArg (fun c => H.set i (AO.box c)) rfl) ?_
 refine endF.one (.inr rfl) rfl (.tmp rfl) ?_ (by rw [List.length_set]; exact hN)
 rfl
theorem fit_one {n : Int} (h : -9223372036854775808 ≤ n ∧ n ≤ 9223372036854775807) : ∀ x, x ∈ [n] → -9223372036854775808 ≤ x ∧ x ≤ 9223372036854775807 := by
 intro x hx; simp at hx; subst hx; exact h
end Go.Proofs.YtcndnllmlhhjiaaGreatDoor
namespace Go.Proofs.YtcndnllmlhhjiaaGreatDoor
open Go.ChangeShapes Go.WideShapes Go.ChangeAt Go.RowKit
theorem flat_len {α : Type} (enc : α → List Value) (sz : Nat) (hz : ∀ x, (enc x).length = sz) (xs : List α) : (xs.flatMap enc).length = xs.length * sz := by
 induction xs with
 | nil => simp
 | cons x xs ih => rw [List.flatMap_cons, List.length_append, ih, hz, List.length_cons, Nat.add_mul]; omega
theorem Reads.flat {α : Type} {enc : α → List Value} {sz : Nat} (hsz : 0 < sz) (hz : ∀ x, (enc x).length = sz) {w : World} {ad : Addr} {xs : List α} (h : Reads enc sz w (some ad) xs) :
   ∀ j u, (xs.flatMap enc)[j]? = some u → ad.block < w.heap.size ∧ w.cell? (ad.add j) = some u := by
 intro j u hu
 have hj : j < xs.length * sz := by
   have := (List.getElem?_eq_some_iff.1 hu).1
   rwa [flat_len enc sz hz] at this
 have hi : j / sz < xs.length := (Nat.div_lt_iff_lt_mul hsz).2 hj
 obtain ⟨b, off, ha, hb, hc⟩ := h (j / sz) hi
 simp only [Option.some.injEq] at ha
 subst ha
 have hr := hc (j % sz) (Nat.mod_lt _ hsz)
 rw [← flat_get enc sz hz xs (j / sz) hi (j % sz) (Nat.mod_lt _ hsz)] at hr
 have e : j / sz * sz + j % sz = j := by rw [Nat.mul_comm]; exact Nat.div_add_mod j sz
 rw [Nat.add_assoc, e] at hr
 exact ⟨hb, by rw [addr_add]; exact hr.trans hu⟩
end Go.Proofs.YtcndnllmlhhjiaaGreatDoor
namespace Go.Proofs.YtcndnllmlhhjiaaGreatDoor
open Go.RowKit Go.WideShapes
inductive AllRep (β : List Hd) (w : World) : List Value → List AV → Prop where
 | nil : AllRep β w [] []
 | cons {v : Value} {x : AV} {vs : List Value} {xs : List AV} (h : VRep β w v x) (t : AllRep β w vs xs) : AllRep β w (v :: vs) (x :: xs)
theorem AllRep.reps {β : List Hd} {w : World} : ∀ {vs : List Value} {xs : List AV}, AllRep β w vs xs → VReps β w vs.toArray xs := by
 intro vs
 induction vs with
 | nil => intro xs h; cases h; exact ⟨rfl, fun j u x h => by simp at h⟩
 | cons v vs ih =>
   intro xs h
   cases h with
   | cons h t =>
     obtain ⟨h1, h2⟩ := ih t
     refine ⟨by simpa using h1, fun j u x k1 k2 => ?_⟩
     cases j with
     | zero => simp at k1 k2; subst k1 k2; exact h
     | succ j => exact h2 j u x (by simpa using k1) (by simpa using k2)
theorem law_of_fn {P : Program} {F : FuncId} {args : List AV} (h : FnP P F args (.bool true)) {w : World} (hg : GOk [] w) {vs : List Value} (hv : AllRep [] w vs args) : Calls P F vs.toArray w fun e w' => e = .returned (.bool true) ∧ Below w.heap.size w w' := by
 refine (pure_call h (HRel.nil w hg) hv.reps).mono ?_
 rintro e w' ⟨v, rfl, hb, hr⟩
 obtain rfl := hr.bool_inv
 exact ⟨rfl, hb⟩
end Go.Proofs.YtcndnllmlhhjiaaGreatDoor
namespace Go.Proofs.YtcndnllmlhhjiaaGreatDoor
open Go.RowKit
theorem VRep.owned {α : Type} {enc : α → List Value} {av : α → AV} {z : Nat} (hz : ∀ x, (enc x).length = z) (hc : ∀ x, (av x).cells = (enc x).map cAV) {β : List Hd} {w : World} {B : Nat} {e : TypeId} {v : Value} {xs : List α} (h : w.ownsRow B e z v xs.length (xs.flatMap enc)) (hβ : ∀ y, y ∈ β → ∀ b, b ∈ y.blks → b < B) : VRep β w v (.sl (xs.map av)) := by
 obtain ⟨a, cap, rfl, h1, h2, hr⟩ := Reads.of_owns hz rfl h
 cases a with
 | none =>
   rcases h.2 with ⟨e1, e2⟩ | ⟨g, cap', cur, e1, _⟩
   · have : xs = [] := List.length_eq_zero_iff.1 e2
     subst this
     cases e1; exact .slnil
   · cases e1
 | some x =>
   obtain ⟨b, off, sp⟩ := x
   rcases h.2 with ⟨e1, _⟩ | ⟨g, cap', cur, e1, hB, hg, _⟩
   · cases e1
   · cases e1
     have hget : ∀ (i j : Nat) (x y : AV), (xs.map av)[i]? = some x → x.cells[j]? = some y → ∃ u, w.cell? ⟨b, 0 + i * z + j, none⟩ = some u ∧ y = cAV u := by
       intro i j x y h3 h4
       rw [List.getElem?_map, Option.map_eq_some_iff] at h3
       obtain ⟨x', h3, rfl⟩ := h3
       obtain ⟨hi, rfl⟩ := List.getElem?_eq_some_iff.1 h3
       rw [hc, List.getElem?_map, Option.map_eq_some_iff] at h4
       obtain ⟨u, h4, rfl⟩ := h4
       obtain ⟨hj, h5⟩ := List.getElem?_eq_some_iff.1 h4
       obtain ⟨b', off', e1, e2, e3⟩ := hr i hi
       cases e1
       exact ⟨u, by rw [e3 j (by rw [← hz]; exact hj)]; exact h4, rfl⟩
     have h := VRep.sl (β := β) (w := w) b 0 cap z (xs.map av) (by simpa using h1) h2 (Array.getElem?_eq_some_iff.1 hg).1 (fun y hy hm => by have := hβ y hy _ hm; omega) (fun x hx => by
         obtain ⟨y, _, rfl⟩ := List.mem_map.1 hx
         rw [hc, List.length_map, hz])
       (fun i j x y h3 h4 => by obtain ⟨u, h5, _⟩ := hget i j x y h3 h4; exact ⟨u, h5⟩)
       (fun i j x y u h3 h4 h5 => by
         obtain ⟨u', h6, rfl⟩ := hget i j x y h3 h4
         rw [h5] at h6; cases h6; exact cAV_rep _ _ _)
     rw [List.length_map] at h
     exact h
theorem cAV_noH (m : Nat) (v : Value) : NoH m (cAV v) := by
 unfold cAV; split <;> first | exact .int _ _ | exact .bool _ | exact .str _ | exact .raw _ | exact .sl _ (fun x hx => by cases hx)
theorem FnP.of_owns {α : Type} (enc : α → List Value) (av : α → AV) (z : Nat) (hz : ∀ x, (enc x).length = z) (hc : ∀ x, (av x).cells = (enc x).map cAV) (hp : ∀ x u, u ∈ enc x → plainV u = true) {P : Program} {F : FuncId} {e : TypeId} (xs : List α)
   (h : ∀ (w : World) (a : Option Addr) (cap : Nat), Reads enc z w a xs → xs.length ≤ cap → cap ≤ maxLen → (a = none → cap = 0) → Calls P F #[.slice a xs.length cap] w fun e' w' => ∃ v, e' = .returned v ∧ w'.ownsRow w.heap.size e z v xs.length (xs.flatMap enc) ∧ Below w.heap.size w w') :
   FnP P F [.sl (xs.map av)] (.sl (xs.map av)) := by
 refine ⟨.sl _ fun x hx y hy => ?_, fun k w β vs hH hv => ?_⟩
 · obtain ⟨x', _, rfl⟩ := List.mem_map.1 hx
   rw [hc] at hy
   obtain ⟨u, _, rfl⟩ := List.mem_map.1 hy
   exact cAV_noH _ _
 · obtain ⟨v0, rfl, h0⟩ := VReps.single hv
   obtain ⟨a, cap, rfl, h1, h2, h3, h4⟩ := sl_reads hz hc hp h0
   refine (h w a cap h4 h1 h2 h3).mono ?_
   rintro e' w' ⟨v, rfl, ho, hb⟩
   exact ⟨v, β, rfl, Ext.of_below β hb, hH.below hb, VRep.owned hz hc ho (fun y hy b hm => by
     obtain ⟨j, hj, rfl⟩ := List.mem_iff_getElem.1 hy
     exact hH.lt (List.getElem?_eq_getElem hj) hm)⟩
end Go.Proofs.YtcndnllmlhhjiaaGreatDoor
namespace Go.Proofs.YtcndnllmlhhjiaaGreatDoor
open Go.ChangeShapes Go.WideShapes Go.ChangeAt Go.RowKit
theorem infoIC : (Tryz.prog.info? 3).map (fun i => (i.zero, i.size, i.bytes)) = some (some (.int .i64 0), 1, 8) := by kernel_rfl
theorem cloneI_any (a : Option Addr) (cap : Nat) (xs : List Int) (w : World) (hr : Reads encI 1 w a xs) (hl : xs.length ≤ 1000000) :
   Calls Tryz.prog 73 #[.slice a xs.length cap] w fun e w' => ∃ v, e = .returned v ∧ w'.ownsRow w.heap.size 3 1 v xs.length (xs.flatMap encI) ∧ Below w.heap.size w w' := by
 cases a with
 | none =>
   have hx : xs = [] := by
     cases xs with
     | nil => rfl
     | cons x xs => obtain ⟨b, off, h, _⟩ := hr 0 (by simp); cases h
   subst hx
   have hnil := Lib.run_eql_slice_nil (P := Tryz.prog) w 40 3 none 0 cap 0 0 U40
   have HP := Lib.hid (World.ownsRow_nil w w.heap.size 3 1)
   go_enter Tryz.func73, Tryz.ntmps73
   go_wp2_with fail
   go_ret
   exact ⟨_, rfl, HP.out, Below.refl _ _⟩
 | some ad =>
   obtain ⟨i0, hi, hz0, hz1, hz2⟩ := info_parts infoIC
   have hnil := Lib.run_eql_slice_nil (P := Tryz.prog) w 40 3 (some ad) xs.length cap 0 0 U40
   have HR := Lib.hid hr
   clear hr
   go_enter Tryz.func73, Tryz.ntmps73
   have hfl := HR.out.flat (by omega) encI_len
   have HFL := Lib.hid hfl
   clear hfl
   go_wp2_with (at_builtin; refine wpList_append_own _ rfl _ _ 40 rfl w.heap.size 3 i0 (.int .i64 0) 1 8 U40 hi hz0 hz1 hz2 rfl (by decide) _ _ _ rfl (World.ownsRow_made w #[] 0 (Nat.le_refl _) (by unfold maxLen; omega) rfl) ad xs.length cap (xs.flatMap encI) rfl ?c0 ?c1 ?c2 ?c3 ?c4 ?c5 ?_)
   case c0 => rw [flat_len encI 1 encI_len]
   case c1 =>
     intro j u hu
     obtain ⟨h1, h2⟩ := HFL.out j u hu
     have h3 : (ad.add j).block = ad.block := by unfold Addr.add; split <;> rfl
     rw [World.cell?_alloc_lt _ _ _ (by rw [h3]; exact h1)]
     exact h2
   case c2 =>
     intro u hu
     obtain ⟨x, _, hx⟩ := List.mem_flatMap.1 hu
     simp [encI] at hx
     subst hx; rfl
   case c3 => unfold maxLen; omega
   case c4 => omega
   case c5 => simp
   intro v' w2 hown' hgrow _
   have hbel : Below w.heap.size w w2 := ((Below.refl _ _).alloc (Nat.le_refl _) _).grown hgrow (by simp) (fun k hk => by simp [Value.ownBlock] at hk; omega)
   have HO := Lib.hid hown'
   clear hown' hgrow
   go_wp2_with fail
   go_ret
   exact ⟨_, rfl, HO.out, hbel⟩
theorem cloneI_fn (xs : List Int) (hl : xs.length ≤ 1000000) : FnP Tryz.prog 73 [.sl (xs.map (AV.int .i64))] (.sl (xs.map (AV.int .i64))) :=
 FnP.of_owns encI (AV.int .i64) 1 encI_len (fun _ => rfl) (fun x u hu => by simp [encI] at hu; subst hu; rfl) xs (fun w a cap hr h1 h2 h3 => cloneI_any a cap xs w hr hl)
end Go.Proofs.YtcndnllmlhhjiaaGreatDoor
namespace Go.Proofs.YtcndnllmlhhjiaaGreatDoor
open Go.RowKit
open NumP
def aLn (s : Ln) : AV := .agg [.int .i64 s.item, .int .i64 s.qty]
def aCl (c : Cl) : AV := .agg [.int .i64 c.client, .int .i64 c.seq, .int .i64 c.kind, .int .i64 c.item, .int .i64 c.to_, .int .i64 c.qty, .sl (c.lines.map aLn)]
def aRp (r : Rp) : AV := .agg [.int .i64 r.code, .sl (r.nums.map (AV.int .i64))]
theorem okAt_not (l : List Ln) (k : Nat) : (!numbP (l.getD k default).item || decide ((l.getD k default).item ≤ lastAt l k) || !someP (l.getD k default).qty) = !okAt l k := by
 cases h : numbP (l.getD k default).item with
 | false => unfold okAt; rw [h]; rfl
 | true =>
   unfold okAt
   rw [okAt_iff l k h, h]
   by_cases h2 : lastAt l k < (l.getD k default).item
   · rw [decide_eq_true h2, decide_eq_false (by omega)]; simp
   rw [decide_eq_false h2, decide_eq_true (by omega)]; simp
theorem new_none (p : ByteArray) (e : Int) : (Er.new p e).isNone = decide (e = 0) := by unfold Er.new; split <;> simp_all [Er.isNone]
theorem wrap_none (p : ByteArray) (e : Er) : (Er.wrap p e).isNone = e.isNone := by unfold Er.wrap; split <;> simp_all [Er.isNone]
theorem any_neg (l : List Int) : (l.any fun n => decide (n < 0)) = !nneg l := by
 induction l with
 | nil => rfl
 | cons x l ih => simp only [List.any_cons, nneg, List.all_cons] at ih ⊢; rw [ih]; by_cases h : x < 0 <;> simp [h] <;> omega
theorem pair_snoc (l : List Int) (k : Nat) (h : 2 * k + 1 < l.length) : (pairsL (l.take (2 * k))).map aLn ++ [AV.agg [AV.int .i64 (l.getD (2 * k) default), AV.int .i64 (l.getD (2 * k + 1) default)]] = (pairsL (l.take (2 * (k + 1)))).map aLn := by rw [pairsL_take l k h]; simp [aLn]
theorem pairsL_len : ∀ l : List Int, (pairsL l).length ≤ l.length
 | [] => Nat.le_refl _
 | [_] => by simp [pairsL]
 | a :: b :: r => by have := pairsL_len r; simp [pairsL]; omega
theorem last_succ (l : List Ln) (k : Nat) : lastAt l (k + 1) = (l.getD k default).item := by simp [lastAt]
theorem okAt_nR (l : List Ln) (k : Nat) (a : Int) (ha : 0 < k → a = (l.getD (k - 1) default).item) : (!numbP (l.getD k default).item || decide ((l.getD k default).qty < 1) || decide (1000000 < (l.getD k default).qty) || (decide (0 < (k : Int)) && decide ((l.getD k default).item ≤ a))) = !okAt l k := by
 unfold okAt someP
 by_cases hk : 0 < k
 · rw [ha hk]
   cases h : numbP (l.getD k default).item <;> simp [show ¬ k = 0 by omega, hk] <;> by_cases h1 : (l.getD k default).qty < 1 <;> by_cases h2 : 1000000 < (l.getD k default).qty <;> by_cases h3 : (l.getD k default).item ≤ (l.getD (k - 1) default).item <;> simp_all <;> omega
 obtain rfl : k = 0 := by omega
 cases h : numbP (l.getD 0 default).item <;> simp <;> by_cases h1 : (l.getD 0 default).qty < 1 <;> by_cases h2 : 1000000 < (l.getD 0 default).qty <;> simp_all <;> omega
theorem number_fn (n : Int) : FnP Tryz.prog 120 [.int .i64 n] (.bool (numbP n)) := by
 refine FnP.of Tryz.func120 rfl rfl (by simp) (by simp [AV.cells, aIn, aOut, aLn, aCl, aRp]) (fun G hG => ?_)
 have hN : NoH G.length (.bool (numbP n)) := (by simp [AV.cells, aIn, aOut, aLn, aCl, aRp])
 refine sr fun _ => ?_
 refine mz (sr fun _ => ?_)
 refine mv ?_
 refine ρ2 ?_
 refine mv ?_
 refine ρg ?_
 refine ρb ?_
 refine ρ0 ?_
 refine mz ?_
 refine AWP.ret ?_
 refine ρi ?_
 rfl
theorem some_fn (n : Int) : FnP Tryz.prog 145 [.int .i64 n] (.bool (someP n)) := by
 refine FnP.of Tryz.func145 rfl rfl (by simp) (by simp [AV.cells, aIn, aOut, aLn, aCl, aRp]) (fun G hG => ?_)
 have hN : NoH G.length (.bool (someP n)) := (by simp [AV.cells, aIn, aOut, aLn, aCl, aRp])
 refine sr fun _ => ?_
 refine mz (sr fun _ => ?_)
 refine mv ?_
 refine ρ2 ?_
 refine mv ?_
 refine ρg ?_
 refine ρb ?_
 refine ρ0 ?_
 refine mz ?_
 refine AWP.ret ?_
 refine ρi ?_
 rfl
theorem lines_fn (l : List Ln) (hl : l.length ≤ 100000) : FnP Tryz.prog 146 [.sl (l.map aLn)] (.bool (linesP l)) := by
 refine FnP.of Tryz.func146 rfl rfl (by simp) (by simp [AV.cells, aIn, aOut, aLn, aCl, aRp]) (fun G hG => ?_)
 have hN : NoH G.length (.bool (linesP l)) := (by simp [AV.cells, aIn, aOut, aLn, aCl, aRp])
 refine sr fun _ => ?_
 refine mz (sr fun _ => ?_)
 refine mz ?_
 refine AWP.seq (sr fun _ => ?_)
 refine mv ?_
 refine ρv U82 ?_
 refine mv ?_
 refine ez ?_
 refine AWP.block ?_
 refine AWP.rounds (fun k => k ≤ l.length ∧ ∀ j, j < k → okAt l j = true) (fun k => [(0, .sl (l.map aLn)), (3, .int .i64 (lastAt l k)), (6, .sl (l.map aLn)), (7, .int .i64 ((l.map aLn).length : Int)), (8, .int .i64 (k : Int))]) (fun k => []) (fun k => l.length - k) 0 0 ⟨by omega, fun j h => by omega⟩ (by repeat (first | exact .nil | refine .cons rfl ?_)) rfl (fun _ => rfl) (fun _ => ⟨by simp [AV.cells, aLn], by simp⟩) (fun k hI => ?_)
 obtain ⟨hk, hno⟩ := hI
 refine sr fun _ => ?_
 refine ρ2 ?_
 refine ez ?_
 refine AWP.seq ?_
 refine ρp (fun h0 => ?_) (fun h0 => ?_)
 · try simp [-List.getD_eq_getElem?_getD] at h0
   refine AWP.skip (thenA_n ?_)
   refine AWP.seq (AWP.block (sr fun _ => ?_))
   refine ρf U82 sz127 ?_
   refine ρl U127 sz127 ?_
   refine ρo (j := 0) zv127 ?_
   refine ρ1 sz127 ?_
   refine ez ?_
   refine AWP.seq (sr fun _ => ?_)
   refine ρ6 (fo := 0) U127 sz3 ?_
   refine ρd U3 ?_
   refine ρm cf120 (fun hg => number_fn (l.getD k default).item) ?_
   refine ρC ?_
   refine mv ?_
   refine ρx (fo := 0) U127 sz3 ?_
   refine ρw U3 ?_
   refine ρg ?_
   refine ρs ?_
   refine ρ3 ?_
   refine mv ?_
   refine ρx (fo := 1) U127 sz3 ?_
   refine ρw U3 ?_
   refine ρr cf145 (fun hg => some_fn (l.getD k default).qty) ?_
   refine ARun.not rfl rfl rfl rfl (Ev.opt rfl (fun h => h)) optS ?_
   refine ρ3 ?_
   refine ez ?_
   refine ρp (fun h1 => ?_) (fun h1 => ?_)
   · rw [show (!numbP (l.getD k default).item || decide ((l.getD k default).item ≤ lastAt l k) || !someP (l.getD k default).qty) = !okAt l k from okAt_not l k] at h1
     simp only [Bool.not_eq_true'] at h1
     refine sr fun _ => ?_
     refine mz ?_
     refine AWP.ret (thenA_r ?_)
     refine blockA_r (thenA_r ?_)
     refine thenA_r (blockA_r (thenA_r ?_))
     refine ρi ?_
     rw [linesP_no (by omega) h1]; rfl
   rw [show (!numbP (l.getD k default).item || decide ((l.getD k default).item ≤ lastAt l k) || !someP (l.getD k default).qty) = !okAt l k from okAt_not l k] at h1
   simp only [Bool.not_eq_false'] at h1
   refine AWP.skip (thenA_n ?_)
   refine AWP.region (fun _ => ?_)
   refine ρ6 (fo := 0) U127 sz3 ?_
   refine ρd U3 ?_
   refine ma ?_
   refine ⟨_, _, rfl, hG, ?_⟩
   refine blockA_n (thenA_n ?_)
   refine AWP.region (fun _ => ?_)
   refine ρa ?_
   refine mv ?_
   refine ⟨_, _, rfl, hG, ?_⟩
   refine thenA_n ⟨rfl, k + 1, _, ?_, ?_, rfl, ?_⟩
   · refine ⟨by omega, fun j hj => ?_⟩
     by_cases e : j = k
     · subst e; exact h1
     exact hno j (by omega)
   · rw [last_succ]
     repeat (first | exact .nil | refine .cons rfl ?_)
   omega
 try simp [-List.getD_eq_getElem?_getD] at h0
 refine AWP.exit ?_
 refine thenA_x ?_
 refine thenA_x ?_
 refine blockA_h ?_
 refine thenA_n (sr fun _ => ?_)
 refine mv ?_
 refine ρv U82 ?_
 refine ρ2 ?_
 refine mv ?_
 refine ρg ?_
 refine ARun.lenSl rfl rfl rfl rfl U82 (Ev.opt rfl (fun h => h)) optS ?_
 refine ρb ?_
 refine ρ0 ?_
 refine mz ?_
 refine AWP.ret ?_
 refine ρi ?_
 rw [linesP_yes (fun j hj => hno j (by omega))]; first | (simp; done) | (simp; congr 1; exact decide_eq_decide.2 (by omega))
theorem bare_fn (c : Cl) : FnP Tryz.prog 144 [aCl c] (.bool (bareP c)) := by
 refine FnP.of Tryz.func144 rfl rfl (by simp) (by simp [AV.cells, aIn, aOut, aLn, aCl, aRp]) (fun G hG => ?_)
 have hN : NoH G.length (.bool (bareP c)) := (by simp [AV.cells, aIn, aOut, aLn, aCl, aRp])
 refine sr fun _ => ?_
 refine ρz ?_
 refine mz (sr fun _ => ?_)
 refine ρ4 U84 sz3 ?_
 refine ρ7 U3 ?_
 refine ρ2 ?_
 refine mv ?_
 refine ρc U84 sz82 ?_
 refine ρ5 U82 ?_
 refine ARun.lenSl rfl rfl rfl rfl U82 (Ev.opt rfl (fun h => h)) optS ?_
 refine ρb ?_
 refine ρ0 ?_
 refine mv ?_
 refine ρc U84 sz3 ?_
 refine ρ5 U3 ?_
 refine ρr cf120 (fun hg => number_fn c.item) ?_
 refine ρ0 ?_
 refine mz ?_
 refine AWP.ret ?_
 refine ρi ?_
 simp [bareP]
theorem may_fn (c : Cl) (hl : c.lines.length ≤ 100000) : FnP Tryz.prog 121 [aCl c] (.bool (mayP c)) := by
 refine FnP.of Tryz.func121 rfl rfl (by simp) (by simp [AV.cells, aIn, aOut, aLn, aCl, aRp]) (fun G hG => ?_)
 have hN : NoH G.length (.bool (mayP c)) := (by simp [AV.cells, aIn, aOut, aLn, aCl, aRp])
 refine sr fun _ => ?_
 refine ρz ?_
 refine mz ?_
 refine AWP.seq (sr fun _ => ?_)
 refine ρ4 U84 sz3 ?_
 refine ρ7 U3 ?_
 refine ez ?_
 refine AWP.block (sr fun _ => ?_)
 refine ρ2 ?_
 refine mz ?_
 refine ρp (fun h0 => ?_) (fun h0 => ?_)
 · simp at h0
   refine sr fun _ => ?_
   refine ρl U84 sz84 ?_
   refine ρm cf144 (fun hg => bare_fn c) ?_
   refine mv ?_
   refine ρc U84 sz3 ?_
   refine ρ5 U3 ?_
   refine ρb ?_
   refine ARun.move (.inl rfl) rfl rfl rfl (Ev.opt rfl (fun h => h)) optS ?_
   refine ρc U84 sz3 ?_
   refine ρ5 U3 ?_
   refine ρr cf145 (fun hg => some_fn c.qty) ?_
   refine ARun.pick rfl rfl rfl rfl (Ev.opt rfl (fun h => h)) (ep rfl) (Ev.opt rfl (by first | exact pkF | exact pkF2 | simp +contextual)) (orB _ _) optS ?_
   refine ρ0 ?_
   refine mz ?_
   refine AWP.ret (blockA_r (thenA_r ?_))
   refine ρi ?_
   (unfold mayP; simp_all)
 simp at h0
 refine AWP.seq (sr fun _ => ?_)
 refine ρ2 ?_
 refine mz ?_
 refine ρp (fun h1 => ?_) (fun h1 => ?_)
 · simp at h1
   refine AWP.skip (thenA_n ?_)
   refine ρp (fun h2 => ?_) (fun h2 => ?_)
   · simp at h2
     refine sr fun _ => ?_
     refine ρl U84 sz84 ?_
     refine ρm cf144 (fun hg => bare_fn c) ?_
     refine mv ?_
     refine ρc U84 sz3 ?_
     refine ρ5 U3 ?_
     refine ρr cf145 (fun hg => some_fn c.qty) ?_
     refine ρ0 ?_
     refine mz ?_
     refine AWP.ret (blockA_r (thenA_r ?_))
     refine ρi ?_
     (unfold mayP; simp_all)
   simp at h2
   refine sr fun _ => ?_
   refine ρ2 ?_
   refine mz ?_
   refine ρp (fun h3 => ?_) (fun h3 => ?_)
   · simp at h3
     refine sr fun _ => ?_
     refine ρ4 U84 sz3 ?_
     refine ρ7 U3 ?_
     refine ρm cf120 (fun hg => number_fn c.item) ?_
     refine mv ?_
     refine ρc U84 sz3 ?_
     refine ρ5 U3 ?_
     refine ρr cf120 (fun hg => number_fn c.to_) ?_
     refine ρ0 ?_
     refine mv ?_
     refine ρc U84 sz3 ?_
     refine ρ5 U3 ?_
     refine ρc U84 sz3 ?_
     refine ρ5 U3 ?_
     refine ρs ?_
     refine ρ0 ?_
     refine mv ?_
     refine ρc U84 sz3 ?_
     refine ρ5 U3 ?_
     refine ρr cf145 (fun hg => some_fn c.qty) ?_
     refine ρ0 ?_
     refine mv ?_
     refine ρc U84 sz82 ?_
     refine ρ5 U82 ?_
     refine ARun.lenSl rfl rfl rfl rfl U82 (Ev.opt rfl (fun h => h)) optS ?_
     refine ρb ?_
     refine ρ0 ?_
     refine mz ?_
     refine AWP.ret (blockA_r (thenA_r ?_))
     refine ρi ?_
     (unfold mayP; simp_all)
   simp at h3
   refine sr fun _ => ?_
   refine ρ2 ?_
   refine mz ?_
   refine ρp (fun h4 => ?_) (fun h4 => ?_)
   · simp at h4
     refine sr fun _ => ?_
     refine ρl U84 sz84 ?_
     refine ρm cf144 (fun hg => bare_fn c) ?_
     refine mv ?_
     refine ρc U84 sz3 ?_
     refine ρ5 U3 ?_
     refine ρb ?_
     refine ρ0 ?_
     refine mz ?_
     refine AWP.ret (blockA_r (thenA_r ?_))
     refine ρi ?_
     (unfold mayP; simp_all)
   simp at h4
   refine AWP.skip (blockA_n (thenA_n (sr fun _ => ?_)))
   refine ρ4 U84 sz3 ?_
   refine ρ7 U3 ?_
   refine ρ2 ?_
   refine mv ?_
   refine ρc U84 sz3 ?_
   refine ρ5 U3 ?_
   refine ρb ?_
   refine ρ0 ?_
   refine mv ?_
   refine ρc U84 sz3 ?_
   refine ρ5 U3 ?_
   refine ρb ?_
   refine ρ0 ?_
   refine mv ?_
   refine ρc U84 sz82 ?_
   refine ρ5 U82 ?_
   refine ρr cf146 (fun hg => lines_fn c.lines hl) ?_
   refine ρ0 ?_
   refine mz ?_
   refine AWP.ret ?_
   refine ρi ?_
   (unfold mayP; simp_all)
 simp at h1
 refine sr fun _ => ?_
 refine ρ2 ?_
 refine mz ?_
 refine ρp (fun h5 => ?_) (fun h5 => ?_)
 · simp at h5
   refine AWP.skip (thenA_n ?_)
   refine ρp (fun h6 => ?_) (fun h6 => ?_)
   · simp at h6
     refine sr fun _ => ?_
     refine ρl U84 sz84 ?_
     refine ρm cf144 (fun hg => bare_fn c) ?_
     refine mv ?_
     refine ρc U84 sz3 ?_
     refine ρ5 U3 ?_
     refine ρr cf145 (fun hg => some_fn c.qty) ?_
     refine ρ0 ?_
     refine mz ?_
     refine AWP.ret (blockA_r (thenA_r ?_))
     refine ρi ?_
     (unfold mayP; simp_all)
   simp at h6
   refine sr fun _ => ?_
   refine ρ2 ?_
   refine mz ?_
   refine ρp (fun h7 => ?_) (fun h7 => ?_)
   · simp at h7
     refine sr fun _ => ?_
     refine ρ4 U84 sz3 ?_
     refine ρ7 U3 ?_
     refine ρm cf120 (fun hg => number_fn c.item) ?_
     refine mv ?_
     refine ρc U84 sz3 ?_
     refine ρ5 U3 ?_
     refine ρr cf120 (fun hg => number_fn c.to_) ?_
     refine ρ0 ?_
     refine mv ?_
     refine ρc U84 sz3 ?_
     refine ρ5 U3 ?_
     refine ρc U84 sz3 ?_
     refine ρ5 U3 ?_
     refine ρs ?_
     refine ρ0 ?_
     refine mv ?_
     refine ρc U84 sz3 ?_
     refine ρ5 U3 ?_
     refine ρr cf145 (fun hg => some_fn c.qty) ?_
     refine ρ0 ?_
     refine mv ?_
     refine ρc U84 sz82 ?_
     refine ρ5 U82 ?_
     refine ARun.lenSl rfl rfl rfl rfl U82 (Ev.opt rfl (fun h => h)) optS ?_
     refine ρb ?_
     refine ρ0 ?_
     refine mz ?_
     refine AWP.ret (blockA_r (thenA_r ?_))
     refine ρi ?_
     (unfold mayP; simp_all)
   simp at h7
   refine sr fun _ => ?_
   refine ρ2 ?_
   refine mz ?_
   refine ρp (fun h8 => ?_) (fun h8 => ?_)
   · simp at h8
     refine sr fun _ => ?_
     refine ρl U84 sz84 ?_
     refine ρm cf144 (fun hg => bare_fn c) ?_
     refine mv ?_
     refine ρc U84 sz3 ?_
     refine ρ5 U3 ?_
     refine ρb ?_
     refine ρ0 ?_
     refine mz ?_
     refine AWP.ret (blockA_r (thenA_r ?_))
     refine ρi ?_
     (unfold mayP; simp_all)
   simp at h8
   refine AWP.skip (blockA_n (thenA_n (sr fun _ => ?_)))
   refine ρ4 U84 sz3 ?_
   refine ρ7 U3 ?_
   refine ρ2 ?_
   refine mv ?_
   refine ρc U84 sz3 ?_
   refine ρ5 U3 ?_
   refine ρb ?_
   refine ρ0 ?_
   refine mv ?_
   refine ρc U84 sz3 ?_
   refine ρ5 U3 ?_
   refine ρb ?_
   refine ρ0 ?_
   refine mv ?_
   refine ρc U84 sz82 ?_
   refine ρ5 U82 ?_
   refine ρr cf146 (fun hg => lines_fn c.lines hl) ?_
   refine ρ0 ?_
   refine mz ?_
   refine AWP.ret ?_
   refine ρi ?_
   (unfold mayP; simp_all)
 simp at h5
 refine sr fun _ => ?_
 refine ρ2 ?_
 refine mz ?_
 refine ρp (fun h9 => ?_) (fun h9 => ?_)
 · simp at h9
   refine AWP.skip (thenA_n ?_)
   refine ρp (fun h10 => ?_) (fun h10 => ?_)
   · simp at h10
     refine sr fun _ => ?_
     refine ρl U84 sz84 ?_
     refine ρm cf144 (fun hg => bare_fn c) ?_
     refine mv ?_
     refine ρc U84 sz3 ?_
     refine ρ5 U3 ?_
     refine ρr cf145 (fun hg => some_fn c.qty) ?_
     refine ρ0 ?_
     refine mz ?_
     refine AWP.ret (blockA_r (thenA_r ?_))
     refine ρi ?_
     (unfold mayP; simp_all)
   simp at h10
   refine sr fun _ => ?_
   refine ρ2 ?_
   refine mz ?_
   refine ρp (fun h11 => ?_) (fun h11 => ?_)
   · simp at h11
     refine sr fun _ => ?_
     refine ρ4 U84 sz3 ?_
     refine ρ7 U3 ?_
     refine ρm cf120 (fun hg => number_fn c.item) ?_
     refine mv ?_
     refine ρc U84 sz3 ?_
     refine ρ5 U3 ?_
     refine ρr cf120 (fun hg => number_fn c.to_) ?_
     refine ρ0 ?_
     refine mv ?_
     refine ρc U84 sz3 ?_
     refine ρ5 U3 ?_
     refine ρc U84 sz3 ?_
     refine ρ5 U3 ?_
     refine ρs ?_
     refine ρ0 ?_
     refine mv ?_
     refine ρc U84 sz3 ?_
     refine ρ5 U3 ?_
     refine ρr cf145 (fun hg => some_fn c.qty) ?_
     refine ρ0 ?_
     refine mv ?_
     refine ρc U84 sz82 ?_
     refine ρ5 U82 ?_
     refine ARun.lenSl rfl rfl rfl rfl U82 (Ev.opt rfl (fun h => h)) optS ?_
     refine ρb ?_
     refine ρ0 ?_
     refine mz ?_
     refine AWP.ret (blockA_r (thenA_r ?_))
     refine ρi ?_
     (unfold mayP; simp_all)
   simp at h11
   refine sr fun _ => ?_
   refine ρ2 ?_
   refine mz ?_
   refine ρp (fun h12 => ?_) (fun h12 => ?_)
   · simp at h12
     refine sr fun _ => ?_
     refine ρl U84 sz84 ?_
     refine ρm cf144 (fun hg => bare_fn c) ?_
     refine mv ?_
     refine ρc U84 sz3 ?_
     refine ρ5 U3 ?_
     refine ρb ?_
     refine ρ0 ?_
     refine mz ?_
     refine AWP.ret (blockA_r (thenA_r ?_))
     refine ρi ?_
     (unfold mayP; simp_all)
   simp at h12
   refine AWP.skip (blockA_n (thenA_n (sr fun _ => ?_)))
   refine ρ4 U84 sz3 ?_
   refine ρ7 U3 ?_
   refine ρ2 ?_
   refine mv ?_
   refine ρc U84 sz3 ?_
   refine ρ5 U3 ?_
   refine ρb ?_
   refine ρ0 ?_
   refine mv ?_
   refine ρc U84 sz3 ?_
   refine ρ5 U3 ?_
   refine ρb ?_
   refine ρ0 ?_
   refine mv ?_
   refine ρc U84 sz82 ?_
   refine ρ5 U82 ?_
   refine ρr cf146 (fun hg => lines_fn c.lines hl) ?_
   refine ρ0 ?_
   refine mz ?_
   refine AWP.ret ?_
   refine ρi ?_
   (unfold mayP; simp_all)
 simp at h9
 refine AWP.region (fun _ => ?_)
 refine ρ2 ?_
 refine mz ?_
 refine ρp (fun h13 => ?_) (fun h13 => ?_)
 · simp at h13
   refine sr fun _ => ?_
   refine ρl U84 sz84 ?_
   refine ρm cf144 (fun hg => bare_fn c) ?_
   refine mv ?_
   refine ρc U84 sz3 ?_
   refine ρ5 U3 ?_
   refine ρr cf145 (fun hg => some_fn c.qty) ?_
   refine ρ0 ?_
   refine mz ?_
   refine AWP.ret (blockA_r (thenA_r ?_))
   refine ρi ?_
   (unfold mayP; simp_all)
 simp at h13
 refine sr fun _ => ?_
 refine ρ2 ?_
 refine mz ?_
 refine ρp (fun h14 => ?_) (fun h14 => ?_)
 · simp at h14
   refine sr fun _ => ?_
   refine ρ4 U84 sz3 ?_
   refine ρ7 U3 ?_
   refine ρm cf120 (fun hg => number_fn c.item) ?_
   refine mv ?_
   refine ρc U84 sz3 ?_
   refine ρ5 U3 ?_
   refine ρr cf120 (fun hg => number_fn c.to_) ?_
   refine ρ0 ?_
   refine mv ?_
   refine ρc U84 sz3 ?_
   refine ρ5 U3 ?_
   refine ρc U84 sz3 ?_
   refine ρ5 U3 ?_
   refine ρs ?_
   refine ρ0 ?_
   refine mv ?_
   refine ρc U84 sz3 ?_
   refine ρ5 U3 ?_
   refine ρr cf145 (fun hg => some_fn c.qty) ?_
   refine ρ0 ?_
   refine mv ?_
   refine ρc U84 sz82 ?_
   refine ρ5 U82 ?_
   refine ARun.lenSl rfl rfl rfl rfl U82 (Ev.opt rfl (fun h => h)) optS ?_
   refine ρb ?_
   refine ρ0 ?_
   refine mz ?_
   refine AWP.ret (blockA_r (thenA_r ?_))
   refine ρi ?_
   (unfold mayP; simp_all)
 simp at h14
 refine sr fun _ => ?_
 refine ρ2 ?_
 refine mz ?_
 refine ρp (fun h15 => ?_) (fun h15 => ?_)
 · simp at h15
   refine sr fun _ => ?_
   refine ρl U84 sz84 ?_
   refine ρm cf144 (fun hg => bare_fn c) ?_
   refine mv ?_
   refine ρc U84 sz3 ?_
   refine ρ5 U3 ?_
   refine ρb ?_
   refine ρ0 ?_
   refine mz ?_
   refine AWP.ret (blockA_r (thenA_r ?_))
   refine ρi ?_
   (unfold mayP; simp_all)
 simp at h15
 refine AWP.skip (blockA_n (thenA_n (sr fun _ => ?_)))
 refine ρ4 U84 sz3 ?_
 refine ρ7 U3 ?_
 refine ρ2 ?_
 refine mv ?_
 refine ρc U84 sz3 ?_
 refine ρ5 U3 ?_
 refine ρb ?_
 refine ρ0 ?_
 refine mv ?_
 refine ρc U84 sz3 ?_
 refine ρ5 U3 ?_
 refine ρb ?_
 refine ρ0 ?_
 refine mv ?_
 refine ρc U84 sz82 ?_
 refine ρ5 U82 ?_
 refine ρr cf146 (fun hg => lines_fn c.lines hl) ?_
 refine ρ0 ?_
 refine mz ?_
 refine AWP.ret ?_
 refine ρi ?_
 (unfold mayP; simp_all)
theorem check_fn (c : Cl) (hl : c.lines.length ≤ 100000) : FnP Tryz.prog 81 [aCl c] (aEr (Er.new tCall (checkP c))) := by
 refine FnP.of Tryz.func81 rfl rfl (by simp) (by simp [AV.cells, aIn, aOut, aLn, aCl, aRp]) (fun G hG => ?_)
 have hN : NoH G.length (aEr (Er.new tCall (checkP c))) := (by simp [AV.cells, aIn, aOut, aLn, aCl, aRp])
 refine sr fun _ => ?_
 refine ρz ?_
 refine mz ?_
 refine AWP.seq (AWP.block (sr fun _ => ?_))
 refine ρ4 U84 sz3 ?_
 refine ρ7 U3 ?_
 refine ρ2 ?_
 refine mv ?_
 refine ρc U84 sz3 ?_
 refine ρ5 U3 ?_
 refine ρb ?_
 refine ρ3 ?_
 refine mz ?_
 refine ρp (fun h0 => ?_) (fun h0 => ?_)
 · simp at h0
   refine sr fun _ => ?_
   refine ρh cf80 (fun hg => new_fn tCall 30) ?_
   refine mz ?_
   refine AWP.ret (blockA_r (thenA_r ?_))
   refine ρi ?_
   rw [checkP, if_pos (by omega)]
 simp at h0
 refine sr fun _ => ?_
 refine ρ4 U84 sz3 ?_
 refine ρ7 U3 ?_
 refine ρm cf120 (fun hg => number_fn c.client) ?_
 refine ρC ?_
 refine mv ?_
 refine ρc U84 sz3 ?_
 refine ρ5 U3 ?_
 refine ρr cf120 (fun hg => number_fn c.seq) ?_
 refine ARun.not rfl rfl rfl rfl (Ev.opt rfl (fun h => h)) optS ?_
 refine ρ3 ?_
 refine mv ?_
 refine ARun.loadPeA rfl rfl rfl rfl U84 rfl sz84 (ep rfl) rfl optS ?_
 refine ρr cf121 (fun hg => may_fn c hl) ?_
 refine ARun.not rfl rfl rfl rfl (Ev.opt rfl (fun h => h)) optS ?_
 refine ρ3 ?_
 refine mz ?_
 refine ρp (fun h1 => ?_) (fun h1 => ?_)
 · simp at h1
   refine sr fun _ => ?_
   refine ρh cf80 (fun hg => new_fn tCall 2) ?_
   refine mz ?_
   refine AWP.ret (blockA_r (thenA_r ?_))
   refine ρi ?_
   rw [checkP, if_neg (by omega), if_neg (by simp; intro q1 q2; rcases h1 with (h1 | h1) | h1 <;> simp_all)]
 simp at h1
 refine AWP.skip (blockA_n (thenA_n (sr fun _ => ?_)))
 refine mz ?_
 refine AWP.ret ?_
 refine ρi ?_
 rw [checkP, if_neg (by omega), if_pos (by simp [h1])]; rfl
theorem sameI_fn (a b : List Int) (hl : a.length ≤ 9223372036854775807) : FnP Tryz.prog 16 [.sl (a.map (AV.int .i64)), .sl (b.map (AV.int .i64))] (.bool (decide (a = b))) := by
 refine FnP.of Tryz.func16 rfl rfl (by simp) (by simp [AV.cells, aIn, aOut, aLn, aCl, aRp]) (fun G hG => ?_)
 have hN : NoH G.length (.bool (decide (a = b))) := (by simp [AV.cells, aIn, aOut, aLn, aCl, aRp])
 refine sr fun _ => ?_
 refine mz ?_
 refine AWP.seq (sr fun _ => ?_)
 refine mv ?_
 refine ρv U40 ?_
 refine mv ?_
 refine ρv U40 ?_
 refine ρ2 ?_
 refine ez ?_
 refine ρp (fun h0 => ?_) (fun h0 => ?_)
 · simp [-List.getD_eq_getElem?_getD] at h0
   refine sr fun _ => ?_
   refine mz ?_
   refine AWP.ret (thenA_r ?_)
   refine ρi ?_
   rw [decide_eq_false (fun e => absurd (congrArg List.length e) (by omega))]; rfl
 simp [-List.getD_eq_getElem?_getD] at h0
 refine AWP.skip (thenA_n (AWP.seq (sr fun _ => ?_)))
 refine mz ?_
 refine AWP.block ?_
 refine AWP.rounds (fun k => k ≤ a.length ∧ a.take k = b.take k) (fun k => [(0, .sl (a.map (AV.int .i64))), (1, .sl (b.map (AV.int .i64))), (5, .int .i64 (k : Int))]) (fun k => []) (fun k => a.length - k) 0 0 ⟨by omega, rfl⟩ (by repeat (first | exact .nil | refine .cons rfl ?_)) rfl (fun _ => rfl) (fun _ => ⟨by simp [AV.cells], by simp⟩) (fun k hI => ?_)
 obtain ⟨hk, hs⟩ := hI
 refine AWP.seq (sr fun _ => ?_)
 refine mv ?_
 refine mv ?_
 refine ρv U40 ?_
 refine ρ2 ?_
 refine ez ?_
 refine ρp (fun h1 => ?_) (fun h1 => ?_)
 · simp [-List.getD_eq_getElem?_getD] at h1
   refine AWP.skip (thenA_n ?_)
   refine AWP.seq (AWP.block (AWP.seq ?_))
   refine ρE mixed (fun _ => ?_)
   refine mv ?_
   refine mv ?_
   refine ρf U40 sz3 ?_
   refine ρ7 U3 ?_
   refine mv ?_
   refine mv ?_
   refine ρf U40 sz3 ?_
   refine ρ7 U3 ?_
   refine ρ2 ?_
   refine ⟨by kernel_rfl, _, _, rfl, hG, ?_⟩
   refine thenA_n ?_
   refine ρp (fun h2 => ?_) (fun h2 => ?_)
   · simp [-List.getD_eq_getElem?_getD] at h2
     refine sr fun _ => ?_
     refine mz ?_
     refine AWP.ret (blockA_r ?_)
     refine thenA_r (thenA_r ?_)
     refine blockA_r (thenA_r ?_)
     refine ρi ?_
     rw [decide_eq_false (ne_of_get (k := k) h2)]; rfl
   simp [-List.getD_eq_getElem?_getD] at h2
   refine AWP.skip (blockA_n (thenA_n ?_))
   refine AWP.region (fun _ => ?_)
   refine mv ?_
   refine ρa ?_
   refine ma ?_
   refine ⟨_, _, rfl, hG, ?_⟩
   refine thenA_n ⟨rfl, k + 1, _, ?_, ?_, rfl, ?_⟩
   · exact ⟨by omega, take_eq_go hs h1 (by omega) h2⟩
   · repeat (first | exact .nil | refine .cons rfl ?_)
   omega
 simp [-List.getD_eq_getElem?_getD] at h1
 refine AWP.exit ?_
 refine thenA_x ?_
 refine thenA_x ?_
 refine blockA_h ?_
 refine thenA_n (sr fun _ => ?_)
 refine mz ?_
 refine AWP.ret ?_
 refine ρi ?_
 rw [decide_eq_true (by rw [List.take_of_length_le h1, List.take_of_length_le (by omega)] at hs; exact hs)]; rfl
theorem told_fn (e : Int) (l : List Int) (hl : l.length ≤ 100000) : FnP Tryz.prog 51 [.int .i64 e, .sl (l.map (AV.int .i64))] (aRp ⟨e, l⟩) := by
 refine FnP.of Tryz.func51 rfl rfl (by simp) (by simp [AV.cells, aIn, aOut, aLn, aCl, aRp]) (fun G hG => ?_)
 have hN : NoH G.length (aRp ⟨e, l⟩) := (by simp [AV.cells, aIn, aOut, aLn, aCl, aRp])
 refine sr fun _ => ?_
 refine ρo (j := 0) zv93 ?_
 refine ez (sr fun _ => ?_)
 refine mv ?_
 refine mv ?_
 refine ρA cf73 ?_ (hF := fun hg => cloneI_fn l (by omega))
 refine ARun.build rfl rfl rfl rfl so93 (.cons (ep rfl) (.cons (ep rfl) .nil)) rfl rfl optN ?_
 refine ρ1 sz93 ?_
 refine ez ?_
 refine AWP.ret ?_
 refine endF.one (.inr rfl) rfl (.cellA rfl ((hG.at _ _).trans rfl) U93 rfl sz93 rfl rfl) ?_ hN
 rfl
theorem neg_fn (n : Int) : FnP Tryz.prog 111 [.int .i64 n] (.bool (decide (n < 0))) := by
 refine FnP.of Tryz.func111 rfl rfl (by simp) (by simp [AV.cells, aIn, aOut, aLn, aCl, aRp]) (fun G hG => ?_)
 have hN : NoH G.length (.bool (decide (n < 0))) := (by simp [AV.cells, aIn, aOut, aLn, aCl, aRp])
 refine sr fun _ => ?_
 refine mz (sr fun _ => ?_)
 refine mv ?_
 refine ρ2 ?_
 refine mz ?_
 refine AWP.ret ?_
 refine ρi ?_
 rfl
theorem indexI (F : Nat) (fs cs : List AV) (p : Int → Bool) (l : List Int) (hl : l.length ≤ 9223372036854775807) (hcf : ∀ (vs : Array Value) (W : World), (callFunc F vs).run Tryz.prog W = .ok (.enter F vs) W) (hn : (∀ x, x ∈ fs → NoH 0 x) ∧ ∀ x, x ∈ cs → NoH 0 x) (hp : ∀ x, x ∈ l → FnP Tryz.prog F (fs ++ [(AV.int .i64) x] ++ cs) (.bool (p x))) : FnP Tryz.prog 138 [.sl (l.map (AV.int .i64)), .fn (.func F) fs cs] (.int .i64 (idxOf p l)) := by
 refine FnP.of Tryz.func138 rfl rfl (by simp) (by simp [AV.cells, aIn, aOut, aLn, aCl, aRp]) (fun G hG => ?_)
 have hN : NoH G.length (.int .i64 (idxOf p l)) := (by simp [AV.cells, aIn, aOut, aLn, aCl, aRp])
 refine sr fun _ => ?_
 refine mz ?_
 refine AWP.seq (sr fun _ => ?_)
 refine mv ?_
 refine ρv U40 ?_
 refine mv ?_
 refine ez ?_
 refine AWP.block ?_
 refine AWP.rounds (fun k => k ≤ l.length ∧ ∀ j, j < k → p (l.getD j default) = false) (fun k => [(0, .sl (l.map (AV.int .i64))), (1, .fn (.func F) fs cs), (7, .int .i64 ((l.map (AV.int .i64)).length : Int)), (8, .int .i64 (k : Int))]) (fun k => []) (fun k => l.length - k) 0 0 ⟨by omega, fun j h => by omega⟩ (by repeat (first | exact .nil | refine .cons rfl ?_)) rfl (fun _ => rfl) (fun _ => ⟨by simp [AV.cells, aIn, aOut, aLn, aCl, aRp]; exact ⟨fun x hx => (hn.1 x hx).mono (by omega), fun x hx => (hn.2 x hx).mono (by omega)⟩, by simp⟩) (fun k hI => ?_)
 obtain ⟨hk, hno⟩ := hI
 refine sr fun _ => ?_
 refine ρ2 ?_
 refine ez ?_
 refine AWP.seq ?_
 refine ρp (fun h0 => ?_) (fun h0 => ?_)
 · try simp [-List.getD_eq_getElem?_getD] at h0
   refine AWP.skip (thenA_n ?_)
   refine AWP.seq (AWP.block (sr fun _ => ?_))
   refine mv ?_
   refine mz (sr fun _ => ?_)
   refine mv ?_
   refine mv ?_
   refine mv ?_
   refine ρf U40 sz3 ?_
   refine ρ7 U3 ?_
   refine ρA hcf ?_ (hF := fun hg => hp _ (by rw [List.getD, List.getElem?_eq_getElem h0]; exact List.getElem_mem h0))
   refine ez ?_
   refine ρp (fun h1 => ?_) (fun h1 => ?_)
   · try simp [-List.getD_eq_getElem?_getD] at h1
     refine sr fun _ => ?_
     refine mv ?_
     refine mz ?_
     refine AWP.ret (blockA_r ?_)
     refine thenA_r (thenA_r ?_)
     refine blockA_r (thenA_r ?_)
     refine ρi ?_
     rw [idx_hit h0 hno h1]
   try simp [-List.getD_eq_getElem?_getD] at h1
   refine AWP.skip (blockA_n (thenA_n ?_))
   refine AWP.region (fun _ => ?_)
   refine ρa ?_
   refine mv ?_
   refine ⟨_, _, rfl, hG, ?_⟩
   refine thenA_n ⟨rfl, k + 1, _, ?_, ?_, rfl, ?_⟩
   · refine ⟨by omega, fun j hj => ?_⟩
     by_cases e : j = k
     · subst e; exact h1
     exact hno j (by omega)
   · repeat (first | exact .nil | refine .cons rfl ?_)
   omega
 try simp [-List.getD_eq_getElem?_getD] at h0
 refine AWP.exit ?_
 refine thenA_x ?_
 refine thenA_x ?_
 refine blockA_h ?_
 refine thenA_n (sr fun _ => ?_)
 refine mz ?_
 refine AWP.ret ?_
 refine ρi ?_
 rw [idx_none (fun j hj => hno j (by omega))]; rfl
theorem containsI (F : Nat) (fs cs : List AV) (p : Int → Bool) (l : List Int) (hl : l.length ≤ 9223372036854775807) (hcf : ∀ (vs : Array Value) (W : World), (callFunc F vs).run Tryz.prog W = .ok (.enter F vs) W) (hn : (∀ x, x ∈ fs → NoH 0 x) ∧ ∀ x, x ∈ cs → NoH 0 x) (hp : ∀ x, x ∈ l → FnP Tryz.prog F (fs ++ [(AV.int .i64) x] ++ cs) (.bool (p x))) : FnP Tryz.prog 112 [.sl (l.map (AV.int .i64)), .fn (.func F) fs cs] (.bool (l.any p)) := by
 refine FnP.of Tryz.func112 rfl rfl (by simp) (by simp [AV.cells, aIn, aOut, aLn, aCl, aRp]) (fun G hG => ?_)
 have hN : NoH G.length (.bool (l.any p)) := (by simp [AV.cells, aIn, aOut, aLn, aCl, aRp])
 refine sr fun _ => ?_
 refine mz (sr fun _ => ?_)
 refine mv ?_
 refine mv ?_
 refine ρh cf138 (fun hg => indexI F fs cs p l hl hcf hn hp) ?_
 refine ρ2 ?_
 refine mz ?_
 refine AWP.ret ?_
 refine ρi ?_
 rw [← any_idx]
theorem putR_c (c : Rp) (hl : c.nums.length ≤ 100000) (hf : ∀ x, x ∈ c.nums → -9223372036854775808 ≤ x ∧ x ≤ 9223372036854775807) : FnP Tryz.prog 72 [aRp c] (.tup [.str (putR c), aEr (Er.new tReply (repE c))]) := by
 refine FnP.of Tryz.func72 rfl rfl (by simp) (by simp [AV.cells, aIn, aOut, aLn, aCl, aRp]) (fun G hG => ?_)
 have hN : NoH G.length (.tup [.str (putR c), aEr (Er.new tReply (repE c))]) := (by simp [AV.cells, aIn, aOut, aLn, aCl, aRp])
 refine sr fun _ => ?_
 refine ρz ?_
 refine ma ?_
 refine mz (sr fun _ => ?_)
 refine mz ?_
 refine AWP.seq (sr fun _ => ?_)
 refine ρ4 U93 sz36 ?_
 refine ρ7 U36 ?_
 refine ρ2 ?_
 refine mv ?_
 refine ρc U93 sz36 ?_
 refine ρ5 U36 ?_
 refine ρb ?_
 refine ρ3 ?_
 refine mv ?_
 refine ρc U93 sz40 ?_
 refine ρ5 U40 ?_
 refine ARun.lenSl rfl rfl rfl rfl U40 (Ev.opt rfl (fun h => h)) optS ?_
 refine ρb ?_
 refine ρ3 ?_
 refine mv ?_
 refine ρc U93 sz40 ?_
 refine ρ5 U40 ?_
 refine ρg ?_
 refine ARun.call rfl rfl rfl rfl cf112 (ep rfl) (.cons (Ev.opt rfl (fun h => h)) (.cons (Ev.opt rfl (fun h => h)) .nil)) rfl (fun hg => containsI 111 [] [] (fun n => decide (n < 0)) c.nums (by omega) cf111 (by simp) (fun x _ => neg_fn x)) optS ?_
 refine ρ3 ?_
 refine ez ?_
 refine ρp (fun h0 => ?_) (fun h0 => ?_)
 · rw [any_neg] at h0
   simp at h0
   refine sr fun _ => ?_
   refine ρh cf80 (fun hg => new_fn tReply 2) ?_
   refine ma ?_
   refine mz ?_
   refine AWP.ret (thenA_r ?_)
   refine ρj (rs := [.tmp 2, .tmp 3]) (.cons (.tmp rfl) (.cons (.tmp rfl) .nil)) ?_
   have he : repE c = 2 := by rw [repE, if_pos (by rcases h0 with ((h0 | h0) | h0) | h0 <;> first | exact .inr (.inr (.inr h0)) | omega)]
   rw [putR, if_neg (by omega), he]; rfl
 rw [any_neg] at h0
 simp at h0
 have he : repE c = 0 := by rw [repE, if_neg (by simp [h0]; omega)]
 have hlay := layR_ok he
 have hwl := wrNums_len [c.code] WrS.new
 have hwl3 : WrS.new.s.length = 0 := rfl
 simp only [List.length_cons, List.length_nil] at hwl
 refine AWP.skip (thenA_n (sr fun _ => ?_))
 refine ARun.allocBld (j := 0) (e := 5) hG rfl rfl rfl rfl rfl zv177 rfl rfl rfl optN ?_
 refine ez (sr fun _ => ?_)
 refine ρ4 U93 sz36 ?_
 refine ρ7 U36 ?_
 refine ρy U40 sz3 zv3 ?_
 refine ARun.callSet (j := 0) hG rfl rfl rfl rfl cf113 (ep rfl) (.cons (ep rfl) (.cons (ep rfl) .nil)) rfl (nums_w WrS.new [c.code] (by simp) (by simp [WrS.new]) (fit_one (by omega)) _ _ ((hG.at _ _).trans rfl)) rfl optN ?_
 refine ez (sr fun _ => ?_)
 refine ρ4 U93 sz40 ?_
 refine ρ7 U40 ?_
 refine ARun.callSet (j := 0) hG rfl rfl rfl rfl cf114 (ep rfl) (.cons (ep rfl) (.cons (ep rfl) .nil)) rfl (row_w (wrNums WrS.new [c.code]) c.nums (by omega) (by omega) hf _ _ ((hG.at _ _).trans rfl)) rfl optN ?_
 refine ez (sr fun _ => ?_)
 refine ARun.callSet (j := 0) hG rfl rfl rfl rfl cf115 (ep rfl) (.cons (ep rfl) .nil) rfl (done_w (layR c) _ _ ((hG.at _ _).trans rfl)) rfl optN ?_
 refine ρ9 ?_
 refine ρ9 ?_
 refine ma ?_
 refine mz ?_
 refine AWP.ret ?_
 refine ρj (rs := [.tmp 2, .tmp 3]) (.cons (.tmp rfl) (.cons (.tmp rfl) .nil)) ?_
 rw [putR, if_pos he, hlay, he]; rfl
theorem take_c (s : ByteArray) (hs : s.size ≤ 1000000) : FnP Tryz.prog 52 [.str s] (.tup [aCl (takeC s), aEr (takeErr s)]) := by
 have hrl := rdRow_len (sixR s 6) 10
 refine FnP.of Tryz.func52 rfl rfl (by simp) (by simp [AV.cells, aIn, aOut, aLn, aCl, aRp]) (fun G hG => ?_)
 have hN : NoH G.length (.tup [aCl (takeC s), aEr (takeErr s)]) := (by simp [AV.cells, aIn, aOut, aLn, aCl, aRp])
 refine sr fun _ => ?_
 refine ρo (j := 0) zv84 ?_
 refine mz (sr fun _ => ?_)
 refine mv ?_
 refine ARun.callNewB (j := 1) hG rfl rfl rfl rfl rfl cf74 (ep rfl) (.cons (ep rfl) .nil) rfl (newr_fn s) optN ?_
 refine mz (sr fun _ => ?_)
 refine mv ?_
 refine ARun.makeFunc rfl rfl rfl rfl (.cons (ep rfl) .nil) .nil optN ?_
 refine mz (sr fun _ => ?_)
 refine mv ?_
 refine ARun.callSet (j := 1) hG rfl rfl rfl rfl cf75 (ep rfl) (.cons (ep rfl) .nil) rfl (num_r (sixR s 0) 2000000 (sixR_ok hs 0) _ _ ((hG.at _ _).trans rfl)) rfl optN ?_
 refine mv ?_
 refine ARun.callSet (j := 1) hG rfl rfl rfl rfl cf75 (ep rfl) (.cons (ep rfl) .nil) rfl (num_r (sixR s 1) 2000000 (sixR_ok hs 1) _ _ ((hG.at _ _).trans rfl)) rfl optN ?_
 refine mv ?_
 refine ARun.callSet (j := 1) hG rfl rfl rfl rfl cf75 (ep rfl) (.cons (ep rfl) .nil) rfl (num_r (sixR s 2) 2000000 (sixR_ok hs 2) _ _ ((hG.at _ _).trans rfl)) rfl optN ?_
 refine mv ?_
 refine ARun.callSet (j := 1) hG rfl rfl rfl rfl cf75 (ep rfl) (.cons (ep rfl) .nil) rfl (num_r (sixR s 3) 2000000 (sixR_ok hs 3) _ _ ((hG.at _ _).trans rfl)) rfl optN ?_
 refine mv ?_
 refine ARun.callSet (j := 1) hG rfl rfl rfl rfl cf75 (ep rfl) (.cons (ep rfl) .nil) rfl (num_r (sixR s 4) 2000000 (sixR_ok hs 4) _ _ ((hG.at _ _).trans rfl)) rfl optN ?_
 refine mv ?_
 refine ARun.callSet (j := 1) hG rfl rfl rfl rfl cf75 (ep rfl) (.cons (ep rfl) .nil) rfl (num_r (sixR s 5) 2000000 (sixR_ok hs 5) _ _ ((hG.at _ _).trans rfl)) rfl optN ?_
 refine ARun.buildNil (e := 127) (z := 2) (j := 2) (p := 6) hG rfl rfl rfl rfl rfl so84 rfl (.cons (ep rfl) (.cons (ep rfl) (.cons (ep rfl) (.cons (ep rfl) (.cons (ep rfl) (.cons (ep rfl) .nil)))))) rfl rfl optN ?_
 refine ρo (j := 3) zv84 ?_
 refine ρ1 sz84 ?_
 refine ez (sr fun _ => ?_)
 refine mv ?_
 refine ARun.callSet (j := 1) hG rfl rfl rfl rfl cf76 (ep rfl) (.cons (ep rfl) (.cons (ep rfl) .nil)) rfl (row_r (sixR s 6) 10 (sixR_ok hs 6) _ _ ((hG.at _ _).trans rfl)) rfl optN ?_
 refine mz (sr fun _ => ?_)
 refine mv ?_
 refine ARun.callSet (j := 1) hG rfl rfl rfl rfl cf77 (ep rfl) (.cons (ep rfl) .nil) rfl (end_r (rdRow (sixR s 6) 10).1 (rdRow_ok (sixR_ok hs 6) _) _ _ ((hG.at _ _).trans rfl)) rfl optN ?_
 refine ez ?_
 refine AWP.seq (sr fun _ => ?_)
 refine mv ?_
 refine ARun.callR rfl rfl rfl rfl cf78 (ep rfl) (.cons (ep rfl) .nil) rfl (fun hg => FnM.keep (rdone_fn (rdCall s).1) ((hG.at _ _).trans rfl)) optN ?_
 refine mz (sr fun _ => ?_)
 refine mv ?_
 refine ARun.isNil rfl rfl rfl rfl U96 (ep rfl) (fun hg => by first | rfl | exact nilA_aEr _) (.inr ⟨rfl, rfl⟩) optN ?_
 refine ez ?_
 refine ρp (fun h0 => ?_) (fun h0 => ?_)
 · have he : (rdCall s).1.e ≠ 0 := by simpa [errOf_none] using h0
   refine sr fun _ => ?_
   refine ARun.build rfl rfl rfl rfl so84 .nil rfl rfl optN ?_
   refine mv ?_
   refine ρh cf79 (fun hg => wrap_fn tTake (errOf tRead (rdCall s).1.p (rdCall s).1.e)) ?_
   refine ρ1 sz84 ?_
   refine mz ?_
   refine AWP.ret (thenA_r ?_)
   refine ρj (rs := [.cell 2 84, .tmp 3]) (.cons (.cellA rfl ((hG.at _ _).trans rfl) U84 rfl sz84 rfl rfl) (.cons (.tmp rfl) .nil)) ?_
   have ht : takeE s ≠ 0 := by rw [takeE, if_pos he]; exact he
   rw [takeC, if_neg ht, takeErr, if_pos he]; rfl
 have he : (rdCall s).1.e = 0 := by simpa [errOf_none] using h0
 refine AWP.skip (thenA_n (AWP.seq (sr fun _ => ?_)))
 refine mv ?_
 refine ρv U40 ?_
 refine ARun.remI rfl rfl rfl rfl (ep rfl) (ep rfl) (fun _ => by decide) optN ?_
 refine ρ2 ?_
 refine ez ?_
 refine ρp (fun h1 => ?_) (fun h1 => ?_)
 · simp at h1
   have h1p : (((rdRow (sixR s 6) 10).2.length % 2 : Nat) : Int) ≠ 0 := h1
   refine sr fun _ => ?_
   refine ARun.build rfl rfl rfl rfl so84 .nil rfl rfl optN ?_
   refine ρh cf80 (fun hg => new_fn tTake 5) ?_
   refine ρ1 sz84 ?_
   refine mz ?_
   refine AWP.ret (thenA_r ?_)
   refine ρj (rs := [.cell 2 84, .tmp 3]) (.cons (.cellA rfl ((hG.at _ _).trans rfl) U84 rfl sz84 rfl rfl) (.cons (.tmp rfl) .nil)) ?_
   have h1q : (rdCall s).2.2.length % 2 = 1 := by show (rdRow (sixR s 6) 10).2.length % 2 = 1; omega
   have ht : takeE s ≠ 0 := by rw [takeE, if_neg (by omega), if_pos h1q]; decide
   rw [takeC, if_neg ht, takeErr, if_neg (by omega), if_pos h1q]; rfl
 simp at h1
 have h1p : (((rdRow (sixR s 6) 10).2.length % 2 : Nat) : Int) = 0 := h1
 refine AWP.skip (thenA_n (AWP.seq (sr fun _ => ?_)))
 refine mz ?_
 refine AWP.block ?_
 refine AWP.rounds (fun st => 2 * st.1 ≤ (rdRow (sixR s 6) 10).2.length) (fun st => [(2, .box (G.length + 0) 0), (6, .box (G.length + 3) 0), (7, .sl ((rdRow (sixR s 6) 10).2.map (AV.int .i64))), (9, .int .i64 ((2 * st.1 : Nat) : Int))]) (fun st => [.box [.int .i64 0, .int .i64 0, .int .i64 0, .int .i64 0, .int .i64 0, .int .i64 0, .sl []], .box (aRd (rdCall s).1), .row st.2 127 2 ((pairsL ((rdRow (sixR s 6) 10).2.take (2 * st.1))).map aLn), .box [.int .i64 (sixN s 0), .int .i64 (sixN s 1), .int .i64 (sixN s 2), .int .i64 (sixN s 3), .int .i64 (sixN s 4), .int .i64 (sixN s 5), .own (G.length + 2) st.2]]) (fun st => (rdRow (sixR s 6) 10).2.length - 2 * st.1) 4 ((0, 0) : Nat × Nat) (Nat.zero_le _) (by repeat (first | exact .nil | refine .cons rfl ?_)) rfl (fun _ => rfl) (fun _ => ⟨by simp [AV.cells], by simp [AO.conts, aRd, aLn, AV.cells]; rintro y a _ (rfl | rfl) <;> simp⟩) (fun st hI => ?_)
 obtain ⟨k, g⟩ := st
 dsimp only at hI
 show AWP _ _ _ _ _ [(2, .box (G.length + 0) 0), (6, .box (G.length + 3) 0), (7, .sl ((rdRow (sixR s 6) 10).2.map (AV.int .i64))), (9, .int .i64 ((2 * k : Nat) : Int))] _ [.box [.int .i64 0, .int .i64 0, .int .i64 0, .int .i64 0, .int .i64 0, .int .i64 0, .sl []], .box (aRd (rdCall s).1), .row g 127 2 ((pairsL ((rdRow (sixR s 6) 10).2.take (2 * k))).map aLn), .box [.int .i64 (sixN s 0), .int .i64 (sixN s 1), .int .i64 (sixN s 2), .int .i64 (sixN s 3), .int .i64 (sixN s 4), .int .i64 (sixN s 5), .own (G.length + 2) g]]
 refine AWP.seq (sr fun _ => ?_)
 refine mv ?_
 refine mv ?_
 refine ρv U40 ?_
 refine ρ2 ?_
 refine ez ?_
 refine ρp (fun h2 => ?_) (fun h2 => ?_)
 · try simp [-List.getD_eq_getElem?_getD] at h2
   refine AWP.skip (thenA_n ?_)
   refine AWP.seq (AWP.block ?_)
   refine ρE mixed (fun _ => ?_)
   refine ρ6 (fo := 6) U84 sz82 ?_
   refine ρd U82 ?_
   refine mv ?_
   refine mv ?_
   refine ρf U40 sz3 ?_
   refine ρ7 U3 ?_
   refine mv ?_
   refine mv ?_
   refine ρa ?_
   refine ρ8 U40 sz3 ?_
   refine ρ7 U3 ?_
   refine ARun.build rfl rfl rfl rfl so127 (.cons (ep rfl) (.cons (ep rfl) .nil)) rfl rfl optN ?_
   refine ρy U82 sz127 zv127 ?_
   refine ARun.appendL hG rfl rfl rfl rfl U82 ti127 rfl (by decide) (ep rfl) (ep rfl) rfl rfl (by have := pairsL_len (((rdRow (sixR s 6) 10).2).take (2 * k)); simp only [List.length_take] at this; simp [maxLen]; omega) (by have := pairsL_len (((rdRow (sixR s 6) 10).2).take (2 * k)); simp only [List.length_take] at this; simp; omega) (pair_snoc (rdRow (sixR s 6) 10).2 k (by omega)) optN rfl ?_
   refine ρ6 (fo := 6) U84 sz82 ?_
   refine ρt sz82 ?_
   refine ⟨by kernel_rfl, _, _, rfl, hG, ?_⟩
   refine blockA_n (thenA_n ?_)
   refine AWP.region (fun _ => ?_)
   refine mv ?_
   refine ρa ?_
   refine ma ?_
   refine ⟨_, _, rfl, hG, ?_⟩
   refine thenA_n ⟨rfl, (k + 1, g + 1), _, ?_, ?_, rfl, ?_⟩
   · dsimp only; omega
   · repeat (first | exact .nil | refine .cons rfl ?_)
   dsimp only; omega
 simp at h2
 have hk2 : 2 * k = (rdRow (sixR s 6) 10).2.length := by omega
 rw [hk2, List.take_length]
 refine AWP.exit ?_
 refine thenA_x ?_
 refine thenA_x ?_
 refine blockA_h ?_
 refine thenA_n ?_
 refine AWP.seq (AWP.seq ?_)
 refine AWP.frzIn (j := 2) (q := 3) (p := 6) hG rfl (by have := pairsL_len (rdRow (sixR s 6) 10).2; have := rdRow_len (sixR s 6) 10; simp [maxLen]; omega) rfl rfl rfl ?_
 refine AWP.region (fun _ => ?_)
 refine ρn U84 sz84 ?_
 refine ρA cf81 ?_ (hF := fun hg => check_fn (mkCall (sixL s) (rdRow (sixR s 6) 10).2) (by have := pairsL_len (rdRow (sixR s 6) 10).2; show (pairsL (rdRow (sixR s 6) 10).2).length ≤ _; omega))
 refine mz (sr fun _ => ?_)
 refine mv ?_
 refine ARun.isNil rfl rfl rfl rfl U96 (ep rfl) (fun hg => by first | rfl | exact nilA_aEr _) (.inr ⟨rfl, rfl⟩) optN ?_
 refine ez ?_
 refine ρp (fun h3 => ?_) (fun h3 => ?_)
 · simp [new_none] at h3
   refine sr fun _ => ?_
   refine ARun.build rfl rfl rfl rfl so84 .nil rfl rfl optN ?_
   refine mv ?_
   refine ρh cf79 (fun hg => wrap_fn tTake (Er.new tCall (checkP (mkCall (sixL s) (rdRow (sixR s 6) 10).2)))) ?_
   refine ρ1 sz84 ?_
   refine mz ?_
   refine AWP.ret (thenA_r ?_)
   refine ρj (rs := [.cell 2 84, .tmp 3]) (.cons (.cellA rfl ((hG.at _ _).trans rfl) U84 rfl sz84 rfl rfl) (.cons (.tmp rfl) .nil)) ?_
   have h1q : ¬ (rdCall s).2.2.length % 2 = 1 := by show ¬ (rdRow (sixR s 6) 10).2.length % 2 = 1; omega
   have ht : takeE s ≠ 0 := by rw [takeE, if_neg (by omega), if_neg h1q]; exact h3
   rw [takeC, if_neg ht, takeErr, if_neg (by omega), if_neg h1q]; rfl
 simp [new_none] at h3
 refine AWP.skip (thenA_n (sr fun _ => ?_))
 refine ρn U84 sz84 ?_
 refine ρ1 sz84 ?_
 refine mz ?_
 refine AWP.ret ?_
 refine ρj (rs := [.cell 2 84, .tmp 3]) (.cons (.cellA rfl ((hG.at _ _).trans rfl) U84 rfl sz84 rfl rfl) (.cons (.tmp rfl) .nil)) ?_
 have h1q : ¬ (rdCall s).2.2.length % 2 = 1 := by show ¬ (rdRow (sixR s 6) 10).2.length % 2 = 1; omega
 have ht : takeE s = 0 := by rw [takeE, if_neg (by omega), if_neg h1q]; exact h3
 rw [takeC, if_pos ht, takeErr, if_neg (by omega), if_neg h1q, show checkP (mkCall (rdCall s).2.1 (rdCall s).2.2) = 0 from h3]; rfl
end Go.Proofs.YtcndnllmlhhjiaaGreatDoor
namespace Go.Proofs.YtcndnllmlhhjiaaGreatDoor
open Go.RowKit
open NumP
theorem takeErr_none (s : ByteArray) : (takeErr s).isNone = decide (takeE s = 0) := by
 unfold takeErr takeE
 split
 · rw [wrap_none, errOf_none]
 split
 · rw [new_none]
 rw [wrap_none, new_none]
theorem may_no_t {o : Co} (h : (!decide (takeE o.payload = 0) || !decide ((takeC o.payload).client = o.client) || !decide ((takeC o.payload).seq = o.seq) || !momentP o.start) = true) : mayO o = false := by
 unfold mayO
 cases h1 : decide (takeE o.payload = 0) <;> cases h2 : decide ((takeC o.payload).client = o.client) <;> cases h3 : decide ((takeC o.payload).seq = o.seq) <;> cases h4 : momentP o.start <;> simp [h1, h2, h3, h4] at h ⊢
theorem may_yes_t {o : Co} (h : (!decide (takeE o.payload = 0) || !decide ((takeC o.payload).client = o.client) || !decide ((takeC o.payload).seq = o.seq) || !momentP o.start) = false) : mayO o = if o.end_ = 0 then decide (o.reply = ⟨#[]⟩) else decide (o.start < o.end_) && decide (o.end_ ≤ 1000000) := by
 unfold mayO
 cases h1 : decide (takeE o.payload = 0) <;> cases h2 : decide ((takeC o.payload).client = o.client) <;> cases h3 : decide ((takeC o.payload).seq = o.seq) <;> cases h4 : momentP o.start <;> simp [h1, h2, h3, h4] at h ⊢
theorem moment_fn (n : Int) : FnP Tryz.prog 102 [.int .i64 n] (.bool (momentP n)) := by
 refine FnP.of Tryz.func102 rfl rfl (by simp) (by simp [AV.cells, aIn, aOut, aLn, aCl, aRp, aCo]) (fun G hG => ?_)
 have hN : NoH G.length (.bool (momentP n)) := (by simp [AV.cells, aIn, aOut, aLn, aCl, aRp, aCo])
 refine sr fun _ => ?_
 refine mz (sr fun _ => ?_)
 refine mv ?_
 refine ρ2 ?_
 refine mv ?_
 refine ρg ?_
 refine ρb ?_
 refine ρ0 ?_
 refine mz ?_
 refine AWP.ret ?_
 refine ρi ?_
 rfl
theorem may_fn2 (o : Co) (hp : o.payload.size ≤ 1000000) : FnP Tryz.prog 63 [aCo o] (.bool (mayO o)) := by
 refine FnP.of Tryz.func63 rfl rfl (by simp) (by simp [AV.cells, aIn, aOut, aLn, aCl, aRp, aCo]) (fun G hG => ?_)
 have hN : NoH G.length (.bool (mayO o)) := (by simp [AV.cells, aIn, aOut, aLn, aCl, aRp, aCo])
 refine sr fun _ => ?_
 refine ρz ?_
 refine mz (sr fun _ => ?_)
 refine ρ4 U50 sz9 ?_
 refine ρ7 U9 ?_
 refine ρm cf52 (fun hg => take_c o.payload hp) ?_
 refine mv ?_
 refine ρ9 ?_
 refine ρ9 ?_
 refine ρo (j := 0) zv84 ?_
 refine ρ1 sz84 ?_
 refine mz ?_
 refine AWP.seq (sr fun _ => ?_)
 refine mv ?_
 refine ARun.isNil rfl rfl rfl rfl U96 (ep rfl) (fun hg => by first | rfl | exact nilA_aEr _) (.inr ⟨rfl, rfl⟩) optN ?_
 refine mv ?_
 refine ρx (fo := 0) U84 sz3 ?_
 refine ρw U3 ?_
 refine ρc U50 sz3 ?_
 refine ρ5 U3 ?_
 refine ρs ?_
 refine ρ3 ?_
 refine mv ?_
 refine ρx (fo := 1) U84 sz3 ?_
 refine ρw U3 ?_
 refine ρc U50 sz3 ?_
 refine ρ5 U3 ?_
 refine ρs ?_
 refine ρ3 ?_
 refine mv ?_
 refine ρc U50 sz3 ?_
 refine ρ5 U3 ?_
 refine ρr cf102 (fun hg => moment_fn o.start) ?_
 refine ARun.not rfl rfl rfl rfl (Ev.opt rfl (fun h => h)) optS ?_
 refine ρ3 ?_
 refine ez ?_
 refine ρp (fun h0 => ?_) (fun h0 => ?_)
 · simp only [takeErr_none] at h0
   refine sr fun _ => ?_
   refine mz ?_
   refine AWP.ret (thenA_r ?_)
   refine ρi ?_
   rw [may_no_t (by simpa using h0)]; rfl
 simp only [takeErr_none] at h0
 refine AWP.skip (thenA_n (AWP.seq (sr fun _ => ?_)))
 refine ρ4 U50 sz3 ?_
 refine ρ7 U3 ?_
 refine ρ2 ?_
 refine ez ?_
 refine ρp (fun h1 => ?_) (fun h1 => ?_)
 · simp at h1
   refine sr fun _ => ?_
   refine ρl U50 sz50 ?_
   refine ρ4 U50 sz3 ?_
   refine ρ7 U3 ?_
   refine ρ4 U50 sz3 ?_
   refine ρ7 U3 ?_
   refine ρ4 U50 sz9 ?_
   refine ρ7 U9 ?_
   refine ρ4 U50 sz3 ?_
   refine ρ7 U3 ?_
   refine ARun.build rfl rfl rfl rfl so50 (.cons (ep rfl) (.cons (ep rfl) (.cons (ep rfl) (.cons (ep rfl) .nil)))) rfl rfl optN ?_
   refine ARun.eqAgg rfl rfl rfl rfl eq50 (ep rfl) (ep rfl) rfl (.inl ⟨rfl, rfl⟩) optN ?_
   refine mz ?_
   refine AWP.ret (thenA_r ?_)
   refine ρi ?_
   rw [may_yes_t (by simpa using h0), if_pos h1]; simp [h1]
 simp at h1
 refine AWP.skip (thenA_n (sr fun _ => ?_))
 refine ρ4 U50 sz3 ?_
 refine ρ7 U3 ?_
 refine ρ4 U50 sz3 ?_
 refine ρ7 U3 ?_
 refine ρ2 ?_
 refine mv ?_
 refine ρc U50 sz3 ?_
 refine ρ5 U3 ?_
 refine ρb ?_
 refine ρ0 ?_
 refine mz ?_
 refine AWP.ret ?_
 refine ρi ?_
 rw [may_yes_t (by simpa using h0), if_neg h1]
theorem ahead_fn (a b : Co) : FnP Tryz.prog 35 [aCo a, aCo b] (.bool (aheadP a b)) := by
 refine FnP.of Tryz.func35 rfl rfl (by simp) (by simp [AV.cells, aIn, aOut, aLn, aCl, aRp, aCo]) (fun G hG => ?_)
 have hN : NoH G.length (.bool (aheadP a b)) := (by simp [AV.cells, aIn, aOut, aLn, aCl, aRp, aCo])
 refine sr fun _ => ?_
 refine ρz ?_
 refine ρz ?_
 refine mz (sr fun _ => ?_)
 refine ρ4 U50 sz3 ?_
 refine ρ7 U3 ?_
 refine ρ2 ?_
 refine mv ?_
 refine ρc U50 sz3 ?_
 refine ρ5 U3 ?_
 refine ρc U50 sz3 ?_
 refine ρ5 U3 ?_
 refine ρs ?_
 refine ρ0 ?_
 refine mz ?_
 refine AWP.ret ?_
 refine ρi ?_
 simp [aheadP]
theorem ofF_fn (x : Co) (c : Int) : FnP Tryz.prog 103 [aCo x, .pe [.int .i64 c]] (.bool (decide (x.client = c))) := by
 refine FnP.of Tryz.func103 rfl rfl (by simp) (by simp [AV.cells, aIn, aOut, aLn, aCl, aRp, aCo]) (fun G hG => ?_)
 have hN : NoH G.length (.bool (decide (x.client = c))) := (by simp [AV.cells, aIn, aOut, aLn, aCl, aRp, aCo])
 refine sr fun _ => ?_
 refine ρz ?_
 refine mz (sr fun _ => ?_)
 refine ρ4 U50 sz3 ?_
 refine ρ7 U3 ?_
 refine ρ7 U3 ?_
 refine ρ2 ?_
 refine mz ?_
 refine AWP.ret ?_
 refine ρi ?_
 rfl
theorem openF_fn (x : Co) : FnP Tryz.prog 49 [aCo x] (.bool (decide (x.end_ = 0))) := by
 refine FnP.of Tryz.func49 rfl rfl (by simp) (by simp [AV.cells, aIn, aOut, aLn, aCl, aRp, aCo]) (fun G hG => ?_)
 have hN : NoH G.length (.bool (decide (x.end_ = 0))) := (by simp [AV.cells, aIn, aOut, aLn, aCl, aRp, aCo])
 refine sr fun _ => ?_
 refine ρz ?_
 refine mz (sr fun _ => ?_)
 refine ρ4 U50 sz3 ?_
 refine ρ7 U3 ?_
 refine ρ2 ?_
 refine mz ?_
 refine AWP.ret ?_
 refine ρi ?_
 rfl
theorem those_fn (F : Nat) (fs cs : List AV) (p : Co → Bool) (l : List Co) (hl : l.length ≤ 1000) (hcf : ∀ (vs : Array Value) (W : World), (callFunc F vs).run Tryz.prog W = .ok (.enter F vs) W) (hn : (∀ x, x ∈ fs → NoH 0 x) ∧ ∀ x, x ∈ cs → NoH 0 x) (hF : ∀ x, x ∈ l → FnP Tryz.prog F (fs ++ [aCo x] ++ cs) (.bool (p x))) : FnP Tryz.prog 48 [.sl (l.map aCo), .fn (.func F) fs cs] (.sl ((l.filter p).map aCo)) := by
 refine FnP.of Tryz.func48 rfl rfl (by simp) (by simp [AV.cells, aCo]; intro x x1 _ _ e y hy; subst e; simp at hy; rcases hy with rfl | rfl | rfl | rfl | rfl | rfl <;> simp) (fun G hG => ?_)
 have hN : NoH G.length (.sl ((l.filter p).map aCo)) := (by simp [AV.cells, aCo]; intro x x1 _ _ e y hy; subst e; simp at hy; rcases hy with rfl | rfl | rfl | rfl | rfl | rfl <;> simp)
 refine sr fun _ => ?_
 refine mz (sr fun _ => ?_)
 refine ARun.nilOwn (e := 50) (z := 6) (j := 0) hG rfl ⟨.inl rfl, rfl⟩ (fun _ => rfl) rfl rfl rfl optN ?_
 refine ez ?_
 refine AWP.seq (sr fun _ => ?_)
 refine mv ?_
 refine ρv U26 ?_
 refine mv ?_
 refine ez ?_
 refine AWP.block ?_
 refine AWP.rounds (fun st => st.1 ≤ l.length) (fun st => [(1, .fn (.func F) fs cs), (5, .own (G.length + 0) st.2), (8, .sl (l.map aCo)), (9, .int .i64 ((l.map aCo).length : Int)), (10, .int .i64 (st.1 : Int))]) (fun st => [.row st.2 50 6 (((l.take st.1).filter p).map aCo)]) (fun st => l.length - st.1) 1 ((0, 0) : Nat × Nat) (Nat.zero_le _) (by repeat (first | exact .nil | refine .cons rfl ?_)) rfl (fun _ => rfl) (fun _ => ⟨by simp [AV.cells, aCo]; exact ⟨fun x hx => (hn.1 x hx).mono (by omega), fun x hx => (hn.2 x hx).mono (by omega)⟩, by simp [AO.conts, aCo, AV.cells]; intro y x1 x2 _ _ e hy; subst e; simp at hy; rcases hy with rfl | rfl | rfl | rfl | rfl | rfl <;> simp⟩) (fun st hI => ?_)
 obtain ⟨k, g⟩ := st
 dsimp only at hI
 show AWP _ _ _ _ _ [(1, .fn (.func F) fs cs), (5, .own (G.length + 0) g), (8, .sl (l.map aCo)), (9, .int .i64 ((l.map aCo).length : Int)), (10, .int .i64 (k : Int))] _ [.row g 50 6 (((l.take k).filter p).map aCo)]
 refine sr fun _ => ?_
 refine ρ2 ?_
 refine ez ?_
 refine AWP.seq ?_
 refine ρp (fun h0 => ?_) (fun h0 => ?_)
 · try simp [-List.getD_eq_getElem?_getD] at h0
   refine AWP.skip (thenA_n ?_)
   refine AWP.seq (AWP.block (sr fun _ => ?_))
   refine ρf U26 sz50 ?_
   refine ρl U50 sz50 ?_
   refine ρo (j := 1) zv50 ?_
   refine ρ1 sz50 ?_
   refine ez (sr fun _ => ?_)
   refine mv ?_
   refine ρn U50 sz50 ?_
   refine ρA hcf ?_ (hF := fun hg => hF _ (by rw [Co_idx (by omega)]; exact List.getElem_mem _))
   refine ez ?_
   refine ρp (fun h1 => ?_) (fun h1 => ?_)
   · refine AWP.region (fun _ => ?_)
     refine mv ?_
     refine ρn U50 sz50 ?_
     refine ρy U26 sz50 zv50 ?_
     refine ARun.appendL hG rfl rfl rfl rfl U26 ti50 rfl (by decide) (ep rfl) (ep rfl) rfl rfl (by have := filter_len p (l.take k); simp only [List.length_take] at this; simp [maxLen]; omega) (by have := filter_len p (l.take k); simp only [List.length_take] at this; simp; omega) (co_app p l k (by omega) h1) optN rfl ?_
     refine ma ?_
     refine ⟨_, _, rfl, hG, ?_⟩
     refine blockA_n (thenA_n ?_)
     refine AWP.region (fun _ => ?_)
     refine ρa ?_
     refine mv ?_
     refine ⟨_, _, rfl, hG, ?_⟩
     refine thenA_n ⟨rfl, (k + 1, g + 1), _, ?_, ?_, rfl, ?_⟩
     · dsimp only; omega
     · repeat (first | exact .nil | refine .cons rfl ?_)
     dsimp only; omega
   rw [show (l.take k).filter p = (l.take (k + 1)).filter p from by rw [co_filter p l k (by omega), if_neg (by rw [h1]; decide)]]
   refine AWP.skip (blockA_n (thenA_n ?_))
   refine AWP.region (fun _ => ?_)
   refine ρa ?_
   refine mv ?_
   refine ⟨_, _, rfl, hG, ?_⟩
   refine thenA_n ⟨rfl, (k + 1, g), _, ?_, ?_, rfl, ?_⟩
   · dsimp only; omega
   · repeat (first | exact .nil | refine .cons rfl ?_)
   dsimp only; omega
 simp at h0
 obtain rfl : k = l.length := by omega
 rw [List.take_length]
 refine AWP.exit ?_
 refine thenA_x ?_
 refine thenA_x ?_
 refine blockA_h ?_
 refine thenA_n (AWP.seq ?_)
 refine AWP.frzOwn 5 hG rfl rfl (by decide) (by have := filter_len p l; simp [maxLen]; omega) rfl ?_
 refine AWP.region (fun _ => ?_)
 refine mv ?_
 refine mz ?_
 refine AWP.ret ?_
 refine ρi ?_
 rfl
theorem okO_h2 {l : List Co} {k : Nat} (a : Int) (ha : 0 < k → a = (l.getD (k - 1) default).start) : (!mayO (l.getD k default) || (decide (0 < (k : Int)) && decide ((l.getD k default).start ≤ a))) = !(mayO (l.getD k default) && (decide (k = 0) || decide ((l.getD (k - 1) default).start < (l.getD k default).start))) := by
 by_cases hk : 0 < k
 · rw [ha hk, decide_eq_true (show 0 < (k : Int) by omega), decide_eq_false (show ¬ k = 0 by omega)]
   by_cases h : (l.getD (k - 1) default).start < (l.getD k default).start
   · rw [decide_eq_true h, decide_eq_false (by omega)]; cases mayO (l.getD k default) <;> rfl
   rw [decide_eq_false h, decide_eq_true (by omega)]; cases mayO (l.getD k default) <;> rfl
 obtain rfl : k = 0 := by omega
 cases mayO (l.getD 0 default) <;> simp
theorem okO_mk {l : List Co} {k : Nat} (hk : k < l.length) (hok : ∀ j, j < k → okO l j = true) (h2 : (mayO (l.getD k default) && (decide (k = 0) || decide ((l.getD (k - 1) default).start < (l.getD k default).start))) = true) (h3 : hadOk l k = true) : okO l k = true := by
 unfold okO; rw [← had_all hk hok, h2, h3]; rfl
theorem okO_no1 {l : List Co} {k : Nat} (h2 : (mayO (l.getD k default) && (decide (k = 0) || decide ((l.getD (k - 1) default).start < (l.getD k default).start))) = false) : okO l k = false := by
 unfold okO; rw [h2]; rfl
theorem had_none {l : List Co} {k : Nat} (h : ¬ 0 < (ofP (l.take k) (l.getD k default).client).length) : hadOk l k = true := by unfold hadOk; rw [if_neg h]
theorem had_if {l : List Co} {k : Nat} (h : 0 < (ofP (l.take k) (l.getD k default).client).length) : (!aheadP ((ofP (l.take k) (l.getD k default).client).getD ((ofP (l.take k) (l.getD k default).client).length - 1) default) (l.getD k default) || decide ((l.getD k default).seq ≤ ((ofP (l.take k) (l.getD k default).client).getD ((ofP (l.take k) (l.getD k default).client).length - 1) default).seq)) = !hadOk l k := by
 unfold hadOk; rw [if_pos h]
 generalize (ofP (l.take k) (l.getD k default).client).getD ((ofP (l.take k) (l.getD k default).client).length - 1) default = o
 by_cases h2 : o.seq < (l.getD k default).seq
 · rw [decide_eq_true h2, decide_eq_false (by omega)]; simp
 rw [decide_eq_false h2, decide_eq_true (by omega)]; simp
theorem okO_no2 {l : List Co} {k : Nat} (hk : k < l.length) (hok : ∀ j, j < k → okO l j = true) (h3 : hadOk l k = false) : okO l k = false := by
 unfold okO; rw [← had_all hk hok, h3, Bool.and_false]
theorem of_fn (l : List Co) (c : Int) (hl : l.length ≤ 1000) : FnP Tryz.prog 64 [.sl (l.map aCo), .int .i64 c] (.sl ((ofP l c).map aCo)) := by
 refine FnP.of Tryz.func64 rfl rfl (by simp) (noH_cos _ _) (fun G hG => ?_)
 have hN : NoH G.length (.sl ((ofP l c).map aCo)) := (noH_cos _ _)
 refine sr fun _ => ?_
 refine ARun.boxPe1 rfl rfl rfl rfl (ep rfl) (by first | rfl | exact aEr_one _ | exact aFl_one _) optN ?_
 refine mz (sr fun _ => ?_)
 refine mv ?_
 refine ARun.makeFunc rfl rfl rfl rfl .nil (.cons (ep rfl) .nil) optN ?_
 refine ρk cf48 ?_ (hF := fun hg => those_fn 103 [] [.pe [.int .i64 c]] (fun o => decide (o.client = c)) l hl cf103 (by simp) (fun x _ => ofF_fn x c))
 refine mz ?_
 refine AWP.ret ?_
 refine ρi ?_
 rfl
theorem open_fn (l : List Co) (hl : l.length ≤ 1000) : FnP Tryz.prog 36 [.sl (l.map aCo)] (.sl ((openP l).map aCo)) := by
 refine FnP.of Tryz.func36 rfl rfl (by simp) (noH_cos _ _) (fun G hG => ?_)
 have hN : NoH G.length (.sl ((openP l).map aCo)) := (noH_cos _ _)
 refine sr fun _ => ?_
 refine mz (sr fun _ => ?_)
 refine mv ?_
 refine ρk cf48 ?_ (hF := fun hg => those_fn 49 [] [] (fun o => decide (o.end_ = 0)) l hl cf49 (by simp) (fun x _ => openF_fn x))
 refine mz ?_
 refine AWP.ret ?_
 refine ρi ?_
 rfl
theorem of_cut (l : List Co) (k : Nat) (c : Int) (hl : l.length ≤ 1000) : FnP Tryz.prog 64 [.sl (((l.map aCo).take k).drop 0), .int .i64 c] (.sl ((ofP (l.take k) c).map aCo)) := by
 have hh := of_fn (l.take k) c (by rw [List.length_take]; omega)
 rw [List.map_take] at hh; exact hh
theorem checkO_fn (l : List Co) (hl : l.length ≤ 1000) (hp : ∀ x, x ∈ l → x.payload.size ≤ 1000000) : FnP Tryz.prog 41 [.sl (l.map aCo)] (.int .i64 (checkO l)) := by
 refine FnP.of Tryz.func41 rfl rfl (by simp) (by simp [AV.cells, aIn, aOut, aLn, aCl, aRp, aCo]) (fun G hG => ?_)
 have hN : NoH G.length (.int .i64 (checkO l)) := (by simp [AV.cells, aIn, aOut, aLn, aCl, aRp, aCo])
 refine sr fun _ => ?_
 refine mz ?_
 refine AWP.seq (sr fun _ => ?_)
 refine mv ?_
 refine ρv U26 ?_
 refine ρ2 ?_
 refine ez ?_
 refine ρp (fun h0 => ?_) (fun h0 => ?_)
 · simp at h0
   refine sr fun _ => ?_
   refine mz ?_
   refine AWP.ret (thenA_r ?_)
   refine ρi ?_
   rw [check_many (by omega)]; rfl
 simp at h0
 refine AWP.skip (thenA_n (AWP.seq (sr fun _ => ?_)))
 refine mv ?_
 refine ρv U26 ?_
 refine mv ?_
 refine ez ?_
 refine AWP.block ?_
 refine AWP.rounds (fun k => k ≤ l.length ∧ ∀ j, j < k → okO l j = true) (fun k => [(0, .sl (l.map aCo)), (10, .sl (l.map aCo)), (11, .int .i64 ((l.map aCo).length : Int)), (12, .int .i64 (k : Int))]) (fun k => []) (fun k => l.length - k) 0 0 ⟨by omega, fun j h => by omega⟩ (by repeat (first | exact .nil | refine .cons rfl ?_)) rfl (fun _ => rfl) (fun _ => ⟨by simp [AV.cells, aCo], by simp⟩) (fun k hI => ?_)
 obtain ⟨hk, hok⟩ := hI
 obtain ⟨hf1, hf2⟩ := ofP_len l k (l.getD k default).client hl
 refine sr fun _ => ?_
 refine ρ2 ?_
 refine ez ?_
 refine AWP.seq ?_
 refine ρp (fun h1 => ?_) (fun h1 => ?_)
 · try simp [-List.getD_eq_getElem?_getD] at h1
   refine AWP.skip (thenA_n ?_)
   refine AWP.seq (AWP.block (sr fun _ => ?_))
   refine mv ?_
   refine ρf U26 sz50 ?_
   refine ρl U50 sz50 ?_
   refine ρo (j := 0) zv50 ?_
   refine ma ?_
   refine ρ1 sz50 ?_
   refine ez ?_
   refine AWP.seq (AWP.seq ?_)
   refine AWP.frzBox 4 hG rfl rfl rfl ?_
   refine ρE mixed (fun _ => ?_)
   refine ρl U50 sz50 ?_
   refine ρA cf63 ?_ (hF := fun hg => may_fn2 (l.getD k default) (pay_at hp (by omega)))
   refine ρC ?_
   refine mv ?_
   refine ρg ?_
   refine ρb ?_
   refine ARun.move (.inl rfl) rfl rfl rfl (Ev.opt rfl (fun h => h)) optS ?_
   refine ρc U50 sz3 ?_
   refine ρ5 U3 ?_
   refine ρg ?_
   refine ρg ?_
   refine ARun.arith rfl rfl rfl rfl (Ev.opt rfl (fun h => h)) (ep rfl) rfl (fun hg => i64w (by (try simp at hg); omega)) optS ?_
   refine ρq U26 sz50 ?_
   refine ρB U50 sz3 ?_
   refine ρ5 U3 ?_
   refine ρs ?_
   refine ρD ?_
   refine ρ3 ?_
   refine ⟨by kernel_rfl, _, _, rfl, hG, ?_⟩
   refine thenA_n ?_
   refine ρp (fun h2 => ?_) (fun h2 => ?_)
   · rw [okO_h2 (l.getD ((k : Int) - 1).toNat default).start (fun hk0 => by rw [show ((k : Int) - 1).toNat = k - 1 by omega])] at h2
     refine sr fun _ => ?_
     refine mz ?_
     refine AWP.ret (thenA_r ?_)
     refine blockA_r (thenA_r ?_)
     refine thenA_r (blockA_r (thenA_r ?_))
     refine ρi ?_
     rw [check_bad (by omega) (okO_no1 (by simpa only [Bool.not_eq_true'] using h2))]; rfl
   rw [okO_h2 (l.getD ((k : Int) - 1).toNat default).start (fun hk0 => by rw [show ((k : Int) - 1).toNat = k - 1 by omega])] at h2
   refine AWP.skip (thenA_n (AWP.seq ?_))
   refine ρE mixed (fun _ => ?_)
   refine mv ?_
   refine mv ?_
   refine ARun.cutSl (a := 0) (b := k) rfl rfl rfl rfl U26 sz50 (ep rfl) (fun _ => (by intro x hx; obtain ⟨y, _, rfl⟩ := List.mem_map.1 hx; rfl)) (fun _ => rfl) ⟨_, _, (ep rfl), fun hg => (by (try simp at hg); omega)⟩ (fun hg => (by (try simp at hg); simp; omega)) rfl optN ?_
   refine ρ4 U50 sz3 ?_
   refine ρ7 U3 ?_
   refine ρh cf64 (fun hg => of_cut l k (l.getD k default).client hl) ?_
   refine ma ?_
   refine ⟨by kernel_rfl, _, _, rfl, hG, ?_⟩
   refine thenA_n (sr fun _ => ?_)
   refine mv ?_
   refine ρv U26 ?_
   refine ρ2 ?_
   refine ez ?_
   refine ρp (fun h3 => ?_) (fun h3 => ?_)
   · simp only [decide_eq_true_eq, List.length_map] at h3
     replace h3 : 0 < (ofP (l.take k) (l.getD k default).client).length := by omega
     have hix : ((((ofP (l.take k) (l.getD k default).client).map aCo).length : Int) - 1).toNat = (ofP (l.take k) (l.getD k default).client).length - 1 := by rw [List.length_map]; omega
     refine sr fun _ => ?_
     refine mv ?_
     refine mv ?_
     refine ρv U26 ?_
     refine ρa ?_
     refine ρ8 U26 sz50 ?_
     refine ρl U50 sz50 ?_
     refine ρo (j := 1) zv50 ?_
     refine ρ1 sz50 ?_
     refine ez ?_
     refine AWP.seq ?_
     refine AWP.frzBox 6 hG rfl rfl rfl ?_
     refine AWP.region (fun _ => ?_)
     refine ρl U50 sz50 ?_
     refine ρl U50 sz50 ?_
     refine ρh cf35 (fun hg => ahead_fn ((ofP (l.take k) (l.getD k default).client).getD ((((ofP (l.take k) (l.getD k default).client).map aCo).length : Int) - 1).toNat default) (l.getD k default)) ?_
     refine ρC ?_
     refine mv ?_
     refine ρc U50 sz3 ?_
     refine ρ5 U3 ?_
     refine ρc U50 sz3 ?_
     refine ρ5 U3 ?_
     refine ρs ?_
     refine ρ3 ?_
     refine ez ?_
     refine ρp (fun h4 => ?_) (fun h4 => ?_)
     · rw [hix, had_if h3] at h4
       refine sr fun _ => ?_
       refine mz ?_
       refine AWP.ret (blockA_r ?_)
       refine thenA_r (thenA_r ?_)
       refine blockA_r (thenA_r ?_)
       refine ρi ?_
       rw [check_bad (by omega) (okO_no2 (by omega) hok (by rw [Bool.not_eq_true'] at h4; exact h4))]; rfl
     rw [hix, had_if h3] at h4
     refine AWP.skip (blockA_n (thenA_n ?_))
     refine AWP.region (fun _ => ?_)
     refine ρa ?_
     refine mv ?_
     refine ⟨_, _, rfl, hG, ?_⟩
     refine thenA_n ⟨rfl, k + 1, _, ?_, ?_, rfl, ?_⟩
     · refine ⟨by omega, fun j hj => ?_⟩
       by_cases e : j = k
       · subst e; exact okO_mk (by omega) hok (by simpa only [Bool.not_eq_false'] using h2) (by rw [Bool.not_eq_false'] at h4; exact h4)
       exact hok j (by omega)
     · repeat (first | exact .nil | refine .cons rfl ?_)
     omega
   simp only [decide_eq_false_iff_not, List.length_map] at h3
   replace h3 : ¬ 0 < (ofP (l.take k) (l.getD k default).client).length := by omega
   refine AWP.skip (blockA_n (thenA_n ?_))
   refine AWP.region (fun _ => ?_)
   refine ρa ?_
   refine mv ?_
   refine ⟨_, _, rfl, hG, ?_⟩
   refine thenA_n ⟨rfl, k + 1, _, ?_, ?_, rfl, ?_⟩
   · refine ⟨by omega, fun j hj => ?_⟩
     by_cases e : j = k
     · subst e; exact okO_mk (by omega) hok (by simpa only [Bool.not_eq_false'] using h2) (had_none h3)
     exact hok j (by omega)
   · repeat (first | exact .nil | refine .cons rfl ?_)
   omega
 try simp [-List.getD_eq_getElem?_getD] at h1
 refine AWP.exit ?_
 refine thenA_x ?_
 refine thenA_x ?_
 refine blockA_h ?_
 refine thenA_n (sr fun _ => ?_)
 refine mz ?_
 refine AWP.ret ?_
 refine ρi ?_
 rw [check_good (by omega) (fun j hj => hok j (by omega))]; rfl
theorem set_cells {z : Nat} {xs : List AV} {k : Nat} {X : AV} (h : ∀ x, x ∈ xs → x.cells.length = z) (hX : X.cells.length = z) : ∀ x, x ∈ xs.set k X → x.cells.length = z := by
 intro x hx
 rcases List.mem_or_eq_of_mem_set hx with h1 | h1
 · exact h x h1
 subst h1; exact hX
end Go.Proofs.YtcndnllmlhhjiaaGreatDoor
namespace Go.Proofs.YtcndnllmlhhjiaaGreatDoor
open Go.RowKit
open NumP
def smallO (o : Co) : Bool := decide (o.payload.size ≤ 500) && decide (o.reply.size ≤ 1000)
def fewO (l : List Co) : Bool := decide (l.length ≤ 120) && l.all smallO
theorem fewO_no {l : List Co} {k : Nat} (hk : k < l.length) (h : (decide (500 < ((l.getD k default).payload.size : Int)) || decide (1000 < ((l.getD k default).reply.size : Int))) = true) : fewO l = false := by
 have : l.all smallO = false := List.all_eq_false.2 ⟨l[k], List.getElem_mem hk, by
   rw [← Co_idx hk]; unfold smallO
   simp only [Bool.or_eq_true, decide_eq_true_eq] at h
   simp only [Bool.and_eq_true, decide_eq_true_eq]; omega⟩
 unfold fewO; rw [this, Bool.and_false]
theorem fewO_yes {l : List Co} (h0 : l.length ≤ 120) (h : ∀ j, j < l.length → (decide (500 < ((l.getD j default).payload.size : Int)) || decide (1000 < ((l.getD j default).reply.size : Int))) = false) : fewO l = true := by
 have : l.all smallO = true := List.all_eq_true.2 fun x hx => by
   obtain ⟨j, hj, rfl⟩ := List.mem_iff_getElem.1 hx
   have := h j hj
   rw [Co_idx hj] at this
   unfold smallO
   simp only [Bool.or_eq_false_iff, decide_eq_false_iff_not] at this
   simp only [Bool.and_eq_true, decide_eq_true_eq]; omega
 unfold fewO; rw [this, decide_eq_true h0]; rfl
theorem co_takeS (l : List Co) (k : Nat) (hk : k < l.length) : (l.take k).map aCo ++ [aCo (l.getD k default)] = (l.take (k + 1)).map aCo := by
 rw [List.take_succ_eq_append_getElem hk, List.map_append, Co_idx hk]; rfl
theorem fewO_fn (l : List Co) : FnP Tryz.prog 8 [.sl (l.map aCo)] (.bool (fewO l)) := by
 refine FnP.of Tryz.func8 rfl rfl (by simp) (by simp [AV.cells, aIn, aOut, aLn, aCl, aRp, aCo]) (fun G hG => ?_)
 have hN : NoH G.length (.bool (fewO l)) := (by simp [AV.cells, aIn, aOut, aLn, aCl, aRp, aCo])
 refine sr fun _ => ?_
 refine mz ?_
 refine AWP.seq (sr fun _ => ?_)
 refine mv ?_
 refine ρv U26 ?_
 refine ρ2 ?_
 refine ez ?_
 refine ρp (fun h0 => ?_) (fun h0 => ?_)
 · simp at h0
   refine sr fun _ => ?_
   refine mz ?_
   refine AWP.ret (thenA_r ?_)
   refine ρi ?_
   rw [show fewO l = false from by unfold fewO; rw [decide_eq_false (by omega)]; rfl]; rfl
 simp at h0
 refine AWP.skip (thenA_n (AWP.seq (sr fun _ => ?_)))
 refine mz ?_
 refine AWP.block ?_
 refine AWP.rounds (fun k => k ≤ l.length ∧ ∀ j, j < k → (decide (500 < ((l.getD j default).payload.size : Int)) || decide (1000 < ((l.getD j default).reply.size : Int))) = false) (fun k => [(0, .sl (l.map aCo)), (3, .int .i64 (k : Int))]) (fun k => []) (fun k => l.length - k) 0 0 ⟨by omega, fun j h => by omega⟩ (by repeat (first | exact .nil | refine .cons rfl ?_)) rfl (fun _ => rfl) (fun _ => ⟨by simp [AV.cells, aCo], by simp⟩) (fun k hI => ?_)
 obtain ⟨hk, hno⟩ := hI
 refine AWP.seq (sr fun _ => ?_)
 refine mv ?_
 refine mv ?_
 refine ρv U26 ?_
 refine ρ2 ?_
 refine ez ?_
 refine ρp (fun h1 => ?_) (fun h1 => ?_)
 · try simp [-List.getD_eq_getElem?_getD] at h1
   refine AWP.skip (thenA_n ?_)
   refine AWP.seq (AWP.block (sr fun _ => ?_))
   refine mv ?_
   refine mv ?_
   refine ρf U26 sz50 ?_
   refine ρ4 U50 sz9 ?_
   refine ρ7 U9 ?_
   refine ARun.lenStr rfl rfl rfl rfl U9 (ep rfl) optN ?_
   refine ρ2 ?_
   refine mv ?_
   refine ρg ?_
   refine ρg ?_
   refine ρu U26 sz50 ?_
   refine ρB U50 sz9 ?_
   refine ρ5 U9 ?_
   refine ARun.lenStr rfl rfl rfl rfl U9 (Ev.opt rfl (fun h => h)) optS ?_
   refine ρb ?_
   refine ρ3 ?_
   refine ez ?_
   refine ρp (fun h2 => ?_) (fun h2 => ?_)
   · refine sr fun _ => ?_
     refine mz ?_
     refine AWP.ret (blockA_r ?_)
     refine thenA_r (thenA_r ?_)
     refine blockA_r (thenA_r ?_)
     refine ρi ?_
     rw [fewO_no (by omega) h2]; rfl
   refine AWP.skip (blockA_n (thenA_n ?_))
   refine AWP.region (fun _ => ?_)
   refine mv ?_
   refine ρa ?_
   refine ma ?_
   refine ⟨_, _, rfl, hG, ?_⟩
   refine thenA_n ⟨rfl, k + 1, _, ?_, ?_, rfl, ?_⟩
   · refine ⟨by omega, fun j hj => ?_⟩
     by_cases e : j = k
     · subst e; exact h2
     exact hno j (by omega)
   · repeat (first | exact .nil | refine .cons rfl ?_)
   omega
 try simp [-List.getD_eq_getElem?_getD] at h1
 refine AWP.exit ?_
 refine thenA_x ?_
 refine thenA_x ?_
 refine blockA_h ?_
 refine thenA_n (sr fun _ => ?_)
 refine mz ?_
 refine AWP.ret ?_
 refine ρi ?_
 rw [fewO_yes (by omega) (fun j hj => hno j (by omega))]; rfl
theorem ofL_fn (l : List Co) (hl : l.length ≤ 1000) : FnP Tryz.prog 13 [.sl (l.map aCo)] (.sl (l.map aCo)) := by
 refine FnP.of Tryz.func13 rfl rfl (by simp) (noH_cos _ _) (fun G hG => ?_)
 have hN : NoH G.length (.sl (l.map aCo)) := (noH_cos _ _)
 refine sr fun _ => ?_
 refine mz (sr fun _ => ?_)
 refine ARun.nilOwn (e := 53) (z := 6) (j := 0) hG rfl ⟨.inl rfl, rfl⟩ (fun _ => rfl) rfl rfl rfl optN ?_
 refine ez ?_
 refine AWP.seq (sr fun _ => ?_)
 refine mz ?_
 refine AWP.block ?_
 refine AWP.rounds (fun st => st.1 ≤ l.length) (fun st => [(0, .sl (l.map aCo)), (3, .own (G.length + 0) st.2), (4, .int .i64 (st.1 : Int))]) (fun st => [.row st.2 53 6 ((l.take st.1).map aCo)]) (fun st => l.length - st.1) 1 ((0, 0) : Nat × Nat) (Nat.zero_le _) (by repeat (first | exact .nil | refine .cons rfl ?_)) rfl (fun _ => rfl) (fun _ => ⟨by simp [AV.cells, aCo], by simp [AO.conts, aCo, AV.cells]; intro y x1 hx1 hy; obtain ⟨o, _, rfl⟩ := List.mem_map.1 (List.mem_of_mem_take hx1); simp [aCo] at hy; rcases hy with rfl | rfl | rfl | rfl | rfl | rfl <;> simp⟩) (fun st hI => ?_)
 obtain ⟨k, g⟩ := st
 dsimp only at hI
 show AWP _ _ _ _ _ [(0, .sl (l.map aCo)), (3, .own (G.length + 0) g), (4, .int .i64 (k : Int))] _ [.row g 53 6 ((l.take k).map aCo)]
 refine AWP.seq (sr fun _ => ?_)
 refine mv ?_
 refine mv ?_
 refine ρv U26 ?_
 refine ρ2 ?_
 refine ez ?_
 refine ρp (fun h0 => ?_) (fun h0 => ?_)
 · try simp [-List.getD_eq_getElem?_getD] at h0
   refine AWP.skip (thenA_n ?_)
   refine AWP.seq (AWP.block (sr fun _ => ?_))
   refine mv ?_
   refine mv ?_
   refine ρf U26 sz50 ?_
   refine ρl U50 sz50 ?_
   refine ρo (j := 1) zv50 ?_
   refine ρ1 sz50 ?_
   refine ez ?_
   refine AWP.region (fun _ => ?_)
   refine mv ?_
   refine ρ6 (fo := 0) U50 sz3 ?_
   refine ρd U3 ?_
   refine ρ6 (fo := 1) U50 sz3 ?_
   refine ρd U3 ?_
   refine ρ6 (fo := 2) U50 sz9 ?_
   refine ρd U9 ?_
   refine ρ6 (fo := 3) U50 sz3 ?_
   refine ρd U3 ?_
   refine ρ6 (fo := 4) U50 sz3 ?_
   refine ρd U3 ?_
   refine ρ6 (fo := 5) U50 sz9 ?_
   refine ρd U9 ?_
   refine ARun.build rfl rfl rfl rfl so53 (.cons (ep rfl) (.cons (ep rfl) (.cons (ep rfl) (.cons (ep rfl) (.cons (ep rfl) (.cons (ep rfl) .nil)))))) rfl rfl optN ?_
   refine ρy U34 sz53 zv53 ?_
   refine ARun.appendL hG rfl rfl rfl rfl U34 ti53 rfl (by decide) (ep rfl) (ep rfl) rfl rfl (by simp [maxLen]; omega) (by simp; omega) (co_takeS l k (by omega)) optN rfl ?_
   refine ma ?_
   refine ⟨_, _, rfl, hG, ?_⟩
   refine blockA_n (thenA_n ?_)
   refine AWP.region (fun _ => ?_)
   refine mv ?_
   refine ρa ?_
   refine ma ?_
   refine ⟨_, _, rfl, hG, ?_⟩
   refine thenA_n ⟨rfl, (k + 1, g + 1), _, ?_, ?_, rfl, ?_⟩
   · dsimp only; omega
   · repeat (first | exact .nil | refine .cons rfl ?_)
   dsimp only; omega
 simp at h0
 obtain rfl : k = l.length := by omega
 rw [List.take_length]
 refine AWP.exit ?_
 refine thenA_x ?_
 refine thenA_x ?_
 refine blockA_h ?_
 refine thenA_n (AWP.seq ?_)
 refine AWP.frzOwn 3 hG rfl rfl (by decide) (by simp [maxLen]; omega) rfl ?_
 refine AWP.region (fun _ => ?_)
 refine mv ?_
 refine mz ?_
 refine AWP.ret ?_
 refine ρi ?_
 rfl
end Go.Proofs.YtcndnllmlhhjiaaGreatDoor
namespace Go.Proofs.YtcndnllmlhhjiaaGreatDoor.StockP
structure It where
 id : Int
 free : Int
 held : Int
 gone : Int
deriving DecidableEq
abbrev Ln := Go.Proofs.YtcndnllmlhhjiaaGreatDoor.Ln
def may (x : It) : Bool := decide (1 ≤ x.id ∧ x.id ≤ 99999 ∧ 0 ≤ x.free ∧ 0 ≤ x.held ∧ 0 ≤ x.gone ∧ x.free + x.held + x.gone ≤ 1000000)
def okFrom : Int → List It → Bool
 | _, [] => true
 | p, x :: l => may x && decide (p < x.id) && okFrom x.id l
def ok (l : List It) : Bool := decide (l.length ≤ 20) && okFrom 0 l
def find (l : List It) (id : Int) : Option It := l.find? fun x => x.id == id
def put (l : List It) (x : It) : List It := (l.takeWhile fun y => decide (y.id < x.id)) ++ x :: l.filter fun y => decide (x.id < y.id)
theorem okFrom_lt {p : Int} {l : List It} (h : okFrom p l = true) : ∀ x, x ∈ l → p < x.id := by
 induction l generalizing p with
 | nil => intro x hx; cases hx
 | cons y l ih =>
   simp only [okFrom, Bool.and_eq_true, decide_eq_true_eq] at h
   intro x hx
   cases hx with
   | head => exact h.1.2
   | tail _ hx => have := ih h.2 x hx; omega
theorem okFrom_may {p : Int} {l : List It} (h : okFrom p l = true) : ∀ x, x ∈ l → may x = true := by
 induction l generalizing p with
 | nil => intro x hx; cases hx
 | cons y l ih =>
   simp only [okFrom, Bool.and_eq_true, decide_eq_true_eq] at h
   intro x hx
   cases hx with
   | head => exact h.1.1
   | tail _ hx => exact ih h.2 x hx
def place (q : It → Bool) : List It → Nat
 | [] => 0
 | x :: l => if q x then 0 else place q l + 1
theorem place_cons (q : It → Bool) (x : It) (l : List It) : place q (x :: l) = if q x then 0 else place q l + 1 := rfl
theorem place_le (q : It → Bool) (l : List It) : place q l ≤ l.length := by
 induction l with
 | nil => exact Nat.le_refl _
 | cons x l ih => unfold place; split <;> simp; exact ih
theorem put_set {p : Int} {l : List It} (h : okFrom p l = true) (x : It) (hx : place (fun y => y.id == x.id) l < l.length) :
   put l x = l.set (place (fun y => y.id == x.id) l) x := by
 induction l generalizing p with
 | nil => simp at hx
 | cons y l ih =>
   simp only [okFrom, Bool.and_eq_true, decide_eq_true_eq] at h
   have hlt := okFrom_lt h.2
   rw [place_cons] at hx ⊢
   by_cases e : y.id = x.id
   · have e2 : (y.id == x.id) = true := by simpa using e
     simp only [e2, if_true]
     unfold put
     rw [List.takeWhile_cons_of_neg (by simp; omega), List.filter_cons_of_neg (by simp; omega)]
     rw [List.filter_eq_self.2 (by intro z hz; have := hlt z hz; simp; omega)]
     rfl
   · have e2 : (y.id == x.id) = false := by simpa using e
     simp only [e2, Bool.false_eq_true, if_false, List.length_cons] at hx ⊢
     have ih' := ih h.2 (by omega)
     have hyx : y.id < x.id := by
       have hpl : place (fun y => y.id == x.id) l < l.length := by omega
       have : ∃ z, z ∈ l ∧ z.id = x.id := by
         clear ih ih' hlt hx h
         induction l with
         | nil => simp at hpl
         | cons z l ih =>
           rw [place_cons] at hpl
           by_cases e3 : z.id = x.id
           · exact ⟨z, List.mem_cons_self, e3⟩
           · have e4 : (z.id == x.id) = false := by simpa using e3
             simp only [e4, Bool.false_eq_true, if_false, List.length_cons] at hpl
             obtain ⟨u, hu, hu2⟩ := ih (by omega)
             exact ⟨u, List.mem_cons_of_mem _ hu, hu2⟩
       obtain ⟨z, hz, hz2⟩ := this
       have := hlt z hz
       omega
     show put (y :: l) x = y :: l.set (place _ l) x
     rw [← ih']
     unfold put
     rw [List.takeWhile_cons_of_pos (by simpa using hyx), List.filter_cons_of_neg (by simp; omega)]
     rfl
theorem put_insert {p : Int} {l : List It} (h : okFrom p l = true) (x : It) (hx : ∀ y, y ∈ l → y.id ≠ x.id) :
   put l x = l.take (place (fun y => decide (x.id < y.id)) l) ++ x :: l.drop (place (fun y => decide (x.id < y.id)) l) := by
 induction l generalizing p with
 | nil => rfl
 | cons y l ih =>
   simp only [okFrom, Bool.and_eq_true, decide_eq_true_eq] at h
   have hlt := okFrom_lt h.2
   have hne := hx y List.mem_cons_self
   unfold place
   by_cases e : x.id < y.id
   · have e2 : decide (x.id < y.id) = true := by simpa using e
     simp only [e2, if_true]
     unfold put
     rw [List.takeWhile_cons_of_neg (by simp; omega), List.filter_eq_self.2]
     · rfl
     · intro z hz
       cases hz with
       | head => simpa using e
       | tail _ hz => have := hlt z hz; simp; omega
   · have e2 : decide (x.id < y.id) = false := by simpa using e
     simp only [e2, Bool.false_eq_true, if_false]
     rw [List.take_succ_cons, List.drop_succ_cons, List.cons_append, ← ih h.2 (fun z hz => hx z (List.mem_cons_of_mem _ hz))]
     unfold put
     rw [List.takeWhile_cons_of_pos (by simp; omega), List.filter_cons_of_neg (by simp; omega)]
     rfl
def idx (q : It → Bool) (l : List It) : Int := if place q l < l.length then (place q l : Int) else -1
theorem place_at (q : It → Bool) (l : List It) (h : place q l < l.length) : q l[place q l] = true := by
 induction l with
 | nil => simp at h
 | cons x l ih =>
   by_cases e : q x = true
   · have : place q (x :: l) = 0 := by rw [place_cons, if_pos e]
     simp only [this, List.getElem_cons_zero]; exact e
   · have e2 : place q (x :: l) = place q l + 1 := by rw [place_cons, if_neg e]
     simp only [e2, List.getElem_cons_succ]
     exact ih (by rw [e2] at h; simpa using h)
theorem find_place (id : Int) (l : List It) : find l id = if h : place (fun x => x.id == id) l < l.length then some l[place (fun x => x.id == id) l] else none := by
 induction l with
 | nil => rfl
 | cons x l ih =>
   unfold find at *
   by_cases e : (x.id == id) = true
   · have e2 : place (fun x => x.id == id) (x :: l) = 0 := by rw [place_cons, if_pos e]
     rw [List.find?_cons, e]
     simp [e2]
   · have e2 : place (fun x => x.id == id) (x :: l) = place (fun x => x.id == id) l + 1 := by rw [place_cons, if_neg e]
     have e3 : (x.id == id) = false := by simpa using e
     rw [List.find?_cons, e3]
     simp only [ih]
     by_cases h : place (fun x => x.id == id) l < l.length
     · rw [dif_pos h, dif_pos (by rw [e2]; simpa using h)]
       simp only [e2, List.getElem_cons_succ]
     · rw [dif_neg h, dif_neg (by rw [e2]; simpa using h)]
def findT (l : List It) (id : Int) : It × Bool := match find l id with | some x => (x, true) | none => (⟨0, 0, 0, 0⟩, false)
def askedB (l : List It) (q : Int) : Bool := ok l && decide (1 ≤ q ∧ q ≤ 1000000)
def withP (g : It → It × Int) (l : List It) (id q : Int) : List It × Int :=
 if askedB l q = true then
   if h : place (fun x => x.id == id) l < l.length then
     if (g l[place (fun x => x.id == id) l]).2 = 0 then (l.set (place (fun x => x.id == id) l) (g l[place (fun x => x.id == id) l]).1, 0) else ([], (g l[place (fun x => x.id == id) l]).2)
   else ([], 40)
 else ([], 2)
def lastId : Int → List It → Int
 | p, [] => p
 | _, x :: l => lastId x.id l
theorem okFrom_snoc (l : List It) (x : It) : ∀ p, okFrom p (l ++ [x]) = (okFrom p l && (may x && decide (lastId p l < x.id))) := by
 induction l with
 | nil => intro p; simp [okFrom, lastId]; rfl
 | cons y l ih => intro p; simp only [List.cons_append, okFrom, ih, lastId, Bool.and_assoc]; rfl
theorem okFrom_prefix (l m : List It) : ∀ p, okFrom p (l ++ m) = true → okFrom p l = true := by
 induction l with
 | nil => intro p _; rfl
 | cons y l ih =>
   intro p h
   simp only [List.cons_append, okFrom, Bool.and_eq_true] at h ⊢
   exact ⟨h.1, ih _ h.2⟩
theorem lastId_snoc (l : List It) (x : It) : ∀ p, lastId p (l ++ [x]) = x.id := by
 induction l with
 | nil => intro p; rfl
 | cons y l ih => intro p; exact ih y.id
theorem lastId_take (xs : List It) (k : Nat) (h1 : 1 ≤ k) (h2 : k ≤ xs.length) : lastId 0 (xs.take k) = (xs[k - 1]'(by omega)).id := by
 obtain ⟨j, rfl⟩ : ∃ j, k = j + 1 := ⟨k - 1, by omega⟩
 rw [List.take_succ_eq_append_getElem (by omega), lastId_snoc]
 rfl
theorem okFrom_cut {xs : List It} {k : Nat} (h : okFrom 0 (xs.take k) = false) : okFrom 0 xs = false := by
 cases h2 : okFrom 0 xs with
 | false => rfl
 | true =>
   rw [← List.take_append_drop k xs] at h2
   rw [okFrom_prefix _ _ _ h2] at h
   exact absurd h (by decide)
end Go.Proofs.YtcndnllmlhhjiaaGreatDoor.StockP
namespace Go.Proofs.YtcndnllmlhhjiaaGreatDoor.StockP
def lentE (b c : Int) : Int := if b < 0 ∨ c < 0 then 42 else 0
def holdG (n : Int) (x : It) : It × Int := (⟨x.id, x.free - n, x.held + n, x.gone⟩, lentE (x.free - n) (x.held + n))
def freeG (n : Int) (x : It) : It × Int := (⟨x.id, x.free + n, x.held - n, x.gone⟩, lentE (x.free + n) (x.held - n))
def shipG (n : Int) (x : It) : It × Int := (⟨x.id, x.free, x.held - n, x.gone + n⟩, lentE x.free (x.held - n))
def outG (n : Int) (x : It) : It × Int := (⟨x.id, x.free - n, x.held, x.gone⟩, lentE (x.free - n) x.held)
def inG (n : Int) (x : It) : It × Int := if may ⟨x.id, x.free + n, x.held, x.gone⟩ = true then (⟨x.id, x.free + n, x.held, x.gone⟩, 0) else (⟨0, 0, 0, 0⟩, 43)
theorem may_bd {x : It} (h : may x = true) : 1 ≤ x.id ∧ x.id ≤ 99999 ∧ 0 ≤ x.free ∧ x.free ≤ 1000000 ∧ 0 ≤ x.held ∧ x.held ≤ 1000000 ∧ 0 ≤ x.gone ∧ x.gone ≤ 1000000 := by
 unfold may at h; simp at h; omega
theorem askedB_ok {l : List It} {q : Int} (h : askedB l q = true) : ok l = true ∧ 1 ≤ q ∧ q ≤ 1000000 := by
 unfold askedB at h; simp at h; exact h
theorem ok_may {l : List It} (h : ok l = true) : ∀ x, x ∈ l → may x = true := by
 unfold ok at h; simp at h; exact okFrom_may h.2
theorem ok_len {l : List It} (h : ok l = true) : l.length ≤ 20 := by unfold ok at h; simp at h; exact h.1
theorem ok_from {l : List It} (h : ok l = true) : okFrom 0 l = true := by unfold ok at h; simp at h; exact h.2
def itemP (l : List It) (id q : Int) : It × Int := if askedB l q = true then ((findT l id).1, if (findT l id).2 = true then 0 else 40) else (⟨0, 0, 0, 0⟩, 2)
theorem findT_place (l : List It) (id : Int) : findT l id = if h : place (fun x => x.id == id) l < l.length then (l[place (fun x => x.id == id) l], true) else (⟨0, 0, 0, 0⟩, false) := by
 unfold findT; rw [find_place]
 by_cases h : place (fun x => x.id == id) l < l.length
 · rw [dif_pos h, dif_pos h]
 · rw [dif_neg h, dif_neg h]
theorem takeWhile_take (p : It → Bool) (l : List It) (k : Nat) (h1 : ∀ j, (hj : j < l.length) → j < k → p l[j] = true) (hk : k ≤ l.length) (h2 : ∀ h : k < l.length, p l[k] = false) : l.takeWhile p = l.take k := by
 induction l generalizing k with
 | nil => simp
 | cons x l ih =>
   cases k with
   | zero =>
     have := h2 (by simp)
     rw [List.takeWhile_cons_of_neg (by simpa using this)]; rfl
   | succ k =>
     have h0 := h1 0 (by simp) (by omega)
     rw [List.takeWhile_cons_of_pos (by simpa using h0), List.take_succ_cons]
     rw [ih k (fun j hj hjk => by have := h1 (j + 1) (by simpa using hj) (by omega); simpa using this) (by simpa using hk) (fun h => by have := h2 (by simpa using h); simpa using this)]
end Go.Proofs.YtcndnllmlhhjiaaGreatDoor.StockP
namespace Go.Proofs.YtcndnllmlhhjiaaGreatDoor.Stk
open Go.RowKit
open StockP
def aIt (s : It) : AV := .agg [.int .i64 s.id, .int .i64 s.free, .int .i64 s.held, .int .i64 s.gone]
instance : Inhabited It := ⟨⟨0, 0, 0, 0⟩⟩
theorem It_idx {l : List It} {k : Nat} (h : k < l.length) : l.getD k default = l[k] := by simp [List.getD, h]

def okE (l : List It) : Int := if ok l = true then 0 else 2
theorem step_ok (l : List It) (k : Nat) (hk : k < l.length) : okFrom 0 (l.take (k + 1)) = (okFrom 0 (l.take k) && (may (l.getD k default) && decide (lastId 0 (l.take k) < (l.getD k default).id))) := by
 rw [It_idx hk, show l.take (k + 1) = l.take k ++ [l[k]] by simp]; exact okFrom_snoc _ _ _
theorem last_of (l : List It) (k : Nat) (hk : k ≤ l.length) : lastId 0 (l.take k) = if 0 < k then (l.getD (k - 1) default).id else 0 := by
 by_cases h : 0 < k
 · rw [if_pos h, lastId_take l k h hk, It_idx (by omega)]
 obtain rfl : k = 0 := by omega
 rfl
theorem okE_bad {l : List It} {k : Nat} (h : okFrom 0 (l.take (k + 1)) = false) : okE l = 2 := by
 unfold okE ok; rw [okFrom_cut h]; simp
theorem okE_big {l : List It} (h : 20 < l.length) : okE l = 2 := by
 unfold okE ok; rw [decide_eq_false (by omega)]; simp
theorem okE_good {l : List It} (h : l.length ≤ 20) (h2 : okFrom 0 l = true) : okE l = 0 := by
 unfold okE ok; rw [decide_eq_true h, h2]; simp
theorem chk_bad {l : List It} {k : Nat} (hk : k < l.length) (h : may (l.getD k default) = false ∨ 0 < k ∧ (l.getD k default).id ≤ (l.getD (k - 1) default).id) : okE l = 2 := by
 refine okE_bad (k := k) ?_
 rw [step_ok l k hk, last_of l k (by omega)]
 rcases h with h | ⟨h, h2⟩
 · rw [h]; simp
 rw [if_pos h, decide_eq_false (by omega)]; simp
theorem may_iff {x : It} : may x = true ↔ 1 ≤ x.id ∧ x.id ≤ 99999 ∧ 0 ≤ x.free ∧ 0 ≤ x.held ∧ 0 ≤ x.gone ∧ x.free + x.held + x.gone ≤ 1000000 := by
 unfold may; simp
theorem may_no {x : It} (h : ¬ (1 ≤ x.id ∧ x.id ≤ 99999 ∧ 0 ≤ x.free ∧ 0 ≤ x.held ∧ 0 ≤ x.gone ∧ x.free + x.held + x.gone ≤ 1000000)) : may x = false := by
 unfold may; exact decide_eq_false h
theorem chk_go {l : List It} {k : Nat} (hk : k < l.length) (hok : okFrom 0 (l.take k) = true) (h : may (l.getD k default) = true ∧ (0 < k → (l.getD (k - 1) default).id < (l.getD k default).id)) : okFrom 0 (l.take (k + 1)) = true := by
 rw [step_ok l k hk, last_of l k (by omega), hok, h.1]
 have h1 := (may_iff.1 h.1).1
 by_cases hk0 : 0 < k
 · rw [if_pos hk0, decide_eq_true (h.2 hk0)]; rfl
 rw [if_neg hk0, decide_eq_true (by omega)]; rfl
theorem okE_ok {l : List It} : okE l = 0 ↔ ok l = true := by unfold okE; split <;> simp_all
theorem idxOf_cons {α : Type} (p : α → Bool) (x : α) (l : List α) : idxOf p (x :: l) = if p x = true then 0 else if 0 ≤ idxOf p l then idxOf p l + 1 else -1 := by
 unfold idxOf
 rw [List.findIdx?_cons]
 by_cases h : p x = true
 · simp [h]
 rw [if_neg h, if_neg h]
 cases l.findIdx? p with
 | none => simp
 | some i => simp
theorem idxOf_idx (q : It → Bool) (l : List It) : idxOf q l = idx q l := by
 induction l with
 | nil => simp [idxOf, idx, place]
 | cons x l ih =>
   rw [idxOf_cons, ih]
   unfold idx
   rw [place_cons]
   by_cases h : q x = true
   · simp [h]
   rw [if_neg h, if_neg h]
   by_cases h2 : place q l < l.length
   · rw [if_pos h2, if_pos (by omega), if_pos (by simp; omega)]; simp
   rw [if_neg h2, if_neg (by omega), if_neg (by simp; omega)]
theorem idx_neg {q : It → Bool} {l : List It} : idx q l < 0 ↔ ¬ place q l < l.length := by
 unfold idx; split <;> simp_all
theorem idx_pos {q : It → Bool} {l : List It} (h : ¬ idx q l < 0) : place q l < l.length ∧ idx q l = (place q l : Int) := by
 have h2 : place q l < l.length := by
   rw [idx_neg] at h; simpa using h
 exact ⟨h2, by unfold idx; rw [if_pos h2]⟩
theorem find_no {l : List It} {id : Int} (h : idx (fun x => x.id == id) l < 0) : findT l id = (default, false) := by
 rw [findT_place, dif_neg (idx_neg.1 h)]; rfl
theorem find_yes {l : List It} {id : Int} (h : ¬ idx (fun x => x.id == id) l < 0) : findT l id = (l.getD (idx (fun x => x.id == id) l).toNat default, true) := by
 obtain ⟨h1, h2⟩ := idx_pos h
 rw [findT_place, dif_pos h1, h2, Int.toNat_natCast, It_idx h1]
theorem asked_bd {l : List It} {q : Int} (h : askedB l q = true) : 1 ≤ q ∧ q ≤ 1000000 ∧ l.length ≤ 20 := ⟨(askedB_ok h).2.1, (askedB_ok h).2.2, ok_len (askedB_ok h).1⟩
theorem may_fn (x : It) : FnP Tryz.prog 104 [aIt x] (.bool (may x)) := by
 refine FnP.of Tryz.func104 rfl rfl (by simp) (by simp [AV.cells, aIt]) (fun G hG => ?_)
 have hN : NoH G.length (.bool (may x)) := (by simp [AV.cells, aIt])
 refine sr fun _ => ?_
 refine ARun.box (j := 0) hG rfl rfl rfl rfl rfl (ep rfl) rfl rfl optN ?_
 refine mz ?_
 refine AWP.seq (sr fun _ => ?_)
 refine ρ6 (fo := 0) U108 sz3 ?_
 refine ρd U3 ?_
 refine ρ2 ?_
 refine mv ?_
 refine ρx (fo := 0) U108 sz3 ?_
 refine ρw U3 ?_
 refine ρb ?_
 refine ρ3 ?_
 refine mv ?_
 refine ρx (fo := 1) U108 sz3 ?_
 refine ρw U3 ?_
 refine ρx (fo := 2) U108 sz3 ?_
 refine ρw U3 ?_
 refine ρx (fo := 3) U108 sz3 ?_
 refine ρw U3 ?_
 refine ARun.minmax3 rfl rfl rfl rfl (Ev.opt rfl (fun h => h)) (Ev.opt rfl (fun h => h)) (Ev.opt rfl (fun h => h)) (.inl ⟨rfl, rfl⟩) optS ?_
 refine ρb ?_
 refine ρ3 ?_
 refine mv ?_
 refine ρx (fo := 1) U108 sz3 ?_
 refine ρw U3 ?_
 refine ρx (fo := 2) U108 sz3 ?_
 refine ρw U3 ?_
 refine ρx (fo := 3) U108 sz3 ?_
 refine ρw U3 ?_
 refine ARun.minmax3 rfl rfl rfl rfl (Ev.opt rfl (fun h => h)) (Ev.opt rfl (fun h => h)) (Ev.opt rfl (fun h => h)) (.inr ⟨rfl, rfl⟩) optS ?_
 refine ρb ?_
 refine ρ3 ?_
 refine ez ?_
 refine ρp (fun h0 => ?_) (fun h0 => ?_)
 · simp at h0
   refine sr fun _ => ?_
   refine mz ?_
   refine AWP.ret (thenA_r ?_)
   refine ρi ?_
   rw [may_no (by omega)]; rfl
 simp at h0
 refine AWP.skip (thenA_n (sr fun _ => ?_))
 refine ρ6 (fo := 1) U108 sz3 ?_
 refine ρd U3 ?_
 refine ρ6 (fo := 2) U108 sz3 ?_
 refine ρd U3 ?_
 refine ρa ?_
 refine ρ6 (fo := 3) U108 sz3 ?_
 refine ρd U3 ?_
 refine ρa ?_
 refine ρ2 ?_
 refine mz ?_
 refine AWP.ret ?_
 refine ρi ?_
 rw [show may x = decide (x.free + x.held + x.gone ≤ 1000000) from by unfold may; by_cases e : x.free + x.held + x.gone ≤ 1000000 <;> simp [e] <;> omega]
theorem check_fn (l : List It) : FnP Tryz.prog 65 [.sl (l.map aIt)] (.int .i64 (okE l)) := by
 refine FnP.of Tryz.func65 rfl rfl (by simp) (by simp [AV.cells, aIt]) (fun G hG => ?_)
 have hN : NoH G.length (.int .i64 (okE l)) := (by simp [AV.cells, aIt])
 refine sr fun _ => ?_
 refine mz ?_
 refine AWP.seq (sr fun _ => ?_)
 refine mv ?_
 refine ρv U22 ?_
 refine ρ2 ?_
 refine ez ?_
 refine ρp (fun h0 => ?_) (fun h0 => ?_)
 · simp [-List.getD_eq_getElem?_getD] at h0
   refine sr fun _ => ?_
   refine mz ?_
   refine AWP.ret (thenA_r ?_)
   refine ρi ?_
   rw [okE_big (by omega)]; rfl
 simp [-List.getD_eq_getElem?_getD] at h0
 refine AWP.skip (thenA_n (AWP.seq (sr fun _ => ?_)))
 refine mv ?_
 refine ρv U22 ?_
 refine mv ?_
 refine ez ?_
 refine AWP.block ?_
 refine AWP.rounds (fun k => k ≤ l.length ∧ okFrom 0 (l.take k) = true) (fun k => [(0, .sl (l.map aIt)), (8, .sl (l.map aIt)), (9, .int .i64 ((l.map aIt).length : Int)), (10, .int .i64 (k : Int))]) (fun k => []) (fun k => l.length - k) 0 0 ⟨by omega, rfl⟩ (by repeat (first | exact .nil | refine .cons rfl ?_)) rfl (fun _ => rfl) (fun _ => (by simp [AO.conts, AV.cells, aIt])) (fun k hI => ?_)
 obtain ⟨hk, hok⟩ := hI
 refine sr fun _ => ?_
 refine ρ2 ?_
 refine ez ?_
 refine AWP.seq ?_
 refine ρp (fun h1 => ?_) (fun h1 => ?_)
 · simp [-List.getD_eq_getElem?_getD] at h1
   refine AWP.skip (thenA_n ?_)
   refine AWP.seq (AWP.block (sr fun _ => ?_))
   refine mv ?_
   refine ρf U22 sz108 ?_
   refine ρl U108 sz108 ?_
   refine ρo (j := 0) zv108 ?_
   refine ma ?_
   refine ρ1 sz108 ?_
   refine ez ?_
   refine AWP.seq ?_
   refine ρE mixed (fun _ => ?_)
   refine ρn U108 sz108 ?_
   refine ρm cf104 (fun hg => may_fn _) ?_
   refine ρC ?_
   refine mv ?_
   refine ρg ?_
   refine ρb ?_
   refine ARun.move (.inl rfl) rfl rfl rfl (Ev.opt rfl (fun h => h)) optS ?_
   refine ρx (fo := 0) U108 sz3 ?_
   refine ρw U3 ?_
   refine ρg ?_
   refine ρg ?_
   refine ARun.arith rfl rfl rfl rfl (Ev.opt rfl (fun h => h)) (ep rfl) rfl (fun hg => i64w (by (try simp at hg); omega)) optS ?_
   refine ρq U22 sz108 ?_
   refine ρB U108 sz3 ?_
   refine ρ5 U3 ?_
   refine ρs ?_
   refine ρD ?_
   refine ρ3 ?_
   refine ⟨by kernel_rfl, _, _, rfl, hG, ?_⟩
   refine thenA_n ?_
   refine ρp (fun h2 => ?_) (fun h2 => ?_)
   · simp [-List.getD_eq_getElem?_getD] at h2
     refine sr fun _ => ?_
     refine mz ?_
     refine AWP.ret (blockA_r ?_)
     refine thenA_r (thenA_r ?_)
     refine blockA_r (thenA_r ?_)
     refine ρi ?_
     rw [chk_bad h1 h2]; rfl
   simp [-List.getD_eq_getElem?_getD] at h2
   refine AWP.skip (blockA_n (thenA_n ?_))
   refine AWP.region (fun _ => ?_)
   refine ρa ?_
   refine mv ?_
   refine ⟨_, _, rfl, hG, ?_⟩
   refine thenA_n ⟨rfl, k + 1, _, ?_, ?_, rfl, ?_⟩
   · exact ⟨by omega, chk_go h1 hok h2⟩
   · repeat (first | exact .nil | refine .cons rfl ?_)
   omega
 simp [-List.getD_eq_getElem?_getD] at h1
 refine AWP.exit ?_
 refine thenA_x ?_
 refine thenA_x ?_
 refine blockA_h ?_
 refine thenA_n (sr fun _ => ?_)
 refine mz ?_
 refine AWP.ret ?_
 refine ρi ?_
 rw [okE_good (by omega) (by rw [← List.take_of_length_le h1]; exact hok)]; rfl
theorem asked_fn (l : List It) (q : Int) : FnP Tryz.prog 167 [.sl (l.map aIt), .int .i64 q] (.bool (askedB l q)) := by
 refine FnP.of Tryz.func167 rfl rfl (by simp) (by simp [AV.cells, aIt]) (fun G hG => ?_)
 have hN : NoH G.length (.bool (askedB l q)) := (by simp [AV.cells, aIt])
 refine sr fun _ => ?_
 refine mz (sr fun _ => ?_)
 refine mv ?_
 refine ρm cf65 (fun hg => check_fn l) ?_
 refine ρ2 ?_
 refine mv ?_
 refine ρg ?_
 refine ρb ?_
 refine ρ0 ?_
 refine mv ?_
 refine ρg ?_
 refine ρb ?_
 refine ρ0 ?_
 refine mz ?_
 refine AWP.ret ?_
 refine ρi ?_
 simp [askedB, okE_ok, Bool.decide_and, Bool.and_assoc]
theorem indexIt (F : Nat) (fs cs : List AV) (p : It → Bool) (l : List It) (hl : l.length ≤ 9223372036854775807) (hcf : ∀ (vs : Array Value) (W : World), (callFunc F vs).run Tryz.prog W = .ok (.enter F vs) W) (hn : (∀ x, x ∈ fs → NoH 0 x) ∧ ∀ x, x ∈ cs → NoH 0 x) (hp : ∀ x, x ∈ l → FnP Tryz.prog F (fs ++ [aIt x] ++ cs) (.bool (p x))) : FnP Tryz.prog 174 [.sl (l.map aIt), .fn (.func F) fs cs] (.int .i64 (idxOf p l)) := by
 refine FnP.of Tryz.func174 rfl rfl (by simp) (by simp [AV.cells, aIt]) (fun G hG => ?_)
 have hN : NoH G.length (.int .i64 (idxOf p l)) := (by simp [AV.cells, aIt])
 refine sr fun _ => ?_
 refine mz ?_
 refine AWP.seq (sr fun _ => ?_)
 refine mv ?_
 refine ρv U22 ?_
 refine mv ?_
 refine ez ?_
 refine AWP.block ?_
 refine AWP.rounds (fun k => k ≤ l.length ∧ ∀ j, j < k → p (l.getD j default) = false) (fun k => [(0, .sl (l.map aIt)), (1, .fn (.func F) fs cs), (7, .int .i64 ((l.map aIt).length : Int)), (8, .int .i64 (k : Int))]) (fun k => []) (fun k => l.length - k) 0 0 ⟨by omega, fun j h => by omega⟩ (by repeat (first | exact .nil | refine .cons rfl ?_)) rfl (fun _ => rfl) (fun _ => ⟨by simp [AV.cells, aIt]; exact ⟨fun x hx => (hn.1 x hx).mono (by omega), fun x hx => (hn.2 x hx).mono (by omega)⟩, by simp⟩) (fun k hI => ?_)
 obtain ⟨hk, hno⟩ := hI
 refine sr fun _ => ?_
 refine ρ2 ?_
 refine ez ?_
 refine AWP.seq ?_
 refine ρp (fun h0 => ?_) (fun h0 => ?_)
 · try simp [-List.getD_eq_getElem?_getD] at h0
   refine AWP.skip (thenA_n ?_)
   refine AWP.seq (AWP.block (sr fun _ => ?_))
   refine mv ?_
   refine mz (sr fun _ => ?_)
   refine mv ?_
   refine mv ?_
   refine mv ?_
   refine ρf U22 sz108 ?_
   refine ρl U108 sz108 ?_
   refine ρA hcf ?_ (hF := fun hg => hp _ (by rw [List.getD, List.getElem?_eq_getElem h0]; exact List.getElem_mem h0))
   refine ez ?_
   refine ρp (fun h1 => ?_) (fun h1 => ?_)
   · try simp [-List.getD_eq_getElem?_getD] at h1
     refine sr fun _ => ?_
     refine mv ?_
     refine mz ?_
     refine AWP.ret (blockA_r ?_)
     refine thenA_r (thenA_r ?_)
     refine blockA_r (thenA_r ?_)
     refine ρi ?_
     rw [idx_hit h0 hno h1]
   try simp [-List.getD_eq_getElem?_getD] at h1
   refine AWP.skip (blockA_n (thenA_n ?_))
   refine AWP.region (fun _ => ?_)
   refine ρa ?_
   refine mv ?_
   refine ⟨_, _, rfl, hG, ?_⟩
   refine thenA_n ⟨rfl, k + 1, _, ?_, ?_, rfl, ?_⟩
   · refine ⟨by omega, fun j hj => ?_⟩
     by_cases e : j = k
     · subst e; exact h1
     exact hno j (by omega)
   · repeat (first | exact .nil | refine .cons rfl ?_)
   omega
 try simp [-List.getD_eq_getElem?_getD] at h0
 refine AWP.exit ?_
 refine thenA_x ?_
 refine thenA_x ?_
 refine blockA_h ?_
 refine thenA_n (sr fun _ => ?_)
 refine mz ?_
 refine AWP.ret ?_
 refine ρi ?_
 rw [idx_none (fun j hj => hno j (by omega))]; rfl

theorem atf_fn (x : It) (id : Int) : FnP Tryz.prog 183 [aIt x, .pe [.int .i64 id]] (.bool (x.id == id)) := by
 refine FnP.of Tryz.func183 rfl rfl (by simp) (by simp [AV.cells, aIt]) (fun G hG => ?_)
 have hN : NoH G.length (.bool (x.id == id)) := (by simp [AV.cells, aIt])
 refine sr fun _ => ?_
 refine ARun.box (j := 0) hG rfl rfl rfl rfl rfl (ep rfl) rfl rfl optN ?_
 refine mz (sr fun _ => ?_)
 refine ρn U108 sz108 ?_
 refine ρ7 U3 ?_
 refine ρ6 (fo := 1) U108 sz3 ?_
 refine ρd U3 ?_
 refine ρ6 (fo := 2) U108 sz3 ?_
 refine ρd U3 ?_
 refine ρ6 (fo := 3) U108 sz3 ?_
 refine ρd U3 ?_
 refine ARun.build rfl rfl rfl rfl so108 (.cons (ep rfl) (.cons (ep rfl) (.cons (ep rfl) (.cons (ep rfl) .nil)))) rfl rfl optN ?_
 refine ARun.eqAgg rfl rfl rfl rfl eq108 (ep rfl) (ep rfl) rfl (.inl ⟨rfl, rfl⟩) optN ?_
 refine mz ?_
 refine AWP.ret ?_
 refine ρi ?_
 simp [BEq.beq]
theorem at_fn (l : List It) (id : Int) (hl : l.length ≤ 9223372036854775807) : FnP Tryz.prog 168 [.sl (l.map aIt), .int .i64 id] (.int .i64 (idx (fun x => x.id == id) l)) := by
 refine FnP.of Tryz.func168 rfl rfl (by simp) (by simp [AV.cells, aIt]) (fun G hG => ?_)
 have hN : NoH G.length (.int .i64 (idx (fun x => x.id == id) l)) := (by simp [AV.cells, aIt])
 refine sr fun _ => ?_
 refine ARun.box1 (j := 0) hG rfl rfl rfl rfl rfl (ep rfl) (by first | rfl | exact aEr_one _ | exact aFl_one _) optN ?_
 refine mz ?_
 refine AWP.seq ?_
 refine AWP.frzBox 3 hG rfl rfl rfl ?_
 refine AWP.region (fun _ => ?_)
 refine mv ?_
 refine ARun.makeFunc rfl rfl rfl rfl .nil (.cons (ep rfl) .nil) optN ?_
 refine ρk cf174 ?_ (hF := fun hg => indexIt 183 [] [.pe [.int .i64 id]] (fun x => x.id == id) l hl cf183 (by simp) (fun x _ => atf_fn x id))
 refine mz ?_
 refine AWP.ret ?_
 refine ρi ?_
 rw [← idxOf_idx]
theorem find_fn (l : List It) (id : Int) (hl : l.length ≤ 9223372036854775807) : FnP Tryz.prog 151 [.sl (l.map aIt), .int .i64 id] (.tup [aIt (findT l id).1, .bool (findT l id).2]) := by
 have hp := fun h => idx_pos (q := fun x : It => x.id == id) (l := l) h
 refine FnP.of Tryz.func151 rfl rfl (by simp) (by simp [AV.cells, aIt]) (fun G hG => ?_)
 have hN : NoH G.length (.tup [aIt (findT l id).1, .bool (findT l id).2]) := (by simp [AV.cells, aIt])
 refine sr fun _ => ?_
 refine ρo (j := 0) zv108 ?_
 refine mz (sr fun _ => ?_)
 refine mv ?_
 refine mv ?_
 refine ρh cf168 (fun hg => at_fn l id hl) ?_
 refine mz ?_
 refine AWP.seq (sr fun _ => ?_)
 refine mv ?_
 refine ρ2 ?_
 refine ez ?_
 refine ρp (fun h0 => ?_) (fun h0 => ?_)
 · try simp at h0
   refine sr fun _ => ?_
   refine ARun.build rfl rfl rfl rfl so108 .nil rfl rfl optN ?_
   refine ρ1 sz108 ?_
   refine mz ?_
   refine AWP.ret (thenA_r ?_)
   refine ρj (rs := [.cell 4 108, .tmp 5]) (.cons (.cellA rfl ((hG.at _ _).trans rfl) U108 rfl sz108 rfl rfl) (.cons (.tmp rfl) .nil)) ?_
   rw [find_no h0]; rfl
 try simp at h0
 refine AWP.skip (thenA_n (sr fun _ => ?_))
 refine mv ?_
 refine mv ?_
 refine ρ8 U22 sz108 ?_
 refine ρl U108 sz108 ?_
 refine ρ1 sz108 ?_
 refine mz ?_
 refine AWP.ret ?_
 refine ρj (rs := [.cell 4 108, .tmp 5]) (.cons (.cellA rfl ((hG.at _ _).trans rfl) U108 rfl sz108 rfl rfl) (.cons (.tmp rfl) .nil)) ?_
 rw [find_yes (by omega)]; rfl
theorem lent_fn (x : It) : FnP Tryz.prog 184 [aIt x] (.int .i64 (lentE x.free x.held)) := by
 refine FnP.of Tryz.func184 rfl rfl (by simp) (by simp [AV.cells, aIt]) (fun G hG => ?_)
 have hN : NoH G.length (.int .i64 (lentE x.free x.held)) := (by simp [AV.cells, aIt])
 refine sr fun _ => ?_
 refine ARun.box (j := 0) hG rfl rfl rfl rfl rfl (ep rfl) rfl rfl optN ?_
 refine mz ?_
 refine AWP.seq (sr fun _ => ?_)
 refine ρ6 (fo := 1) U108 sz3 ?_
 refine ρd U3 ?_
 refine ρ6 (fo := 2) U108 sz3 ?_
 refine ρd U3 ?_
 refine ARun.minmax rfl rfl rfl rfl (ep rfl) (ep rfl) (.inl ⟨rfl, rfl⟩) optN ?_
 refine ρ2 ?_
 refine ez ?_
 refine ρp (fun h0 => ?_) (fun h0 => ?_)
 · simp at h0
   refine sr fun _ => ?_
   refine mz ?_
   refine AWP.ret (thenA_r ?_)
   refine ρi ?_
   unfold lentE; rw [if_pos (by omega)]; rfl
 simp at h0
 refine AWP.skip (thenA_n (sr fun _ => ?_))
 refine mz ?_
 refine AWP.ret ?_
 refine ρi ?_
 unfold lentE; rw [if_neg (by omega)]; rfl
theorem inA_fn (n : Int) (x : It) (hx : may x = true) (hn : 1 ≤ n ∧ n ≤ 1000000) : FnP Tryz.prog 171 [.int .i64 n, aIt x] (.tup [aIt (inG n x).1, .int .i64 (inG n x).2]) := by
 have hb := may_bd hx
 refine FnP.of Tryz.func171 rfl rfl (by simp) (by simp [AV.cells, aIt]) (fun G hG => ?_)
 have hN : NoH G.length (.tup [aIt (inG n x).1, .int .i64 (inG n x).2]) := (by simp [AV.cells, aIt])
 refine sr fun _ => ?_
 refine ARun.box (j := 0) hG rfl rfl rfl rfl rfl (ep rfl) rfl rfl optN ?_
 refine ρo (j := 1) zv108 ?_
 refine mz (sr fun _ => ?_)
 refine ρ6 (fo := 1) U108 sz3 ?_
 refine ρd U3 ?_
 refine mv ?_
 refine ρa ?_
 refine ρ6 (fo := 1) U108 sz3 ?_
 refine ρt sz3 ?_
 refine ez ?_
 refine AWP.seq (sr fun _ => ?_)
 refine ρn U108 sz108 ?_
 refine ρm cf104 (fun hg => may_fn ⟨x.id, x.free + n, x.held, x.gone⟩) ?_
 refine ρC ?_
 refine ez ?_
 refine ρp (fun h0 => ?_) (fun h0 => ?_)
 · simp at h0
   refine sr fun _ => ?_
   refine ARun.build rfl rfl rfl rfl so108 .nil rfl rfl optN ?_
   refine ρ1 sz108 ?_
   refine mz ?_
   refine AWP.ret (thenA_r ?_)
   refine ρj (rs := [.cell 4 108, .tmp 5]) (.cons (.cellA rfl ((hG.at _ _).trans rfl) U108 rfl sz108 rfl rfl) (.cons (.tmp rfl) .nil)) ?_
   unfold inG; rw [if_neg (by simp [h0])]; rfl
 simp at h0
 refine AWP.skip (thenA_n (sr fun _ => ?_))
 refine ρn U108 sz108 ?_
 refine ρ1 sz108 ?_
 refine mz ?_
 refine AWP.ret ?_
 refine ρj (rs := [.cell 4 108, .tmp 5]) (.cons (.cellA rfl ((hG.at _ _).trans rfl) U108 rfl sz108 rfl rfl) (.cons (.tmp rfl) .nil)) ?_
 unfold inG; rw [if_pos h0]; rfl
theorem outA_fn (n : Int) (x : It) (hx : may x = true) (hn : 1 ≤ n ∧ n ≤ 1000000) : FnP Tryz.prog 170 [.int .i64 n, aIt x] (.tup [aIt (outG n x).1, .int .i64 (outG n x).2]) := by
 have hb := may_bd hx
 refine FnP.of Tryz.func170 rfl rfl (by simp) (by simp [AV.cells, aIt]) (fun G hG => ?_)
 have hN : NoH G.length (.tup [aIt (outG n x).1, .int .i64 (outG n x).2]) := (by simp [AV.cells, aIt])
 refine sr fun _ => ?_
 refine ARun.box (j := 0) hG rfl rfl rfl rfl rfl (ep rfl) rfl rfl optN ?_
 refine ρo (j := 1) zv108 ?_
 refine mz (sr fun _ => ?_)
 refine ρ6 (fo := 1) U108 sz3 ?_
 refine ρd U3 ?_
 refine mv ?_
 refine ρa ?_
 refine ρ6 (fo := 1) U108 sz3 ?_
 refine ρt sz3 ?_
 refine ez ?_
 refine AWP.seq ?_
 refine ρE mixed (fun _ => ?_)
 refine ρn U108 sz108 ?_
 refine ρn U108 sz108 ?_
 refine ρm cf184 (fun hg => lent_fn ⟨x.id, x.free - n, x.held, x.gone⟩) ?_
 refine ρ1 sz108 ?_
 refine ma ?_
 refine ⟨by kernel_rfl, _, _, rfl, hG, ?_⟩
 refine thenA_n (AWP.ret ?_)
 refine ρj (rs := [.cell 4 108, .tmp 5]) (.cons (.cellA rfl ((hG.at _ _).trans rfl) U108 rfl sz108 rfl rfl) (.cons (.tmp rfl) .nil)) ?_
 rfl
theorem holdA_fn (n : Int) (x : It) (hx : may x = true) (hn : 1 ≤ n ∧ n ≤ 1000000) : FnP Tryz.prog 177 [.int .i64 n, aIt x] (.tup [aIt (holdG n x).1, .int .i64 (holdG n x).2]) := by
 have hb := may_bd hx
 refine FnP.of Tryz.func177 rfl rfl (by simp) (by simp [AV.cells, aIt]) (fun G hG => ?_)
 have hN : NoH G.length (.tup [aIt (holdG n x).1, .int .i64 (holdG n x).2]) := (by simp [AV.cells, aIt])
 refine sr fun _ => ?_
 refine ARun.box (j := 0) hG rfl rfl rfl rfl rfl (ep rfl) rfl rfl optN ?_
 refine ρo (j := 1) zv108 ?_
 refine mz (sr fun _ => ?_)
 refine ρ6 (fo := 1) U108 sz3 ?_
 refine ρd U3 ?_
 refine mv ?_
 refine ρa ?_
 refine ρ6 (fo := 2) U108 sz3 ?_
 refine ρd U3 ?_
 refine mv ?_
 refine ρa ?_
 refine ρ6 (fo := 1) U108 sz3 ?_
 refine ρt sz3 ?_
 refine ρ6 (fo := 2) U108 sz3 ?_
 refine ρt sz3 ?_
 refine ez ?_
 refine AWP.seq ?_
 refine ρE mixed (fun _ => ?_)
 refine ρn U108 sz108 ?_
 refine ρn U108 sz108 ?_
 refine ρm cf184 (fun hg => lent_fn ⟨x.id, x.free - n, x.held + n, x.gone⟩) ?_
 refine ρ1 sz108 ?_
 refine ma ?_
 refine ⟨by kernel_rfl, _, _, rfl, hG, ?_⟩
 refine thenA_n (AWP.ret ?_)
 refine ρj (rs := [.cell 4 108, .tmp 5]) (.cons (.cellA rfl ((hG.at _ _).trans rfl) U108 rfl sz108 rfl rfl) (.cons (.tmp rfl) .nil)) ?_
 rfl
theorem freeA_fn (n : Int) (x : It) (hx : may x = true) (hn : 1 ≤ n ∧ n ≤ 1000000) : FnP Tryz.prog 178 [.int .i64 n, aIt x] (.tup [aIt (freeG n x).1, .int .i64 (freeG n x).2]) := by
 have hb := may_bd hx
 refine FnP.of Tryz.func178 rfl rfl (by simp) (by simp [AV.cells, aIt]) (fun G hG => ?_)
 have hN : NoH G.length (.tup [aIt (freeG n x).1, .int .i64 (freeG n x).2]) := (by simp [AV.cells, aIt])
 refine sr fun _ => ?_
 refine ARun.box (j := 0) hG rfl rfl rfl rfl rfl (ep rfl) rfl rfl optN ?_
 refine ρo (j := 1) zv108 ?_
 refine mz (sr fun _ => ?_)
 refine ρ6 (fo := 1) U108 sz3 ?_
 refine ρd U3 ?_
 refine mv ?_
 refine ρa ?_
 refine ρ6 (fo := 2) U108 sz3 ?_
 refine ρd U3 ?_
 refine mv ?_
 refine ρa ?_
 refine ρ6 (fo := 1) U108 sz3 ?_
 refine ρt sz3 ?_
 refine ρ6 (fo := 2) U108 sz3 ?_
 refine ρt sz3 ?_
 refine ez ?_
 refine AWP.seq ?_
 refine ρE mixed (fun _ => ?_)
 refine ρn U108 sz108 ?_
 refine ρn U108 sz108 ?_
 refine ρm cf184 (fun hg => lent_fn ⟨x.id, x.free + n, x.held - n, x.gone⟩) ?_
 refine ρ1 sz108 ?_
 refine ma ?_
 refine ⟨by kernel_rfl, _, _, rfl, hG, ?_⟩
 refine thenA_n (AWP.ret ?_)
 refine ρj (rs := [.cell 4 108, .tmp 5]) (.cons (.cellA rfl ((hG.at _ _).trans rfl) U108 rfl sz108 rfl rfl) (.cons (.tmp rfl) .nil)) ?_
 rfl
theorem shipA_fn (n : Int) (x : It) (hx : may x = true) (hn : 1 ≤ n ∧ n ≤ 1000000) : FnP Tryz.prog 179 [.int .i64 n, aIt x] (.tup [aIt (shipG n x).1, .int .i64 (shipG n x).2]) := by
 have hb := may_bd hx
 refine FnP.of Tryz.func179 rfl rfl (by simp) (by simp [AV.cells, aIt]) (fun G hG => ?_)
 have hN : NoH G.length (.tup [aIt (shipG n x).1, .int .i64 (shipG n x).2]) := (by simp [AV.cells, aIt])
 refine sr fun _ => ?_
 refine ARun.box (j := 0) hG rfl rfl rfl rfl rfl (ep rfl) rfl rfl optN ?_
 refine ρo (j := 1) zv108 ?_
 refine mz (sr fun _ => ?_)
 refine ρ6 (fo := 2) U108 sz3 ?_
 refine ρd U3 ?_
 refine mv ?_
 refine ρa ?_
 refine ρ6 (fo := 3) U108 sz3 ?_
 refine ρd U3 ?_
 refine mv ?_
 refine ρa ?_
 refine ρ6 (fo := 2) U108 sz3 ?_
 refine ρt sz3 ?_
 refine ρ6 (fo := 3) U108 sz3 ?_
 refine ρt sz3 ?_
 refine ez ?_
 refine AWP.seq ?_
 refine ρE mixed (fun _ => ?_)
 refine ρn U108 sz108 ?_
 refine ρn U108 sz108 ?_
 refine ρm cf184 (fun hg => lent_fn ⟨x.id, x.free, x.held - n, x.gone + n⟩) ?_
 refine ρ1 sz108 ?_
 refine ma ?_
 refine ⟨by kernel_rfl, _, _, rfl, hG, ?_⟩
 refine thenA_n (AWP.ret ?_)
 refine ρj (rs := [.cell 4 108, .tmp 5]) (.cons (.cellA rfl ((hG.at _ _).trans rfl) U108 rfl sz108 rfl rfl) (.cons (.tmp rfl) .nil)) ?_
 rfl
end Go.Proofs.YtcndnllmlhhjiaaGreatDoor.Stk
namespace Go.Proofs.YtcndnllmlhhjiaaGreatDoor.Stk
open Go.ChangeShapes Go.WideShapes Go.ChangeAt Go.RowKit
open StockP
def encIt (x : It) : List Value := [.int .i64 x.id, .int .i64 x.free, .int .i64 x.held, .int .i64 x.gone]
theorem encIt_len (x : It) : (encIt x).length = 4 := rfl
structure BoxIt (W : World) (B : Nat) (a0 a1 a2 a3 : Value) : Prop where
 size : B < W.heap.size
 x0 : W.cell? ⟨B, 0, none⟩ = some a0
 x1 : W.cell? ⟨B, 1, none⟩ = some a1
 x2 : W.cell? ⟨B, 2, none⟩ = some a2
 x3 : W.cell? ⟨B, 3, none⟩ = some a3
 fz : ∀ j, W.frozen? ⟨B, j, none⟩ = false
theorem infoIt : (Tryz.prog.info? 108).map (fun i => (i.zero, i.size, i.bytes)) = some (some (.agg #[.int .i64 0, .int .i64 0, .int .i64 0, .int .i64 0]), 4, 32) := by kernel_rfl
end Go.Proofs.YtcndnllmlhhjiaaGreatDoor.Stk
namespace Go.Proofs.YtcndnllmlhhjiaaGreatDoor.Stk
open Go.ChangeShapes Go.WideShapes Go.ChangeAt Go.RowKit
open StockP
theorem cloneIt_any (a : Option Addr) (cap : Nat) (xs : List It) (w : World) (hr : Reads encIt 4 w a xs) (hl : xs.length ≤ 1000000) :
   Calls Tryz.prog 57 #[.slice a xs.length cap] w fun e w' => ∃ v, e = .returned v ∧ w'.ownsRow w.heap.size 108 4 v xs.length (xs.flatMap encIt) ∧ Below w.heap.size w w' := by
 cases a with
 | none =>
   have hx : xs = [] := by
     cases xs with
     | nil => rfl
     | cons x xs => obtain ⟨b, off, h, _⟩ := hr 0 (by simp); cases h
   subst hx
   have hnil := Lib.run_eql_slice_nil (P := Tryz.prog) w 22 108 none 0 cap 0 0 U22
   have HP := Lib.hid (World.ownsRow_nil w w.heap.size 108 4)
   go_enter Tryz.func57, Tryz.ntmps57
   go_wp2_with fail
   go_ret
   exact ⟨_, rfl, HP.out, Below.refl _ _⟩
 | some ad =>
   obtain ⟨i0, hi, hz0, hz1, hz2⟩ := info_parts infoIt
   have hnil := Lib.run_eql_slice_nil (P := Tryz.prog) w 22 108 (some ad) xs.length cap 0 0 U22
   have HR := Lib.hid hr
   clear hr
   go_enter Tryz.func57, Tryz.ntmps57
   have hfl := HR.out.flat (by omega) encIt_len
   have HFL := Lib.hid hfl
   clear hfl
   go_wp2_with (at_builtin; refine wpList_append_own _ rfl _ _ 22 rfl w.heap.size 108 i0 (.agg #[.int .i64 0, .int .i64 0, .int .i64 0, .int .i64 0]) 4 32 U22 hi hz0 hz1 hz2 rfl (by decide) _ _ _ rfl (World.ownsRow_made w #[] 0 (Nat.le_refl _) (by unfold maxLen; omega) rfl) ad xs.length cap (xs.flatMap encIt) rfl ?c0 ?c1 ?c2 ?c3 ?c4 ?c5 ?_)
   case c0 => rw [flat_len encIt 4 encIt_len]
   case c1 =>
     intro j u hu
     obtain ⟨h1, h2⟩ := HFL.out j u hu
     have h3 : (ad.add j).block = ad.block := by unfold Addr.add; split <;> rfl
     rw [World.cell?_alloc_lt _ _ _ (by rw [h3]; exact h1)]
     exact h2
   case c2 =>
     intro u hu
     obtain ⟨x, _, hx⟩ := List.mem_flatMap.1 hu
     simp [encIt] at hx
     rcases hx with rfl | rfl | rfl | rfl <;> rfl
   case c3 => unfold maxLen; omega
   case c4 => omega
   case c5 => simp
   intro v' w2 hown' hgrow _
   have hbel : Below w.heap.size w w2 := ((Below.refl _ _).alloc (Nat.le_refl _) _).grown hgrow (by simp) (fun k hk => by simp [Value.ownBlock] at hk; omega)
   have HO := Lib.hid hown'
   clear hown' hgrow
   go_wp2_with fail
   go_ret
   exact ⟨_, rfl, HO.out, hbel⟩
end Go.Proofs.YtcndnllmlhhjiaaGreatDoor.Stk
