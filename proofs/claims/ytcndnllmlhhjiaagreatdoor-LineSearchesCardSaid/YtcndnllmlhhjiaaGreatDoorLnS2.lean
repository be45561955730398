/- The texts that the law LineSearches rests on, part 2: AmEnd, Base, AmLib, AmMore, AmErr, AmObj, AmTys, Bytes, Shelf, NumPlain, NumWalk, NumRef, AmBld, NumAm. -/
import Derived.Test.YtcndnllmlhhjiaaGreatDoorLnS1
import Derived.Test.YtcndnllmlhhjiaaGreatDoorRows
import Derived.OpenShut
import Derived.Handy
import Derived.WalkLawsBesides
import Derived.WalkSpells
import Derived.BigQuiet
import Derived.Deep.QuietTactic
import Derived.Deep.RegionWith
import Derived.Laws.BytesArg
import Derived.Lib.Hide
import Derived.Laws.Externs
import Derived.LaidEql
import Derived.WideLaws
import Derived.Stop.Asserts
import Derived.Laws.BytesString
import Derived.Shelf.Strings.Builder1
import Derived.Shelf.Small.Bits
import Derived.Shelf.Strconv.Itoa0
import Derived.Test.YtcndnllmlhhjiaaGreatDoorProg
import Derived.Lib.BitFns
import Derived.Laws.MakeOwn
import Derived.Lib.UnsafeStr
open Go.Proofs.Tryz renaming underlying3 → U3, underlying4 → U4, underlying5 → U5, underlying9 → U9, underlying25 → U25, underlying50 → U50, underlying53 → U53, underlying72 → U72, underlying75 → U75, underlying84 → U84, underlying93 → U93, underlying108 → U108, underlying119 → U119, underlying127 → U127, underlying172 → U172, underlying173 → U173, underlying182 → U182, underlying190 → U190, underlying192 → U192, underlying207 → U207, underlying246 → U246, underlying248 → U248, underlying249 → U249, underlying270 → U270
set_option linter.unusedVariables false
set_option linter.unusedSimpArgs false
set_option maxRecDepth 100000
set_option maxHeartbeats 1000000
namespace Go.Proofs.YtcndnllmlhhjiaaGreatDoor
open Go.RowKit
section
variable {P : Program} {ops : Array Oper} {n m : Nat} {QQ : List Kd → Sl → List AO → Prop} {l : List Oper} {ks : List Kd} {σ : Sl} {G L H : List AO} {o : Oper} {gd : Bool}
theorem cAV_plainC (v : Value) : (cAV v).plainC = true := by unfold cAV; split <;> rfl
theorem ARun.alloc {t : TypeId} {j : Nat} {zv : Value} {C : List AV} {Y : AV} {d : Option Tmp} (hm : GOK m G) (hj : L.length = j) (ho : o.op = .alloc t) (hd : o.dst = d) (hn : dstLt n d = true) (hg : gdS ops σ o.guard = some true)
   (hz : Zv P t zv) (hC : zv.cells.toList.map cAV = C) (hY : optA o.guard true (.box (m + j) 0) = Y)
   (hr : ARun P ops n QQ l (ks ++ [.new]) (putS σ d Y) (G ++ (L ++ [.box C]))) : ARun P ops n QQ (o :: l) ks σ (G ++ L) := by
 refine ARun.new (E := [.box C]) hd hn hg hY (fun H0 hl0 a W β hHr hl => ?_) (by rw [List.append_assoc]; exact hr)
 subst hC
 have hb : Below W.heap.size W (W.alloc (.cells zv.cells t)) := (Below.refl _ _).alloc (Nat.le_refl _) _
 have hsn := hHr.snoc (w' := W.alloc (.cells zv.cells t)) hb (x := .box W.heap.size) (o := .box (zv.cells.toList.map cAV)) ⟨zv.cells, t, heap_alloc_new W _, by simp, fun q u y h1 h2 => by
   rw [List.getElem?_map, Array.getElem?_toList, h1] at h2
   cases h2; exact cAV_rep _ _ _, List.all_eq_true.2 fun y hy => by
   obtain ⟨v, _, rfl⟩ := List.mem_map.1 hy
   exact cAV_plainC v⟩ (fun b hb => by simp [Hd.blks] at hb; omega)
 have hlen : β.length = m + j := by rw [hHr.len, hl0, List.length_append, hm.1, hj]
 refine ⟨.pointer (some ⟨W.heap.size, 0, none⟩), _, β ++ [.box W.heap.size], ?_, hsn.1, hsn.2, .box _ _ _ (by rw [List.length_append, hlen]; simp) fun x b hb hcb => ?_⟩
 · simp [execOp, ho, Instr.alloc, hz.run, newVar, newRow]
 · rw [List.getElem?_append_right (by omega), hlen, Nat.sub_self] at hb
   cases hb; cases hcb; rfl
theorem ARun.allocBld {t e : TypeId} {j : Nat} {zv : Value} {C : List AV} {Y : AV} {d : Option Tmp} (hm : GOK m G) (hj : L.length = j) (ho : o.op = .alloc t) (hd : o.dst = d) (hn : dstLt n d = true) (hg : gdS ops σ o.guard = some true)
   (hz : Zv P t zv) (hk : zv.cells[0]? = some (.pointer none)) (hk1 : zv.cells[1]? = some (.slice none 0 0)) (hC : ((zv.cells.toList.map cAV).set 0 (.adr t)).set 1 (.buf e ⟨#[]⟩) = C) (hY : optA o.guard true (.box (m + j) 0) = Y)
   (hr : ARun P ops n QQ l (ks ++ [.new]) (putS σ d Y) (G ++ (L ++ [.box C]))) : ARun P ops n QQ (o :: l) ks σ (G ++ L) := by
 refine ARun.new (E := [.box C]) hd hn hg hY (fun H0 hl0 a W β hHr hl => ?_) (by rw [List.append_assoc]; exact hr)
 subst hC
 have hkl : 0 < zv.cells.size := (Array.getElem?_eq_some_iff.1 hk).1
 have hkl1 : 1 < zv.cells.size := (Array.getElem?_eq_some_iff.1 hk1).1
 have hb : Below W.heap.size W (W.alloc (.cells zv.cells t)) := (Below.refl _ _).alloc (Nat.le_refl _) _
 have hsn := hHr.snoc (w' := W.alloc (.cells zv.cells t)) hb (x := .bld W.heap.size (.slice none 0 0)) (o := .box (((zv.cells.toList.map cAV).set 0 (.adr t)).set 1 (.buf e ⟨#[]⟩))) ⟨zv.cells, t, heap_alloc_new W _, by simp, fun q u y h1 h2 => by
   by_cases e1 : 1 = q
   · subst e1
     rw [List.getElem?_set_self (by simp; omega)] at h2
     cases h2; exact .buf _ _ _
   · rw [List.getElem?_set_ne e1] at h2
     by_cases e2 : 0 = q
     · subst e2
       rw [List.getElem?_set_self (by simp; omega)] at h2
       cases h2; exact .adr _ _
     · rw [List.getElem?_set_ne e2, List.getElem?_map, Array.getElem?_toList, h1] at h2
       cases h2; exact cAV_rep _ _ _,
   e, ⟨#[]⟩, by rw [List.getElem?_set_ne (by omega), List.getElem?_set_self (by simp; omega)], by rw [List.getElem?_set_self (by simp; omega)], hk1, .inl hk, World.ownsRow_nil _ 0 e 1, by simp [Value.ownBlock], fun _ => rfl⟩ (fun b hb => by simp [Hd.blks, Value.ownBlock] at hb; omega)
 have hlen : β.length = m + j := by rw [hHr.len, hl0, List.length_append, hm.1, hj]
 refine ⟨.pointer (some ⟨W.heap.size, 0, none⟩), _, β ++ [.bld W.heap.size (.slice none 0 0)], ?_, hsn.1, hsn.2, .box _ _ _ (by rw [List.length_append, hlen]; simp) fun x b hb hcb => ?_⟩
 · simp [execOp, ho, Instr.alloc, hz.run, newVar, newRow]
 · rw [List.getElem?_append_right (by omega), hlen, Nat.sub_self] at hb
   cases hb; cases hcb; rfl
theorem ARun.nilPe {x : Operand} {cs : List AV} {Y : AV} {d : Option Tmp} (ho : o.op = .nilCheck x) (hd : o.dst = d) (hn : dstLt n d = true) (hG : gdS ops σ o.guard = some gd)
   (hx : Ev gd σ x (.pe cs)) (hY : optA o.guard gd (.pe cs) = Y)
   (hr : ARun P ops n QQ l (ks ++ [.pure]) (putS σ d Y) H) : ARun P ops n QQ (o :: l) ks σ H := by
 refine ARun.same hd hn hG hY (fun hg a W β hl => ⟨a.eval x, ?_, hx.rep hg hl (by simp [ho, Op.operands])⟩) hr
 have h0 := hx.rep hg hl (by simp [ho, Op.operands])
 generalize hv : a.eval x = v at h0
 cases h0; simp [execOp, ho, hv]
theorem ARun.nilBox {x : Operand} {i off : Nat} {cs : List AV} {Y : AV} {d : Option Tmp} (ho : o.op = .nilCheck x) (hd : o.dst = d) (hn : dstLt n d = true) (hG : gdS ops σ o.guard = some gd)
   (hx : Ev gd σ x (.box i off)) (hH : H[i]? = some (.box cs)) (hY : optA o.guard gd (.box i off) = Y)
   (hr : ARun P ops n QQ l (ks ++ [.pure]) (putS σ d Y) H) : ARun P ops n QQ (o :: l) ks σ H := by
 refine ARun.same hd hn hG hY (fun hg a W β hl => ⟨a.eval x, ?_, hx.rep hg hl (by simp [ho, Op.operands])⟩) hr
 obtain ⟨b, h2, _⟩ := (hx.rep hg hl (by simp [ho, Op.operands])).box_inv
 simp [execOp, ho, h2]
end
theorem getMap {α : Type} [Inhabited α] (f : α → AV) (l : List α) (j : Nat) (h : j < l.length) : (l.map f)[j]? = some (f (l.getD j default)) := by
 rw [List.getElem?_map, List.getElem?_eq_getElem h, List.getD, List.getElem?_eq_getElem h]; rfl
theorem ofNonneg {i : Int} (h : 0 ≤ i) : i = ((i.toNat : Nat) : Int) := by omega
/-! ### structs, the same or not -/
inductive K1 where
 | int | str | bool
deriving DecidableEq
def kindOf (P : Program) (t : TypeId) : Option K1 := match P.underlying t with
 | some (.int _) => some .int
 | some .string => some .str
 | some .bool => some .bool
 | _ => none
def eqAV : K1 → AV → AV → Option Bool
 | .int, .int k i, .int k' j => if k = k' then some (decide (i = j)) else none
 | .str, .str s, .str t => some (decide (s = t))
 | .bool, .bool a, .bool b => some (a == b)
 | _, _, _ => none
def eqL : List K1 → List AV → List AV → Option Bool
 | [], [], [] => some true
 | k :: ks, x :: xs, y :: ys => match eqAV k x y, eqL ks xs ys with
   | some a, some b => some (a && b)
   | _, _ => none
 | _, _, _ => none
def EqOk (P : Program) (t : TypeId) (sh : List K1) : Prop := ∃ fields : Array Field, P.underlying t = some (.struct fields) ∧ P.stoodInHeld t = false ∧ P.eqGuardType P.depth t = false ∧
 (fields.toList.zipIdx.all fun (f, i) => Nat.beq f.offset i && f.name != "_") = true ∧ fields.toList.map (fun f => kindOf P f.type) = sh.map some
theorem part_run {P : Program} {t : TypeId} {k : K1} (h : kindOf P t = some k) {xs : Array Value} {off : Nat} {v : Value} (hv : xs[off]? = some v) (w : World) : (part t xs off).run P w = .ok v w := by
 unfold kindOf at h
 have : ∃ u, P.underlying t = some u ∧ isA u = false := by
   split at h
   · rename_i q hq; exact ⟨_, hq, rfl⟩
   · rename_i hq; exact ⟨_, hq, rfl⟩
   · rename_i hq; exact ⟨_, hq, rfl⟩
   · cases h
 obtain ⟨u, h1, h2⟩ := this
 simp only [part, Sem.run_bind, isAgg_run h1, h2]
 simp [hv]
theorem eqAV_run {P : Program} {t : TypeId} {k : K1} (h : kindOf P t = some k) {β : List Hd} {w : World} {u v : Value} {x y : AV} (hu : VRep β w u x) (hv : VRep β w v y) {r : Bool} (hr : eqAV k x y = some r) (d : Nat) : (Op.equalIn (d + 1) t u v).run P w = .ok r w := by
 unfold kindOf at h
 unfold eqAV at hr
 split at hr
 · rename_i q i q' j
   split at hr
   · rename_i e
     subst e
     cases hr
     obtain rfl := hu.int_inv
     obtain rfl := hv.int_inv
     split at h <;> first | cases h | skip
     rename_i q2 hq
     exact run_equalIn_int w d t _ _ _ _ hq
   · cases hr
 · rename_i a b
   cases hr
   obtain rfl := hu.str_inv
   obtain rfl := hv.str_inv
   split at h <;> first | cases h | skip
   rename_i hq
   rw [run_equalIn_string w d t _ _ hq, toList_beq]
 · rename_i a b
   cases hr
   obtain rfl := hu.bool_inv
   obtain rfl := hv.bool_inv
   split at h <;> first | cases h | skip
   rename_i hq
   exact run_equalIn_bool w d t _ _ hq
 · cases hr
theorem eqFields_run {P : Program} {β : List Hd} {w : World} (d : Nat) (us vs : Array Value) : ∀ (fs : List Field) (sh : List K1) (k : Nat) (xs ys : List AV) (r : Bool), (fs.zipIdx k).all (fun (f, i) => Nat.beq f.offset i && f.name != "_") = true → fs.map (fun f => kindOf P f.type) = sh.map some →
   us.size = k + xs.length → vs.size = k + ys.length →
   (∀ (j : Nat) (u : Value) (x : AV), us[k + j]? = some u → xs[j]? = some x → VRep β w u x) → (∀ (j : Nat) (u : Value) (x : AV), vs[k + j]? = some u → ys[j]? = some x → VRep β w u x) →
   eqL sh xs ys = some r → (Op.eqFields (d + 1) us vs fs).run P w = .ok r w := by
 intro fs
 induction fs with
 | nil =>
   intro sh k xs ys r _ h2 _ _ _ _ h5
   cases sh with
   | cons _ _ => cases h2
   | nil =>
     cases xs <;> cases ys <;> cases h5
     simp [Op.eqFields]
 | cons f fs ih =>
   intro sh k xs ys r h1 h2 hus hvs h3 h4 h5
   cases sh with
   | nil => cases h2
   | cons kd sh =>
     cases xs with
     | nil => cases h5
     | cons x xs =>
       cases ys with
       | nil => cases h5
       | cons y ys =>
         rw [List.map_cons, List.map_cons, List.cons.injEq] at h2
         rw [List.zipIdx_cons, List.all_cons, Bool.and_eq_true, Bool.and_eq_true] at h1
         obtain ⟨⟨e1, e2⟩, e3⟩ := h1
         have e1 := Nat.eq_of_beq_eq_true e1
         have e2 : f.name ≠ "_" := by simpa using e2
         unfold eqL at h5
         split at h5
         · rename_i ra rb q1 q2
           cases h5
           have hku : us[k]? = some (us[k]'(by simp at hus; omega)) := Array.getElem?_eq_getElem (by simp at hus; omega)
           have hkv : vs[k]? = some (vs[k]'(by simp at hvs; omega)) := Array.getElem?_eq_getElem (by simp at hvs; omega)
           have hr1 := eqAV_run h2.1 (h3 0 _ x (by rw [Nat.add_zero]; exact hku) rfl) (h4 0 _ y (by rw [Nat.add_zero]; exact hkv) rfl) q1 d
           have hrest := ih sh (k + 1) xs ys rb e3 h2.2 (by simp at hus; omega) (by simp at hvs; omega)
             (fun j u z a b => h3 (j + 1) u z (by rw [← a]; congr 1; omega) (by simpa using b)) (fun j u z a b => h4 (j + 1) u z (by rw [← a]; congr 1; omega) (by simpa using b)) q2
           simp only [Op.eqFields, e2, ne_eq, not_false_eq_true, if_true, Sem.run_bind, part_run h2.1 (show us[f.offset]? = some _ by rw [e1]; exact hku), part_run h2.1 (show vs[f.offset]? = some _ by rw [e1]; exact hkv), Result.andThen_ok, hr1]
           cases ra
           · simp
           · simpa using hrest
         · cases h5
section
variable {P : Program} {ops : Array Oper} {n m : Nat} {QQ : List Kd → Sl → List AO → Prop} {l : List Oper} {ks : List Kd} {σ : Sl} {G L H : List AO} {o : Oper} {gd : Bool}
theorem ARun.eqAgg {bo : BinOp} {x y : Operand} {t1 t2 : TypeId} {sh : List K1} {xs ys : List AV} {b r : Bool} {Y : AV} {d : Option Tmp} (ho : o.op = .binOp bo t1 x y t2) (hd : o.dst = d) (hn : dstLt n d = true) (hG : gdS ops σ o.guard = some gd)
   (hE : EqOk P t1 sh) (hx : Ev gd σ x (.agg xs)) (hy : Ev gd σ y (.agg ys)) (he : eqL sh xs ys = some b) (hb : bo = .eql ∧ r = b ∨ bo = .neq ∧ r = !b) (hY : optA o.guard gd (.bool r) = Y)
   (hr : ARun P ops n QQ l (ks ++ [.pure]) (putS σ d Y) H) : ARun P ops n QQ (o :: l) ks σ H := by
 refine ARun.same hd hn hG hY (fun hg a W β hl => ⟨.bool r, ?_, .bool _⟩) hr
 obtain ⟨fields, hu, hst, hgt, hz, hm⟩ := hE
 have h1 := hx.rep hg hl (by simp [ho, Op.operands])
 have h2 := hy.rep hg hl (by simp [ho, Op.operands])
 generalize hvx : a.eval x = u at h1
 generalize hvy : a.eval y = v at h2
 cases h1 with
 | agg us _ hl1 k1 =>
   cases h2 with
   | agg vs _ hl2 k2 =>
     have hf := eqFields_run (P := P) (β := β) (w := W) 9998 us vs fields.toList sh 0 xs ys b hz hm (by omega) (by omega) (fun j u x p q => k1 j u x (by simpa using p) q) (fun j u x p q => k2 j u x (by simpa using p) q) he
     have hfo : P.fieldsOf t1 = fields := by unfold Program.fieldsOf; rw [hu]
     have heq : (Op.equal t1 (.agg us) (.agg vs)).run P W = .ok b W := by
       have := run_equalIn_agg (P := P) W 9999 t1 us vs (by rw [hfo]; exact hu) hst
       unfold Op.equal Op.maxDepth
       rw [this, hfo]; exact hf
     rcases hb with ⟨rfl, rfl⟩ | ⟨rfl, rfl⟩ <;> simp [execOp, ho, hvx, hvy, run_eqGuard_agg W _ t1 x y us vs hgt, binOp, heq]
theorem ARun.cmpB {bo : BinOp} {x y : Operand} {t1 t2 : TypeId} {i j r : Bool} {Y : AV} {d : Option Tmp} (ho : o.op = .binOp bo t1 x y t2) (hd : o.dst = d) (hn : dstLt n d = true) (hG : gdS ops σ o.guard = some gd)
   (hu : P.underlying t1 = some .bool) (hx : Ev gd σ x (.bool i)) (hy : Ev gd σ y (.bool j)) (he : cmpB bo i j = some r) (hY : optA o.guard gd (.bool r) = Y)
   (hr : ARun P ops n QQ l (ks ++ [.pure]) (putS σ d Y) H) : ARun P ops n QQ (o :: l) ks σ H := by
 refine ARun.same hd hn hG hY (fun hg a W β hl => ⟨.bool r, ?_, .bool _⟩) hr
 have h1 := (hx.rep hg hl (by simp [ho, Op.operands])).bool_inv
 have h2 := (hy.rep hg hl (by simp [ho, Op.operands])).bool_inv
 cases bo <;> cases he <;> simp [execOp, ho, h1, h2, eqGuard, binOp, run_equal_bool W t1 _ _ hu, bne]
end
/-! ### results -/
inductive RV1 (P : Program) (σ : Sl) (H : List AO) : ResultVar → AV → Prop where
 | tmp {t : Nat} {X : AV} (h : look σ t = some X) : RV1 P σ H (.tmp t) X
 | cell {a : Nat} {t : TypeId} {i off : Nat} {cs : List AV} {u : TypeDesc} {X : AV} (h : look σ a = some (.box i off)) (hH : H[i]? = some (.box cs)) (hu : P.underlying t = some u) (hA : isA u = false) (hC : cs[off]? = some X) : RV1 P σ H (.cell a t) X
 | cellA {a : Nat} {t : TypeId} {i off z : Nat} {cs C : List AV} {u : TypeDesc} (h : look σ a = some (.box i off)) (hH : H[i]? = some (.box cs)) (hu : P.underlying t = some u) (hA : isA u = true) (hz : Sz P t z) (hC : (cs.drop off).take z = C) (hl : C.length = z) : RV1 P σ H (.cell a t) (.agg C)
inductive RVs (P : Program) (σ : Sl) (H : List AO) : List ResultVar → List AV → Prop where
 | nil : RVs P σ H [] []
 | cons {r : ResultVar} {X : AV} {rs : List ResultVar} {Xs : List AV} (h : RV1 P σ H r X) (t : RVs P σ H rs Xs) : RVs P σ H (r :: rs) (X :: Xs)
def runRes (a : Act) : ResultVar → Sem Value
 | .tmp t => pure (a.tmps.getD t undef)
 | .cell b t => do loadVar t (← asAddr (a.tmps.getD b undef))
theorem RV1.run {P : Program} {σ : Sl} {H : List AO} {r : ResultVar} {X : AV} (h : RV1 P σ H r X) {β : List Hd} {a : Act} {W : World} (hH : HRel β H W) (hs : SRep β W a σ) : ∃ v, (runRes a r).run P W = .ok v W ∧ VRep β W v X := by
 have hget : ∀ t X, look σ t = some X → VRep β W (a.tmps.getD t undef) X := by
   intro t X h
   obtain ⟨u, h1, h2⟩ := hs t X h
   have : a.tmps.getD t undef = u := by rw [Array.getD_eq_getD_getElem?, h1]; rfl
   rw [this]; exact h2
 cases h with
 | tmp h => exact ⟨_, rfl, hget _ _ h⟩
 | cell h hi hu hA hC =>
   rename_i ad t i off cs u
   obtain ⟨b, arr, T, h1, h2, h3, h4, h5⟩ := (hget _ _ h).box_at hH hi
   have hlt : off < arr.size := by rw [h4]; exact (List.getElem?_eq_some_iff.1 hC).1
   have hc : W.cell? ⟨b, off, none⟩ = some arr[off] := by simp [World.cell?, h3, hlt]
   refine ⟨arr[off], ?_, h5 off _ _ (Array.getElem?_eq_getElem hlt) hC⟩
   have h6 : (loadVar t ⟨b, off, none⟩).run P W = .ok arr[off] W := by
     simp only [loadVar, Sem.run_bind, isAgg_run hu, hA]
     simp [hc]
   simp only [runRes, h2]
   simp [asAddr, h6]
 | cellA h hi hu hA hz hC hl =>
   rename_i ad t i off z cs C u
   obtain ⟨b, arr, T, h1, h2, h3, h4, h5⟩ := (hget _ _ h).box_at hH hi
   subst hC
   have hget2 : ∀ q y, ((cs.drop off).take z)[q]? = some y → cs[off + q]? = some y := by
     intro q y hq
     rw [List.getElem?_take] at hq
     split at hq
     · rw [List.getElem?_drop] at hq; exact hq
     · cases hq
   have hcell : ∀ q y, ((cs.drop off).take z)[q]? = some y → ∃ u, arr[off + q]? = some u ∧ W.cell? ⟨b, off + q, none⟩ = some u := by
     intro q y hq
     have hlt : off + q < arr.size := by rw [h4]; exact (List.getElem?_eq_some_iff.1 (hget2 q y hq)).1
     exact ⟨_, Array.getElem?_eq_getElem hlt, by simp [World.cell?, h3, hlt]⟩
   obtain ⟨vs, k1, k2, k3⟩ := cells_list W b off ((cs.drop off).take z) β (fun q y hq => by obtain ⟨u, _, h⟩ := hcell q y hq; exact ⟨u, h⟩) (fun q y u hq hu2 => by
     obtain ⟨u', e1, e2⟩ := hcell q y hq
     rw [e2] at hu2; cases hu2
     exact h5 _ _ _ e1 (hget2 q y hq))
   refine ⟨.agg vs.toArray, ?_, .agg _ _ (by simpa using k1) (fun j u y hj hy => k3 j u y (by simpa using hj) hy)⟩
   have h6 : (loadVar t ⟨b, off, none⟩).run P W = .ok (.agg vs.toArray) W := by
     simp only [loadVar, Sem.run_bind, isAgg_run hu, hA, if_true]
     have h7 := run_loadCells_list (P := P) (w := W) ⟨b, off, none⟩ vs (fun j u hj => by rw [aadd]; exact k2 j u hj)
     rw [← hl, ← k1] at hz
     simp [hz.run, h7]
   simp only [runRes, h2]
   simp [asAddr, h6]
theorem RVs.run {P : Program} {σ : Sl} {H : List AO} {β : List Hd} {a : Act} {W : World} (hH : HRel β H W) (hs : SRep β W a σ) : ∀ {rs : List ResultVar} {Xs : List AV}, RVs P σ H rs Xs →
   ∃ vs : List Value, (rs.mapM (runRes a)).run P W = .ok vs W ∧ vs.length = Xs.length ∧ ∀ (j : Nat) (u : Value) (x : AV), vs[j]? = some u → Xs[j]? = some x → VRep β W u x := by
 intro rs Xs h
 induction h with
 | nil => exact ⟨[], by simp, rfl, fun j u x h => by simp at h⟩
 | cons h t ih =>
   obtain ⟨v, h1, h2⟩ := h.run hH hs
   obtain ⟨vs, k1, k2, k3⟩ := ih
   refine ⟨v :: vs, by simp [h1, k1], by simp [k2], fun j u x p q => ?_⟩
   cases j with
   | zero => simp at p q; subst p; subst q; exact h2
   | succ j => exact k3 j u x (by simpa using p) (by simpa using q)
theorem results_eq (fn : Func) (a : Act) : results fn a.tmps = (do let vs ← fn.results.mapM (runRes a); pure (if h : vs.size = 1 then vs[0] else .tuple vs)) := by
 rfl
theorem Tells.list {P : Program} {fn : Func} {β : List Hd} {a : Act} {W : World} {σ : Sl} {H : List AO} {rs : List ResultVar} {Xs : List AV} (hH : HRel β H W) (hs : SRep β W a σ) (hr : fn.results = rs.toArray) (h : RVs P σ H rs Xs) (h1 : Xs.length ≠ 1) : Tells P fn β a W (.tup Xs) := by
 obtain ⟨vs, k1, k2, k3⟩ := h.run hH hs
 refine ⟨.tuple vs.toArray, ?_, .tup _ _ (by simpa using k2) (fun j u x p q => k3 j u x (by simpa using p) q)⟩
 rw [results_eq, hr]
 have hne : ¬ vs.length = 1 := by rw [k2]; exact h1
 simp [k1, hne]
theorem Tells.single {P : Program} {fn : Func} {β : List Hd} {a : Act} {W : World} {σ : Sl} {H : List AO} {r : ResultVar} {X : AV} (hH : HRel β H W) (hs : SRep β W a σ) (hr : fn.results = #[r]) (h : RV1 P σ H r X) : Tells P fn β a W X := by
 obtain ⟨v, k1, k2⟩ := h.run hH hs
 refine ⟨v, ?_, k2⟩
 rw [results_eq, hr]
 simp [k1]
theorem endF.many {P : Program} {fn : Func} {Xs Xs' : List AV} {σ : Sl} {G L : List AO} {rs : List ResultVar} {e : Exit} (he : e = .normal ∨ e = .ret) (hr : fn.results = rs.toArray) (h : RVs P σ (G ++ L) rs Xs) (h1 : Xs.length ≠ 1) (hX : Xs = Xs') (hn : NoH G.length (.tup Xs')) : endF P fn (.tup Xs') G e σ G L := by
 subst hX
 exact ⟨he, rfl, hn, fun β a W hH hs => Tells.list hH hs hr h h1⟩
theorem endF.one {P : Program} {fn : Func} {X X' : AV} {σ : Sl} {G L : List AO} {r : ResultVar} {e : Exit} (he : e = .normal ∨ e = .ret) (hr : fn.results = #[r]) (h : RV1 P σ (G ++ L) r X) (hX : X = X') (hn : NoH G.length X') : endF P fn X' G e σ G L := by
 subst hX
 exact ⟨he, rfl, hn, fun β a W hH hs => Tells.single hH hs hr h⟩
end Go.Proofs.YtcndnllmlhhjiaaGreatDoor
namespace Go.Proofs.YtcndnllmlhhjiaaGreatDoor
section
variable {P : Program} {ops : Array Oper} {n m : Nat} {l : List Oper} {ks : List Kd} {σ : Sl} {H G L : List AO}
theorem mv {QQ : List Kd → Sl → List AO → Prop} {x : Operand} {X : AV} {d : Option Tmp} {t : TypeId} {p : String} {A : Array Edge}
   (hr : ARun P ops n QQ l (ks ++ [.pure]) (putS σ d X) H) (hn : dstLt n d = true := by exact rfl) (hx : evS σ x = some X := by exact rfl) : ARun P ops n QQ ({ dst := d, op := .move x, type := t, pos := p, after := A, guard := none } :: l) ks σ H := ARun.move (.inl rfl) rfl hn rfl (Ev.plain hx) optN hr
theorem ma {QQ : List Kd → Sl → List AO → Prop} {x : Operand} {X : AV} {d : Option Tmp} {t : TypeId} {p : String} {A : Array Edge}
   (hr : ARun P ops n QQ l (ks ++ [.pure]) (putS σ d X) H) (hn : dstLt n d = true := by exact rfl) (hx : evS σ x = some X := by exact rfl) : ARun P ops n QQ ({ dst := d, op := .assign x, type := t, pos := p, after := A, guard := none } :: l) ks σ H := ARun.move (.inr rfl) rfl hn rfl (Ev.plain hx) optN hr
theorem ez {next : Sl → List AO → List AO → Prop} {Q : QA} (h : next σ G L) (hG : GOK m G := by assumption) : ARun P ops n (endQ m (thenA next Q)) [] ks σ (G ++ L) := ⟨_, _, rfl, hG, thenA_n h⟩
theorem mz {next : Sl → List AO → List AO → Prop} {Q : QA} {x : Operand} {X : AV} {d : Option Tmp} {t : TypeId} {p : String} {A : Array Edge}
   (h : next (putS σ d X) G L) (hn : dstLt n d = true := by exact rfl) (hx : evS σ x = some X := by exact rfl) (hG : GOK m G := by assumption) : ARun P ops n (endQ m (thenA next Q)) [{ dst := d, op := .assign x, type := t, pos := p, after := A, guard := none }] ks σ (G ++ L) := ma (ez h hG) hn hx
theorem ep {gd : Bool} {x : Operand} {X : AV} (h : evS σ x = some X) : Ev gd σ x X := .inl h
theorem sr {Q : QA} {id : Nat} {y : Code} (h : GOK m G → ARun P ops n (endQ m (thenA (AWP P n m y Q) Q)) ops.toList [] σ (G ++ L)) : AWP P n m (.seq (.region id ops false) y) Q σ G L := AWP.seq (AWP.region h)
end
end Go.Proofs.YtcndnllmlhhjiaaGreatDoor
namespace Go.Proofs.YtcndnllmlhhjiaaGreatDoor
open Go.ChangeShapes Go.WideShapes Go.ChangeAt Go.RowKit
def bs (l : List UInt8) : ByteArray := ⟨l.toArray⟩
def bl (s : ByteArray) : List UInt8 := s.data.toList
@[go_sem] theorem bs_toList (l : List UInt8) : (bs l).toList = l := ByteArray.toList_mk l
@[go_sem] theorem bs_size (l : List UInt8) : (bs l).size = l.length := rfl
theorem bcell {B : Nat} {W w1 : World} (hb : Below B W w1) : (∀ b o, b < B → w1.cell? ⟨b, o, none⟩ = W.cell? ⟨b, o, none⟩) ∧ (∀ b o, b < B → w1.frozen? ⟨b, o, none⟩ = W.frozen? ⟨b, o, none⟩) :=
 ⟨fun b o h => hb.cell (p := ⟨b, o, none⟩) h, fun b o h => hb.frozen (p := ⟨b, o, none⟩) h⟩
theorem bl_len (s : ByteArray) : (bl s).length = s.size := Array.length_toList
@[go_sem] theorem bs_append (s t : List UInt8) : bs s ++ bs t = bs (s ++ t) := by
 apply ByteArray.ext; simp [bs]
theorem bl_get (s : ByteArray) (k : Nat) (h : k < s.size) : (bl s)[k]? = some s[k] := by
 unfold bl; rw [List.getElem?_eq_getElem (by simpa using h)]; rfl
theorem bl_getD (s : ByteArray) (k : Nat) (h : k < s.size) : (bl s).getD k 0 = s[k] := by
 rw [List.getD, bl_get s k h]; rfl
theorem bl_extract (s : ByteArray) (a b : Nat) : bl (s.extract a b) = ((bl s).take b).drop a := by
 unfold bl; simp [ByteArray.data_extract, List.drop_take]
theorem bl_take_succ (s : ByteArray) (k : Nat) (h : k < s.size) : (bl s).take (k + 1) = (bl s).take k ++ [s[k]] := by
 unfold bl; rw [List.take_succ_eq_append_getElem (by simpa using h)]; rfl
theorem bl_take_all (s : ByteArray) : (bl s).take s.size = bl s := List.take_of_length_le (by rw [bl_len]; exact Nat.le_refl _)
theorem byte_bd (b : UInt8) : (b.toNat : Int) ≤ 255 := by have := b.toNat_lt; omega
theorem ret_si {a b : ByteArray} {x y : Int} (h : a = b) (g : x = y) : Ending.returned (.tuple #[.string a, .int .i64 x]) = .returned (.tuple #[.string b, .int .i64 y]) := by rw [h, g]
theorem ret_gii {g : Int × Int} {a b : Int} (h : g = (a, b)) : Ending.returned (.tuple #[.int .i64 a, .int .i64 b]) = .returned (.tuple #[.int .i64 g.1, .int .i64 g.2]) := by rw [h]
theorem ret_giii {g : Int × Int × Int} {a b c : Int} (h : g = (a, b, c)) : Ending.returned (.tuple #[.int .i64 a, .int .i64 b, .int .i64 c]) = .returned (.tuple #[.int .i64 g.1, .int .i64 g.2.1, .int .i64 g.2.2]) := by rw [h]
theorem wf64 {a : Int} (ha : (Lit.int .i64 a).wf = true) : -9223372036854775808 ≤ a ∧ a ≤ 9223372036854775807 := by
 simpa [Lit.wf, IntKind.min, IntKind.max, IntKind.signed, IntKind.bits] using ha

/-! ### a slice that reads as a list: every element lies in sz cells -/
def Reads {α : Type} (enc : α → List Value) (sz : Nat) (w : World) (a : Option Addr) (xs : List α) : Prop :=
 ∀ i, (h : i < xs.length) → ∃ b off, a = some ⟨b, off, none⟩ ∧ b < w.heap.size ∧ ∀ j, j < sz → w.cell? ⟨b, off + i * sz + j, none⟩ = (enc xs[i])[j]?
theorem Reads.nil {α : Type} (enc : α → List Value) (sz : Nat) (w : World) (a : Option Addr) : Reads enc sz w a [] := fun i hi => absurd hi (Nat.not_lt_zero i)
theorem flat_get {α : Type} (enc : α → List Value) (sz : Nat) (hz : ∀ x, (enc x).length = sz) (xs : List α) : ∀ i, (h : i < xs.length) → ∀ j, j < sz → (xs.flatMap enc)[i * sz + j]? = (enc xs[i])[j]? := by
 induction xs with
 | nil => intro i h; exact absurd h (Nat.not_lt_zero i)
 | cons x xs ih =>
   intro i h j hj
   rw [List.flatMap_cons]
   cases i with
   | zero => rw [List.getElem?_append_left (by rw [hz]; omega)]; simp
   | succ i =>
     rw [List.getElem?_append_right (by rw [hz, Nat.add_mul]; omega), hz]
     rw [show (i + 1) * sz + j - sz = i * sz + j by rw [Nat.add_mul]; omega]
     exact ih i (by simpa using h) j hj
theorem Reads.of_owns {α : Type} {enc : α → List Value} {sz : Nat} (hz : ∀ x, (enc x).length = sz) {w : World} {base e n : Nat} {v : Value} {xs : List α} (hn : n = xs.length)
   (h : w.ownsRow base e sz v n (xs.flatMap enc)) : ∃ a cap, v = .slice a n cap ∧ n ≤ cap ∧ cap ≤ maxLen ∧ Reads enc sz w a xs := by
 rcases h.2 with ⟨rfl, rfl⟩ | ⟨g, cap, cur, rfl, hb, hg, hnc, hcm, hcs, htake⟩
 · have : xs = [] := List.eq_nil_of_length_eq_zero hn.symm
   subst this
   exact ⟨none, 0, rfl, Nat.le_refl _, Nat.zero_le _, Reads.nil _ _ _ _⟩
 · refine ⟨some ⟨g, 0, none⟩, cap, rfl, hnc, hcm, fun i hi => ⟨g, 0, rfl, (Array.getElem?_eq_some_iff.1 hg).1, fun j hj => ?_⟩⟩
   have hc := cell_of_row w g (i * sz + j) cur e (0, 0) hg
   rw [Nat.zero_add, hc, ← flat_get enc sz hz xs i hi j hj, ← htake, List.getElem?_take]
   have h1 : (i + 1) * sz ≤ n * sz := Nat.mul_le_mul_right _ (by omega)
   have h2 : i * sz + j < n * sz := by rw [Nat.add_mul] at h1; omega
   rw [if_pos h2]
   simp
theorem addr_add (b off j : Nat) : (⟨b, off, none⟩ : Addr).add j = ⟨b, off + j, none⟩ := by unfold Addr.add; split <;> simp_all
def encI (x : Int) : List Value := [.int .i64 x]
theorem encI_len (x : Int) : (encI x).length = 1 := rfl
end Go.Proofs.YtcndnllmlhhjiaaGreatDoor
namespace Go.Proofs.YtcndnllmlhhjiaaGreatDoor
open Go.RowKit
def plainV : Value → Bool
 | .int _ _ | .bool _ | .string _ => true
 | _ => false
theorem VRep.plain {β : List Hd} {w : World} {u v : Value} (h : VRep β w u (cAV v)) (hv : plainV v = true) : u = v := by
 cases v <;> cases hv
 · exact h.bool_inv
 · exact h.int_inv
 exact h.str_inv
theorem sl_reads {α : Type} {enc : α → List Value} {av : α → AV} {z : Nat} (hz : ∀ x, (enc x).length = z) (hc : ∀ x, (av x).cells = (enc x).map cAV) (hp : ∀ x u, u ∈ enc x → plainV u = true) {β : List Hd} {w : World} {v : Value} {xs : List α} (h : VRep β w v (.sl (xs.map av))) :
   ∃ a cap, v = .slice a xs.length cap ∧ xs.length ≤ cap ∧ cap ≤ maxLen ∧ (a = none → cap = 0) ∧ Reads enc z w a xs := by
 generalize hX : xs.map av = ys at h
 cases h with
 | slnil =>
   have : xs = [] := by simpa using hX
   subst this
   exact ⟨none, 0, rfl, Nat.le_refl _, Nat.zero_le _, fun _ => rfl, Reads.nil _ _ _ _⟩
 | slemp p cap hm =>
   have : xs = [] := by simpa using hX
   subst this
   exact ⟨some p, cap, rfl, Nat.zero_le _, hm, (fun e => by cases e), Reads.nil _ _ _ _⟩
 | sl b off cap z' _ hcap hm hb hS hz' hd h =>
   subst hX
   refine ⟨some ⟨b, off, none⟩, cap, by simp, by simpa using hcap, hm, (fun e => by cases e), fun i hi => ⟨b, off, rfl, hb, fun j hj => ?_⟩⟩
   have hx : (xs.map av)[i]? = some (av xs[i]) := by rw [List.getElem?_map, List.getElem?_eq_getElem hi]; rfl
   have ez : z' = z := by rw [← hz' _ (List.mem_of_getElem? hx), hc, List.length_map, hz]
   subst ez
   have hj2 : j < (enc xs[i]).length := by rw [hz]; exact hj
   have hy : (av xs[i]).cells[j]? = some (cAV (enc xs[i])[j]) := by rw [hc, List.getElem?_map, List.getElem?_eq_getElem hj2]; rfl
   obtain ⟨u, hu⟩ := hd i j _ _ hx hy
   have h1 := (h i j _ _ u hx hy hu).plain (hp _ _ (List.getElem_mem hj2))
   rw [hu, h1, List.getElem?_eq_getElem hj2]
theorem flat_map {α : Type} {enc : α → List Value} {av : α → AV} (hc : ∀ x, (av x).cells = (enc x).map cAV) (xs : List α) : (xs.map av).flatMap AV.cells = (xs.flatMap enc).map cAV := by
 induction xs with
 | nil => rfl
 | cons x xs ih => rw [List.map_cons, List.flatMap_cons, ih, hc, List.flatMap_cons, List.map_append]
theorem FnNew.of_owns {α : Type} (enc : α → List Value) (av : α → AV) (z : Nat) (hz : ∀ x, (enc x).length = z) (hc : ∀ x, (av x).cells = (enc x).map cAV) (hp : ∀ x u, u ∈ enc x → plainV u = true) {P : Program} {F : FuncId} {e : TypeId} (xs : List α)
   (h : ∀ (w : World) (a : Option Addr) (cap : Nat), Reads enc z w a xs → xs.length ≤ cap → cap ≤ maxLen → (a = none → cap = 0) → Calls P F #[.slice a xs.length cap] w fun e' w' => ∃ v, e' = .returned v ∧ w'.ownsRow w.heap.size e z v xs.length (xs.flatMap enc) ∧ Below w.heap.size w w') :
   FnNew P F [.sl (xs.map av)] e z (xs.map av) := by
 intro H w β vs hH hv
 obtain ⟨hsz, hvr⟩ := hv
 obtain ⟨v0, rfl⟩ : ∃ v0, vs = #[v0] := by
   refine ⟨vs[0]'(by rw [hsz]; simp), Array.ext (by simpa using hsz) fun i h1 h2 => ?_⟩
   have : i = 0 := by simp at h2; omega
   subst this; rfl
 obtain ⟨a, cap, rfl, h1, h2, h3, h4⟩ := sl_reads hz hc hp (hvr 0 v0 _ rfl rfl)
 refine (h w a cap h4 h1 h2 h3).mono ?_
 rintro e' w' ⟨v, rfl, ho, hb⟩
 have hown : w'.ownsRow 0 e z v (xs.map av).length (xs.flatMap enc) := by
   refine ⟨by rw [List.length_map]; exact ho.1, ?_⟩
   rcases ho.2 with ⟨k1, k2⟩ | ⟨g, cp, cur, k1, _, k2⟩
   · exact .inl ⟨k1, by rw [List.length_map]; exact k2⟩
   exact .inr ⟨g, cp, cur, by rw [List.length_map]; exact k1, Nat.zero_le _, by rw [List.length_map]; exact k2⟩
 have hsn := hH.snoc hb (x := .row v 0) (o := .row 0 e z (xs.map av)) ⟨rfl, xs.flatMap enc, hown, fun y hy => by
     obtain ⟨x, _, rfl⟩ := List.mem_map.1 hy
     rw [hc, List.length_map, hz], fun j u y q1 q2 => by
     rw [flat_map hc, List.getElem?_map, q1] at q2
     cases q2; exact cAV_rep _ _ _⟩ (fun b hb => (ho.lt b (opt_mem.1 hb)).1)
 refine ⟨v, _, rfl, hsn.1, hsn.2, .own _ _ _ (by simp [hH.len]) (fun u g' hb => ?_) (ownsRow_one ho)⟩
 rw [← hH.len, List.getElem?_append_right (Nat.le_refl _), Nat.sub_self] at hb
 cases hb
 exact ⟨Nat.le_refl _, fun _ => rfl⟩
/-! ### slices that are lent -/
inductive Flat : AV → Prop where
 | int (k : IntKind) (n : Int) : Flat (.int k n)
 | bool (b : Bool) : Flat (.bool b)
 | str (s : ByteArray) : Flat (.str s)
 | raw (v : Value) : Flat (.raw v)
 | agg (cs : List AV) (h : ∀ x, x ∈ cs → Flat x) : Flat (.agg cs)
 | tup (cs : List AV) (h : ∀ x, x ∈ cs → Flat x) : Flat (.tup cs)
theorem VRep.flat {β β' : List Hd} {w : World} {v : Value} {X : AV} (h : VRep β w v X) (hf : Flat X) : VRep β' w v X := by
 induction h with
 | int k n => exact .int k n
 | bool b => exact .bool b
 | str s => exact .str s
 | raw v => exact .raw v
 | agg vs cs hl _ ih => cases hf with | agg _ h => exact .agg vs cs hl fun j u x a b => ih j u x a b (h x (List.mem_of_getElem? b))
 | tup vs cs hl _ ih => cases hf with | tup _ h => exact .tup vs cs hl fun j u x a b => ih j u x a b (h x (List.mem_of_getElem? b))
 | slnil => cases hf
 | slemp p cap hm => cases hf
 | lit b n e us hb2 hS hh => cases hf
 | sl b off cap z xs hc hm2 hb hS hz hd _ ih => cases hf
 | pe b off cs hb hS hd _ ih => cases hf
 | box b i off hi h => cases hf
 | own v i g hi h _ => cases hf
 | elt v i g off hi h => cases hf
 | fn f us vs fs cs hl1 hl _ _ ih1 ih => cases hf
 | ifc t v x _ ih => cases hf
 | opt c v x _ h0 ih => cases hf
 | adr T v => cases hf
 | buf e s v => cases hf
 | mh b i hi h => cases hf
 | mp b es hb hS hm => cases hf
 | rc b F vs cs hb hS hc hl _ ih => cases hf
inductive Lent (H : List AO) : List AV → List AV → Prop where
 | nil : Lent H [] []
 | same {x : AV} {l m : List AV} (t : Lent H l m) : Lent H (x :: l) (x :: m)
 | own {i g : Nat} {e : TypeId} {z : Nat} {zs : List AV} {l m : List AV} (hi : H[i]? = some (.row g e z zs)) (hm : zs.length ≤ maxLen) (t : Lent H l m) : Lent H (.own i g :: l) (.sl zs :: m)
theorem row_reads {β : List Hd} {H : List AO} {w : World} (hH : HRel β H w) {i g : Nat} {e : TypeId} {z : Nat} {zs : List AV} (hi : H[i]? = some (.row g e z zs)) {v : Value} (hv : VRep β w v (.own i g)) {β' : List Hd} (hs : ∀ b, v.ownBlock = some b → Still β' b) (hx : Ext β w β' w ∨ ∀ u X, VRep β w u X → VRep β' w u X) : VRep β' w v (.sl zs) := by
 obtain ⟨us, h1, h2, h3, h4⟩ := hv.own_at hH hi
 have hcv : ∀ u X, VRep β w u X → VRep β' w u X := by
   rcases hx with hx | hx
   · exact fun u X h => h.ext hx
   exact hx
 rcases h2.2 with ⟨rfl, h0⟩ | ⟨gb, cap, cur, rfl, _, hgg, hnc, hcm, hcs, htake⟩
 · have : zs = [] := List.eq_nil_of_length_eq_zero h0
   subst this; exact .slnil
 have hgl := (Array.getElem?_eq_some_iff.1 hgg).1
 have hcell : ∀ q u, us[q]? = some u → w.cell? ⟨gb, q, none⟩ = some u := by
   intro q u hq
   have hc := cell_of_row w gb q cur e (0, 0) hgg
   rw [hc]
   rw [← htake, List.getElem?_take] at hq
   split at hq
   · simpa using hq
   cases hq
 have hus : us.length = zs.length * z := h2.1
 have hfl := flat_len' zs h3
 refine .sl gb 0 cap z zs hnc hcm hgl (hs gb rfl) h3 (fun i q x y hi hq => ?_) (fun i q x y u hi hq hu => ?_)
 · have h7 := flat_at zs h3 i q x y hi hq
   have hlt7 : i * z + q < us.length := by rw [hus, ← hfl]; exact (List.getElem?_eq_some_iff.1 h7).1
   exact ⟨_, by rw [Nat.zero_add]; exact hcell _ _ (List.getElem?_eq_getElem hlt7)⟩
 have h7 := flat_at zs h3 i q x y hi hq
 have hlt7 : i * z + q < us.length := by rw [hus, ← hfl]; exact (List.getElem?_eq_some_iff.1 h7).1
 rw [Nat.zero_add, hcell _ _ (List.getElem?_eq_getElem hlt7)] at hu
 cases hu
 exact hcv _ _ (h4 _ _ y (List.getElem?_eq_getElem hlt7) h7)
def Hd.toL : Hd → Hd
 | .row _ _ => .guard []
 | h => .guard h.blks
theorem lent_in {args ax : List AV} {β : List Hd} {H : List AO} {w : World} (hH : HRel β H w) {vs : Array Value} (hv : VReps β w vs args) (hL : Lent H args ax) : HRel (β.map Hd.toL) (List.replicate β.length .guard) w ∧ VReps (β.map Hd.toL) w vs ax := by
 have hget : ∀ (i : Nat) (x : Hd), (β.map Hd.toL)[i]? = some x → ∃ y, β[i]? = some y ∧ x = y.toL := by
   intro i x hx
   rw [List.getElem?_map, Option.map_eq_some_iff] at hx
   obtain ⟨y, h1, h2⟩ := hx
   exact ⟨y, h1, h2.symm⟩
 have hblk : ∀ (y : Hd) (b : Nat), b ∈ y.toL.blks → b ∈ y.blks := by intro y b hb; cases y <;> first | exact hb | cases hb
 have hisg : ∀ y : Hd, ∃ ob, y.toL = .guard ob := by intro y; cases y <;> exact ⟨_, rfl⟩
 have hHc : HRel (β.map Hd.toL) (List.replicate β.length .guard) w := by
   refine ⟨hH.gl.weak (fun b hb x hx e => by
     obtain ⟨y, hy, rfl⟩ := List.mem_map.1 hx
     exact hb y hy (hblk y b e)), by simp, fun i o x h1 h2 => ?_, fun i j hi hj b hne h1 h2 h3 => ?_⟩
   · obtain ⟨y, k1, rfl⟩ := hget i x h2
     have : o = .guard := List.eq_of_mem_replicate (List.mem_of_getElem? h1)
     subst this
     obtain ⟨ob, e⟩ := hisg y
     rw [e]
     intro b hb
     exact hH.lt k1 (hblk y b (by rw [e]; exact hb))
   obtain ⟨y, k1, rfl⟩ := hget i hi h1
   obtain ⟨z, k2, rfl⟩ := hget j hj h2
   exact fun e => hH.ap i j y z b hne k1 k2 (hblk y b h3) (hblk z b e)
 have hst : ∀ b, Still β b → Still (β.map Hd.toL) b := by
   intro b hb x hx e
   obtain ⟨y, hy, rfl⟩ := List.mem_map.1 hx
   exact hb y hy (hblk y b e)
 have hnar : ∀ u X, VRep β w u X → VRep (β.map Hd.toL) w u X := fun u X hu => hu.narrow (by simp) hst
   (fun i x b hb hc => by obtain ⟨y, _, e⟩ := hget i _ hb; obtain ⟨ob, e2⟩ := hisg y; rw [e2] at e; subst e; cases hc)
   (fun i v g hb => by obtain ⟨y, _, e⟩ := hget i _ hb; obtain ⟨ob, e2⟩ := hisg y; rw [e2] at e; cases e)
 have hargs : ∀ (args ax : List AV), Lent H args ax → ∀ us : List Value, us.length = args.length → (∀ (j : Nat) (u : Value) (x : AV), us[j]? = some u → args[j]? = some x → VRep β w u x) →
     args.length = ax.length ∧ ∀ (j : Nat) (u : Value) (x : AV), us[j]? = some u → ax[j]? = some x → VRep (β.map Hd.toL) w u x := by
   intro args ax hL
   induction hL with
   | nil => intro us _ _; exact ⟨rfl, fun j u x _ h => by simp at h⟩
   | @same x l m t ih =>
     intro us hl hu
     cases us with
     | nil => simp at hl
     | cons u us =>
       obtain ⟨i1, i2⟩ := ih us (by simpa using hl) (fun j u x a b => hu (j + 1) u x (by simpa using a) (by simpa using b))
       refine ⟨by simp [i1], fun j u' x' a b => ?_⟩
       cases j with
       | zero => simp at a b; subst a; subst b; exact hnar _ _ (hu 0 _ _ rfl rfl)
       | succ j => exact i2 j u' x' (by simpa using a) (by simpa using b)
   | @own i g e z zs l m hi hm t ih =>
     intro us hl hu
     cases us with
     | nil => simp at hl
     | cons u us =>
       obtain ⟨i1, i2⟩ := ih us (by simpa using hl) (fun j u x a b => hu (j + 1) u x (by simpa using a) (by simpa using b))
       refine ⟨by simp [i1], fun j u' x' a b => ?_⟩
       cases j with
       | zero =>
         simp at a b; subst a; subst b
         have hv0 := hu 0 _ _ rfl rfl
         obtain ⟨us', k1, _⟩ := hv0.own_at hH hi
         refine row_reads hH hi hv0 (fun b hb x hx ex => ?_) (.inr hnar)
         obtain ⟨y, hy, rfl⟩ := List.mem_map.1 hx
         obtain ⟨q, hq, rfl⟩ := List.mem_iff_getElem.1 hy
         by_cases eq : q = i
         · subst eq
           have : β[q] = .row u g := by rw [List.getElem?_eq_getElem hq] at k1; exact Option.some.inj k1
           rw [this] at ex; cases ex
         exact hH.ap i q _ _ b (fun e => eq e.symm) k1 (List.getElem?_eq_getElem hq) (opt_mem.2 hb) (hblk _ b ex)
       | succ j => exact i2 j u' x' (by simpa using a) (by simpa using b)
 obtain ⟨a1, a2⟩ := hargs args ax hL vs.toList (by simpa using hv.1) (fun j u x p q => hv.2 j u x (by simpa using p) q)
 exact ⟨hHc, by rw [hv.1, a1], fun j u x p q => a2 j u x (by simpa using p) q⟩
theorem toL_guard (y : Hd) : ∃ ob, y.toL = .guard ob := by cases y <;> exact ⟨_, rfl⟩
theorem lent_below {β β' : List Hd} {w w' : World} (k1 : Ext (β.map Hd.toL) w β' w') : Below w.heap.size w w' := by
 refine ⟨k1.os, k1.tape, k1.output, k1.size, fun k hk => ?_⟩
 by_cases hs : Still (β.map Hd.toL) k
 · exact k1.block k hk hs
 have : ∃ y, y ∈ β.map Hd.toL ∧ k ∈ y.blks := by
   unfold Still at hs
   simp only [Classical.not_forall] at hs
   obtain ⟨y, hy, h2⟩ := hs
   exact ⟨y, hy, Classical.not_not.1 h2⟩
 obtain ⟨y, hy, hb⟩ := this
 obtain ⟨y0, _, rfl⟩ := List.mem_map.1 hy
 obtain ⟨ob, e⟩ := toL_guard y0
 rw [e] at hb hy
 exact k1.guard ob k hy hb hk
theorem pure_lent {P : Program} {f : FuncId} {args ax : List AV} {r : AV} (h : FnP P f ax r) (hf : Flat r) {β : List Hd} {H : List AO} {w : World} (hH : HRel β H w) {vs : Array Value} (hv : VReps β w vs args) (hL : Lent H args ax) :
   Calls P f vs w fun e w' => ∃ v, e = .returned v ∧ Below w.heap.size w w' ∧ VRep β w' v r := by
 obtain ⟨hHc, ha⟩ := lent_in hH hv hL
 refine (h.2 β.length w (β.map Hd.toL) vs hHc ha).mono ?_
 rintro e w' ⟨v, β', rfl, k1, k2, k3⟩
 exact ⟨v, rfl, lent_below k1, k3.flat hf⟩
theorem new_lent {P : Program} {f : FuncId} {args ax zs : List AV} {e : TypeId} {z : Nat} (h : FnNew P f ax e z zs) (hf : ∀ y, y ∈ zs.flatMap AV.cells → Flat y) {β : List Hd} {H : List AO} {w : World} (hH : HRel β H w) {vs : Array Value} (hv : VReps β w vs args) (hL : Lent H args ax) :
   Calls P f vs w fun ex w' => ∃ v β', ex = .returned v ∧ Ext β w β' w' ∧ HRel β' (H ++ [.row 0 e z zs]) w' ∧ VRep β' w' v (.own H.length 0) := by
 obtain ⟨hHc, ha⟩ := lent_in hH hv hL
 refine (h _ w (β.map Hd.toL) vs hHc ha).mono ?_
 rintro ex w' ⟨v, β', rfl, k1, k2, k3⟩
 have hb := lent_below k1
 obtain ⟨us, q1, q2, q3, q4⟩ := k3.own_at k2 (by rw [List.length_replicate, List.getElem?_append_right (by simp), List.length_replicate, Nat.sub_self]; rfl)
 have hnew : ∀ b, v.ownBlock = some b → w.heap.size ≤ b := by
   intro b hb'
   refine Nat.le_of_not_lt fun hlt => ?_
   have hmem : b ∈ (Hd.row v 0).blks := opt_mem.2 hb'
   by_cases hs : Still (β.map Hd.toL) b
   · exact k1.apart b hlt hs _ (List.mem_of_getElem? q1) hmem
   have : ∃ y, y ∈ β.map Hd.toL ∧ b ∈ y.blks := by
     unfold Still at hs
     simp only [Classical.not_forall] at hs
     obtain ⟨y, hy, h2⟩ := hs
     exact ⟨y, hy, Classical.not_not.1 h2⟩
   obtain ⟨y, hy, hby⟩ := this
   obtain ⟨y0, _, rfl⟩ := List.mem_map.1 hy
   obtain ⟨ob, eo⟩ := toL_guard y0
   rw [eo] at hy hby
   obtain ⟨q, hq, eq⟩ := List.mem_iff_getElem.1 (k1.guard_mem hy)
   have hq2 : β'[q]? = some (.guard ob) := by rw [List.getElem?_eq_getElem hq, eq]
   have hne : (List.replicate β.length AO.guard).length ≠ q := fun e2 => by rw [e2, hq2] at q1; cases q1
   exact k2.ap _ q _ _ b hne q1 hq2 hmem hby
 have hsn := hH.snoc hb (x := .row v 0) (o := .row 0 e z zs) ⟨rfl, us, q2, q3, fun j u y a c => (q4 j u y a c).flat (hf y (List.mem_of_getElem? c))⟩ (fun b hb' => hnew b (opt_mem.1 hb'))
 refine ⟨v, _, rfl, hsn.1, hsn.2, .own _ _ _ (by simp [hH.len]) (fun u g' hb => ?_) (ownsRow_one q2)⟩
 rw [← hH.len, List.getElem?_append_right (Nat.le_refl _), Nat.sub_self] at hb
 cases hb
 exact ⟨Nat.le_refl _, fun _ => rfl⟩
section
variable {P : Program} {ops : Array Oper} {n m : Nat} {QQ : List Kd → Sl → List AO → Prop} {l : List Oper} {ks : List Kd} {σ : Sl} {G L H : List AO} {o : Oper} {gd : Bool}
theorem ARun.callLent {f : Operand} {args : Array Operand} {ats : Array TypeId} {F : FuncId} {fs cs xs ax ax' : List AV} {r Y : AV} {d : Option Tmp} (ho : o.op = .call { callee := .value f, args := args, argTypes := ats }) (hd : o.dst = d) (hn : dstLt n d = true) (hG : gdS ops σ o.guard = some true)
   (hcf : ∀ (va : Array Value) (W : World), (callFunc F va).run P W = .ok (.enter F va) W)
   (hf : Ev true σ f (.fn (.func F) fs cs)) (hx : EvL true σ args.toList xs) (has : fs ++ xs ++ cs = ax) (hL : Lent H ax ax') (hF : FnP P F ax' r) (hfl : Flat r) (hY : optA o.guard true r = Y)
   (hr : ARun P ops n QQ l (ks ++ [.read]) (putS σ d Y) H) : ARun P ops n QQ (o :: l) ks σ H := by
 subst hd; subst hY; subst has
 refine ⟨.read, _, H, hn, ⟨rfl, fun a W β hHr hl K Q hK => ?_⟩, hr⟩
 rw [gd_wanted hG hl, if_pos rfl]
 have h0 := hf.rep rfl hl (by simp [ho, Op.operands, Call.operands])
 generalize hv : a.eval f = v at h0
 cases h0 with
 | fn _ us vs _ _ hl1 hl2 h1 h2 =>
   have ha := EvL.reps (β := β) (W := W) (a := a) hx (fun x hx X h => h.rep rfl hl (by simp only [ho, Op.operands, Call.operands]; exact Array.mem_append.2 (.inr (by simpa using hx))))
   have hus : us.toList.length = fs.length ∧ ∀ (j : Nat) (u : Value) (x : AV), us.toList[j]? = some u → fs[j]? = some x → VRep β W u x := ⟨by simpa using hl1, fun j u x p q => h1 j u x (by simpa using p) q⟩
   have hvs : vs.toList.length = cs.length ∧ ∀ (j : Nat) (u : Value) (x : AV), vs.toList[j]? = some u → cs[j]? = some x → VRep β W u x := ⟨by simpa using hl2, fun j u x p q => h2 j u x (by simpa using p) q⟩
   have hall := reps_append (reps_append hus ha) hvs
   have hrun : (execOp a.eval o).run P W = .ok (.enter F (us ++ args.map a.eval ++ vs)) W := by
     simp [execOp, ho, resolve, hv, Deferred.ofValue, invoke, hcf]
   unfold Oper.wp
   rw [hrun, Oper.upon_enter]
   refine (pure_lent hF hfl hHr (vs := us ++ args.map a.eval ++ vs) ⟨?_, ?_⟩ hL).mono ?_
   · rw [← Array.length_toList]; simpa using hall.1
   · intro j u x p q
     exact hall.2 j u x (by rw [← Array.getElem?_toList] at p; simpa using p) q
   rintro e w' ⟨v', rfl, k1, k3⟩
   refine hK v' w' β (Ext.of_below β k1) (hHr.below k1) ?_
   cases o.guard with
   | none => exact k3
   | some g => exact .opt _ _ _ (fun _ => k3) (fun e => by cases e)
theorem ARun.callLentNew {f : Operand} {args : Array Operand} {ats : Array TypeId} {F j : Nat} {fs cs xs ax ax' zs : List AV} {e : TypeId} {z : Nat} {Y : AV} {d : Option Tmp} (hm : GOK m G) (hj : L.length = j) (ho : o.op = .call { callee := .value f, args := args, argTypes := ats }) (hd : o.dst = d) (hn : dstLt n d = true) (hG : gdS ops σ o.guard = some true)
   (hcf : ∀ (va : Array Value) (W : World), (callFunc F va).run P W = .ok (.enter F va) W)
   (hf : Ev true σ f (.fn (.func F) fs cs)) (hx : EvL true σ args.toList xs) (has : fs ++ xs ++ cs = ax) (hL : Lent (G ++ L) ax ax') (hF : FnNew P F ax' e z zs) (hfl : ∀ y, y ∈ zs.flatMap AV.cells → Flat y) (hY : optA o.guard true (.own (m + j) 0) = Y)
   (hr : ARun P ops n QQ l (ks ++ [.write]) (putS σ d Y) (G ++ (L ++ [.row 0 e z zs]))) : ARun P ops n QQ (o :: l) ks σ (G ++ L) := by
 subst hd; subst hY; subst has
 have hlen : (G ++ L).length = m + j := by rw [List.length_append, hm.1, hj]
 refine ⟨.write, _, G ++ (L ++ [.row 0 e z zs]), hn, fun a W β hHr hl K Q hK => ?_, hr⟩
 rw [gd_wanted hG hl, if_pos rfl]
 have h0 := hf.rep rfl hl (by simp [ho, Op.operands, Call.operands])
 generalize hv : a.eval f = v at h0
 cases h0 with
 | fn _ us vs _ _ hl1 hl2 h1 h2 =>
   have ha := EvL.reps (β := β) (W := W) (a := a) hx (fun x hx X h => h.rep rfl hl (by simp only [ho, Op.operands, Call.operands]; exact Array.mem_append.2 (.inr (by simpa using hx))))
   have hus : us.toList.length = fs.length ∧ ∀ (j : Nat) (u : Value) (x : AV), us.toList[j]? = some u → fs[j]? = some x → VRep β W u x := ⟨by simpa using hl1, fun j u x p q => h1 j u x (by simpa using p) q⟩
   have hvs : vs.toList.length = cs.length ∧ ∀ (j : Nat) (u : Value) (x : AV), vs.toList[j]? = some u → cs[j]? = some x → VRep β W u x := ⟨by simpa using hl2, fun j u x p q => h2 j u x (by simpa using p) q⟩
   have hall := reps_append (reps_append hus ha) hvs
   have hrun : (execOp a.eval o).run P W = .ok (.enter F (us ++ args.map a.eval ++ vs)) W := by
     simp [execOp, ho, resolve, hv, Deferred.ofValue, invoke, hcf]
   unfold Oper.wp
   rw [hrun, Oper.upon_enter]
   refine (new_lent hF hfl hHr (vs := us ++ args.map a.eval ++ vs) ⟨?_, ?_⟩ hL).mono ?_
   · rw [← Array.length_toList]; simpa using hall.1
   · intro j u x p q
     exact hall.2 j u x (by rw [← Array.getElem?_toList] at p; simpa using p) q
   rintro e w' ⟨v', β', rfl, k1, k2, k3⟩
   rw [hlen] at k3
   refine hK v' w' β' k1 (by rw [← List.append_assoc]; exact k2) ?_
   cases o.guard with
   | none => exact k3
   | some g => exact .opt _ _ _ (fun _ => k3) (fun e => by cases e)
theorem ARun.lenOwn {x : Operand} {t e e' : TypeId} {i g z : Nat} {xs : List AV} {Y : AV} {d : Option Tmp} (ho : o.op = .call { callee := .builtin .len, args := #[x], argTypes := #[t] }) (hd : o.dst = d) (hn : dstLt n d = true) (hG : gdS ops σ o.guard = some gd)
   (hu : P.underlying t = some (.slice e)) (hx : Ev gd σ x (.own i g)) (hH : H[i]? = some (.row g e' z xs)) (hY : optA o.guard gd (.int .i64 (xs.length : Int)) = Y)
   (hr : ARun P ops n QQ l (ks ++ [.read]) (putS σ d Y) H) : ARun P ops n QQ (o :: l) ks σ H := by
 refine ARun.read hd hn hG hY (fun hg a W β hHr hl => ⟨.int .i64 xs.length, ?_, .int _ _⟩) hr
 obtain ⟨us, h1, h2, h3, h4⟩ := (hx.rep hg hl (by simp [ho, Op.operands, Call.operands])).own_at hHr hH
 rcases h2.2 with ⟨h5, h6⟩ | ⟨gb, cap, cur, h5, _⟩
 · simp [execOp, ho, resolve, h5, invoke, builtin, Builtin.len_, run_underlying hu, goInt_run, h6]
 simp [execOp, ho, resolve, h5, invoke, builtin, Builtin.len_, run_underlying hu, goInt_run]
theorem ARun.buildOwn {t e : TypeId} {len j : Nat} {parts : Array (Nat × Operand)} {ps : List (Nat × AV)} {z : Nat} {zv : Value} {C xs : List AV} {Y : AV} {d : Option Tmp} (hm : GOK m G) (hj : L.length = j) (ho : o.op = .buildSlice t len parts) (hd : o.dst = d) (hn : dstLt n d = true) (hG : gdS ops σ o.guard = some true)
   (hu : P.underlying t = some (.slice e)) (hz : Sz P e z) (hzv : Zv P e zv) (hzs : zv.cells.size = z) (hbig : len * z ≤ 2 ^ 24)
   (hx : EvP true σ parts.toList ps) (hs : (ps.all fun p => shaped p.2) = true) (hxs : ps.map (·.2) = xs) (hlen : xs.length = len) (hall : (xs.all fun x => Nat.beq x.cells.length z) = true) (hml : len ≤ maxLen)
   (hC : fillA (fun i => some (i * z, z)) ((List.range (len * z)).map fun j => cAV (zv.cells.toList.getD (j % zv.cells.size) default)) ps = some C) (hCx : C = xs.flatMap AV.cells) (hY : optA o.guard true (.own (m + j) 0) = Y)
   (hr : ARun P ops n QQ l (ks ++ [.write]) (putS σ d Y) (G ++ (L ++ [.row 0 e z xs]))) : ARun P ops n QQ (o :: l) ks σ (G ++ L) := by
 rw [← zeros_eq] at hC
 refine ARun.write hd hn hG hY (fun a W β hHr hl => ?_) hr
 obtain ⟨vs', h1, h2⟩ := fill_rep (β := β) (w := W) (a := a) (fun i => some (i * z, z)) parts.toList ps hx (EvP.looks rfl hl (by simp [ho, Op.operands])) hs _ _ C (CRep.zero β W ((Array.range (len * z)).map (zv.cells[· % zv.cells.size]!))) hC
 have hzl : ∀ x, x ∈ xs → x.cells.length = z := fun x hx => Nat.eq_of_beq_eq_true (List.all_eq_true.1 hall x hx)
 have hb : Below W.heap.size W (W.alloc (.cells vs' e)) := (Below.refl _ _).alloc (Nat.le_refl _) _
 have hvl : vs'.size = len * z := by rw [h2.1, hCx, flat_len' xs hzl, hlen]
 have hsn := hHr.snoc (w' := W.alloc (.cells vs' e)) hb (x := .row (.slice (some ⟨W.heap.size, 0, none⟩) len len) 0) (o := .row 0 e z xs) ⟨rfl, vs'.toList, ⟨by simp [hvl, hlen], .inr ⟨W.heap.size, len, vs', by rw [hlen], Nat.zero_le _, heap_alloc_new W _, by omega, hml, hvl, List.take_of_length_le (by simp [hvl, hlen])⟩⟩, hzl, fun q u y a1 a2 => by
   refine VRep.ext ⟨hb.os, hb.tape, hb.output, hb.size, fun k hk _ => hb.block k hk, fun k hk hs y hy => ?_, fun i y hy => ⟨y, by rw [List.getElem?_append_left (List.getElem?_eq_some_iff.1 hy).1]; exact hy, y.to_refl⟩, fun _ b _ _ hlt => hb.block b hlt⟩ (h2.2 q u y (by simpa using a1) (by rw [hCx]; exact a2))
   rcases List.mem_append.1 hy with hy | hy
   · exact hs y hy
   · simp at hy; subst hy; intro e2; simp [Hd.blks, Value.ownBlock] at e2; omega⟩ (fun b hb => by simp [Hd.blks, Value.ownBlock] at hb; omega)
 have hlenb : β.length = m + j := by rw [hHr.len, List.length_append, hm.1, hj]
 refine ⟨.slice (some ⟨W.heap.size, 0, none⟩) len len, _, β ++ [.row (.slice (some ⟨W.heap.size, 0, none⟩) len len) 0], ?_, hsn.1, by rw [← List.append_assoc]; exact hsn.2, .own _ _ _ (by rw [List.length_append, hlenb]; simp) fun u g' hb2 => ?_⟩
 · have hnb : ¬ len * z > 2 ^ 24 := by omega
   by_cases h0 : len * z = 0
   · have e1 : ((Array.range (len * z)).map (zv.cells[· % zv.cells.size]!)) = (#[] : Array Value) := by rw [h0]; simp
     rw [e1] at h1
     have e2 : Array.range 0 = #[] := rfl
     simp [execOp, ho, Instr.buildSlice, run_underlying hu, hz.run, h0, h1, e2, newRow]
   simp [execOp, ho, Instr.buildSlice, run_underlying hu, hz.run, h0, hnb, hzv.run, h1, newRow]
 rw [List.getElem?_append_right (by omega), hlenb, Nat.sub_self] at hb2
 cases hb2; exact ⟨Nat.le_refl _, fun _ => rfl⟩
theorem ARun.callSet {f : Operand} {args : Array Operand} {ats : Array TypeId} {F j : Nat} {fs cs xs ax : List AV} {r Y : AV} {d : Option Tmp} {ob : AO} {L' : List AO} (hm : GOK m G) (ho : o.op = .call { callee := .value f, args := args, argTypes := ats }) (hd : o.dst = d) (hn : dstLt n d = true) (hG : gdS ops σ o.guard = some true)
   (hcf : ∀ (va : Array Value) (W : World), (callFunc F va).run P W = .ok (.enter F va) W)
   (hf : Ev true σ f (.fn (.func F) fs cs)) (hx : EvL true σ args.toList xs) (has : fs ++ xs ++ cs = ax) (hF : FnH P F ax (G ++ L) r ((G ++ L).set (m + j) ob)) (hL : L.set j ob = L') (hY : optA o.guard true r = Y)
   (hr : ARun P ops n QQ l (ks ++ [.write]) (putS σ d Y) (G ++ L')) : ARun P ops n QQ (o :: l) ks σ (G ++ L) :=
 ARun.callH ho hd hn hG hcf hf hx has hF hY (by rw [hm.set, hL]; exact hr)
end
@[simp] theorem flat_int (k : IntKind) (i : Int) : Flat (.int k i) := .int k i
@[simp] theorem flat_bool (b : Bool) : Flat (.bool b) := .bool b
@[simp] theorem flat_str (s : ByteArray) : Flat (.str s) := .str s
@[simp] theorem flat_agg (cs : List AV) : Flat (.agg cs) ↔ ∀ x, x ∈ cs → Flat x := ⟨fun h => by cases h with | agg _ h => exact h, .agg cs⟩
@[simp] theorem flat_tup (cs : List AV) : Flat (.tup cs) ↔ ∀ x, x ∈ cs → Flat x := ⟨fun h => by cases h with | tup _ h => exact h, .tup cs⟩
end Go.Proofs.YtcndnllmlhhjiaaGreatDoor
namespace Go.Proofs.YtcndnllmlhhjiaaGreatDoor
open Go.RowKit
def litV : AV → Value
 | .int k n => .int k n
 | .bool b => .bool b
 | .str s => .string s
 | _ => undef
def litOk : AV → Bool
 | .int _ _ => true
 | .bool _ => true
 | .str _ => true
 | _ => false
theorem VRep.litV {β : List Hd} {w : World} {u : Value} {x : AV} (h : VRep β w u x) (hx : litOk x = true) : u = litV x := by
 cases x <;> first | exact h.int_inv | exact h.bool_inv | exact h.str_inv | cases hx
section
variable {P : Program} {ops : Array Oper} {n m : Nat} {QQ : List Kd → Sl → List AO → Prop} {l : List Oper} {ks : List Kd} {σ : Sl} {G L H : List AO} {o : Oper} {gd : Bool}
theorem ARun.minmax3 {x y z : Operand} {b : Builtin} {ts : Array TypeId} {k : IntKind} {i j q r : Int} {Y : AV} {d : Option Tmp} (ho : o.op = .call { callee := .builtin b, args := #[x, y, z], argTypes := ts }) (hd : o.dst = d) (hn : dstLt n d = true) (hG : gdS ops σ o.guard = some gd)
   (hx : Ev gd σ x (.int k i)) (hy : Ev gd σ y (.int k j)) (hz : Ev gd σ z (.int k q)) (hb : (b = .min ∧ r = min (min i j) q) ∨ (b = .max ∧ r = max (max i j) q)) (hY : optA o.guard gd (.int k r) = Y)
   (hr : ARun P ops n QQ l (ks ++ [.pure]) (putS σ d Y) H) : ARun P ops n QQ (o :: l) ks σ H := by
 refine ARun.same hd hn hG hY (fun hg a W β hl => ⟨.int k r, ?_, .int _ _⟩) hr
 have h1 := (hx.rep hg hl (by simp [ho, Op.operands, Call.operands])).int_inv
 have h2 := (hy.rep hg hl (by simp [ho, Op.operands, Call.operands])).int_inv
 have h3 := (hz.rep hg hl (by simp [ho, Op.operands, Call.operands])).int_inv
 rcases hb with ⟨rfl, rfl⟩ | ⟨rfl, rfl⟩
 · have e1 : (if j < i then j else i) = min i j := by omega
   have e2 : (if q < min i j then q else min i j) = min (min i j) q := by omega
   have hm : (Builtin.min_ ts o.type #[.int k i, .int k j, .int k q]).run P W = .ok (.int k (min (min i j) q)) W := by simp [go_sem, e1, e2]
   simp [execOp, ho, resolve, h1, h2, h3, invoke, builtin, hm]
 have e1 : (if i < j then j else i) = max i j := by omega
 have e2 : (if max i j < q then q else max i j) = max (max i j) q := by omega
 have hm : (Builtin.max_ ts o.type #[.int k i, .int k j, .int k q]).run P W = .ok (.int k (max (max i j) q)) W := by simp [go_sem, e1, e2]
 simp [execOp, ho, resolve, h1, h2, h3, invoke, builtin, hm]
theorem ARun.buildLit {t e : TypeId} {len : Nat} {parts : Array (Nat × Operand)} {ps : List (Nat × AV)} {z : Nat} {zv : Value} {C xs : List AV} {us : List Value} {Y : AV} {d : Option Tmp} (ho : o.op = .buildSlice t len parts) (hd : o.dst = d) (hn : dstLt n d = true) (hG : gdS ops σ o.guard = some gd)
   (hu : P.underlying t = some (.slice e)) (hz : Sz P e z) (hzv : Zv P e zv) (hbig : len * z ≤ 2 ^ 24)
   (hx : EvP gd σ parts.toList ps) (hs : (ps.all fun p => shaped p.2) = true) (hxs : ps.map (·.2) = xs)
   (hC : fillA (fun i => some (i * z, z)) ((List.range (len * z)).map fun j => cAV (zv.cells.toList.getD (j % zv.cells.size) default)) ps = some C) (hCx : C = xs.flatMap AV.cells) (hlit : (C.all litOk) = true) (hus : C.map litV = us) (hY : optA o.guard gd (.lit len e us) = Y)
   (hr : ARun P ops n QQ l (ks ++ [.pure]) (putS σ d Y) H) : ARun P ops n QQ (o :: l) ks σ H := by
 rw [← zeros_eq] at hC
 refine ARun.valH hd hn hG hY (fun hg a W β hβ hl => ?_) hr
 obtain ⟨vs', h1, h2⟩ := fill_rep (β := β) (w := W) (a := a) (fun i => some (i * z, z)) parts.toList ps hx (EvP.looks hg hl (by simp [ho, Op.operands])) hs _ _ C (CRep.zero β W ((Array.range (len * z)).map (zv.cells[· % zv.cells.size]!))) hC
 refine ⟨.slice (some ⟨W.heap.size, 0, none⟩) len len, W.alloc (.cells vs' e), ?_, (Below.refl _ _).alloc (Nat.le_refl _) _, ?_⟩
 · have hnb : ¬ len * z > 2 ^ 24 := by omega
   by_cases h0 : len * z = 0
   · have e1 : ((Array.range (len * z)).map (zv.cells[· % zv.cells.size]!)) = (#[] : Array Value) := by rw [h0]; simp
     rw [e1] at h1
     have e2 : Array.range 0 = #[] := rfl
     simp [execOp, ho, Instr.buildSlice, run_underlying hu, hz.run, h0, h1, e2, newRow]
   simp [execOp, ho, Instr.buildSlice, run_underlying hu, hz.run, h0, hnb, hzv.run, h1, newRow]
 have hv : vs'.toList = us := by
   rw [← hus]
   refine List.ext_getElem? fun j => ?_
   rw [List.getElem?_map]
   by_cases hj : j < C.length
   · have hj2 : j < vs'.size := by rw [h2.1]; exact hj
     have h3 := h2.2 j _ _ (Array.getElem?_eq_getElem hj2) (List.getElem?_eq_getElem hj)
     rw [Array.getElem?_toList, Array.getElem?_eq_getElem hj2, List.getElem?_eq_getElem hj, h3.litV (List.all_eq_true.1 hlit _ (List.getElem_mem hj))]; rfl
   rw [List.getElem?_eq_none (by simp [h2.1]; omega), List.getElem?_eq_none (by omega)]; rfl
 refine .lit W.heap.size len e us (by simp) (fun y hy e => by have := hβ y hy _ e; omega) ?_
 rw [← hv]
 exact heap_alloc_new W _
end
theorem VRep.lit_inv {β : List Hd} {w : World} {v : Value} {n : Nat} {e : TypeId} {us : List Value} (h : VRep β w v (.lit n e us)) : ∃ b, v = .slice (some ⟨b, 0, none⟩) n n ∧ b < w.heap.size ∧ Still β b ∧ w.heap[b]? = some (.cells us.toArray e (0, 0)) := by
 cases h with
 | lit b _ _ _ hb hS hh => exact ⟨b, rfl, hb, hS, hh⟩
section
variable {P : Program} {ops : Array Oper} {n m : Nat} {QQ : List Kd → Sl → List AO → Prop} {l : List Oper} {ks : List Kd} {σ : Sl} {G L H : List AO} {o : Oper} {gd : Bool}
theorem ARun.buildNil {t e : TypeId} {z j p : Nat} {parts : Array (Nat × Operand)} {ps : List (Nat × AV)} {zv : Value} {C : List AV} {Y : AV} {d : Option Tmp} (hm : GOK m G) (hj : L.length = j) (ho : o.op = .build t parts) (hd : o.dst = d) (hn : dstLt n d = true) (hg : gdS ops σ o.guard = some true)
   {pl : List (Nat × Nat)} (hst : StOk P t zv pl) (hp : zv.cells[p]? = some (.slice none 0 0))
   (hx : EvP true σ parts.toList ps) (hs : (ps.all fun p => shaped p.2) = true) (hC : fillA (fun i => pl[i]?) ((zv.cells.toList.map cAV).set p (.own (m + j) 0)) ps = some C) (hY : optA o.guard true (.agg C) = Y)
   (hr : ARun P ops n QQ l (ks ++ [.new]) (putS σ d Y) (G ++ (L ++ [.row 0 e z []]))) : ARun P ops n QQ (o :: l) ks σ (G ++ L) := by
 refine ARun.new (E := [.row 0 e z []]) hd hn hg hY (fun H0 hl0 a W β hHr hl => ?_) (by rw [List.append_assoc]; exact hr)
 obtain ⟨fields, hu, hz, hinfo, hpl⟩ := hst
 change placesOf P fields.toList = pl at hpl
 subst hpl
 have hlen : β.length = m + j := by rw [hHr.len, hl0, List.length_append, hm.1, hj]
 have hsn := hHr.snoc (w' := W) (Below.refl _ _) (x := .row (.slice none 0 0) 0) (o := .row 0 e z []) ⟨rfl, [], World.ownsRow_nil W 0 e z, (fun x hx => by cases hx), (fun q u y h1 => by simp at h1)⟩ (fun b hb => by simp [Hd.blks, Value.ownBlock] at hb)
 have hown : VRep (β ++ [.row (.slice none 0 0) 0]) W (.slice none 0 0) (.own (m + j) 0) := by
   refine .own _ _ _ (by rw [List.length_append, hlen]; simp) (fun u g' hb => ?_)
   rw [List.getElem?_append_right (by omega), hlen, Nat.sub_self] at hb
   cases hb; exact ⟨Nat.le_refl _, fun _ => rfl⟩
 have hcr : CRep (β ++ [.row (.slice none 0 0) 0]) W zv.cells ((zv.cells.toList.map cAV).set p (.own (m + j) 0)) := by
   refine ⟨by simp, fun q u x h1 h2 => ?_⟩
   have hpl' : p < zv.cells.size := (Array.getElem?_eq_some_iff.1 hp).1
   by_cases e1 : p = q
   · subst e1
     rw [List.getElem?_set_self (by simpa using hpl')] at h2
     cases h2
     rw [hp] at h1; cases h1
     exact hown
   rw [List.getElem?_set_ne e1, List.getElem?_map, Array.getElem?_toList, h1] at h2
   cases h2; exact cAV_rep _ _ _
 obtain ⟨vs', h1, h2⟩ := fill_rep (β := β ++ [.row (.slice none 0 0) 0]) (w := W) (a := a) (fun i => (placesOf P fields.toList)[i]?) parts.toList ps hx (fun x hx' X hX => (EvP.looks rfl hl (by simp [ho, Op.operands]) x hx' X hX).ext hsn.1) hs _ _ C hcr hC
 refine ⟨.agg vs', W, _, ?_, hsn.1, hsn.2, .agg _ _ h2.1 h2.2⟩
 have h3 := places_run (P := P) (w := W) fields.toList hinfo
 have h4 : (fields.mapM (m := Sem) fun f => do pure (f.offset, ← sizeOf f.type)).run P W = .ok (placesOf P fields.toList).toArray W := by
   rw [Array.mapM_eq_mapM_toList]
   have h3' : (List.mapM (m := Sem) (fun f : Field => Prod.mk f.offset <$> sizeOf f.type) fields.toList).run P W = .ok (placesOf P fields.toList) W := by simpa using h3
   simp [h3']
 have h4' : (Array.mapM (m := Sem) (fun f : Field => Prod.mk f.offset <$> sizeOf f.type) fields).run P W = .ok (placesOf P fields.toList).toArray W := by simpa using h4
 have h6 : (Instr.build t (parts.map fun (i, x) => (i, a.eval x))).run P W = .ok (.agg vs') W := by
   unfold Instr.build
   simp only [Sem.run_bind, hz.run, run_underlying hu]
   simp [h4', h1]
 simp only [execOp, ho]
 simp [h6]
end
theorem AWP.frzIn {P : Program} {n m : Nat} {c : Code} {Q : QA} {σ : Sl} {G L : List AO} {j q p g : Nat} {e : TypeId} {z : Nat} {xs cs : List AV} {L' : List AO} (hm : GOK m G) (hj : L[j]? = some (.row g e z xs)) (hml : xs.length ≤ maxLen) (hq : L[q]? = some (.box cs)) (hp : cs[p]? = some (.own (m + j) g)) (hL : (L.set j .dead).set q (.box (cs.set p (.sl xs))) = L')
   (h : AWP P n m c Q σ G L') : AWP P n m c Q σ G L := by
 intro D a W β hmG hn hd hHr hs0
 have hjq : j ≠ q := by intro e; subst e; rw [hj] at hq; cases hq
 have hiH : (G ++ L)[m + j]? = some (.row g e z xs) := by rw [hm.at]; exact hj
 have hiq : (G ++ L)[m + q]? = some (.box cs) := by rw [hm.at]; exact hq
 obtain ⟨hlt, v, hβ⟩ : m + j < β.length ∧ ∃ v, β[m + j]? = some (.row v g) := by
   have hlt : m + j < β.length := by rw [hHr.len]; exact (List.getElem?_eq_some_iff.1 hiH).1
   refine ⟨hlt, ?_⟩
   have ho := hHr.ob _ _ _ hiH (List.getElem?_eq_getElem hlt)
   cases hb : β[m + j] with
   | box b => rw [hb] at ho; exact ho.elim
   | dead => rw [hb] at ho; exact ho.elim
   | guard b => rw [hb] at ho; exact ho.elim
   | map b => rw [hb] at ho; exact ho.elim
   | bld b v => rw [hb] at ho; exact ho.elim
   | row v' g' => rw [hb] at ho; obtain ⟨rfl, _⟩ := ho; exact ⟨v', by rw [List.getElem?_eq_getElem hlt, hb]⟩
 have hdead := hHr.change hβ (x' := .dead) (o := .dead) trivial (fun _ e => by cases e) rfl rfl rfl (Nat.le_refl _) (fun _ _ _ => rfl) (fun b hb => by cases hb) (fun _ => trivial)
 obtain ⟨hext, hH1⟩ := hdead
 have hrow : ∀ u, VRep β W u (.own (m + j) g) → VRep (β.set (m + j) .dead) W u (.sl xs) := by
   intro u hu
   refine row_reads hHr hiH hu (fun b hb x hx e5 => ?_) (.inl hext)
   obtain ⟨us, k1, _⟩ := hu.own_at hHr hiH
   obtain ⟨k, hk, rfl⟩ := List.mem_iff_getElem.1 hx
   have hk2 : (β.set (m + j) .dead)[k]? = some ((β.set (m + j) .dead)[k]) := List.getElem?_eq_getElem hk
   by_cases e : m + j = k
   · subst e; rw [List.getElem_set_self] at e5; cases e5
   rw [List.getElem?_set_ne e] at hk2
   exact hHr.ap _ _ _ _ b e k1 hk2 (opt_mem.2 hb) e5
 have hH2 : HRel (β.set (m + j) .dead) (G ++ L') W := by
   have e1 : G ++ L' = ((G ++ L).set (m + j) .dead).set (m + q) (.box (cs.set p (.sl xs))) := by rw [hm.set, hm.set, hL]
   rw [e1]
   refine ⟨hH1.gl, by rw [hH1.len]; simp, fun i o x h1 h2 => ?_, hH1.ap⟩
   by_cases e : m + q = i
   · subst e
     have hltq : m + q < ((G ++ L).set (m + j) .dead).length := by rw [List.length_set]; exact (List.getElem?_eq_some_iff.1 hiq).1
     rw [List.getElem?_set_self hltq] at h1
     cases h1
     have hold : ((G ++ L).set (m + j) .dead)[m + q]? = some (.box cs) := by rw [List.getElem?_set_ne (by omega)]; exact hiq
     have ho := hH1.ob _ _ _ hold h2
     have hrep : ∀ (arr : Array Value), arr.size = cs.length → (∀ (k : Nat) (u : Value) (y : AV), arr[k]? = some u → cs[k]? = some y → VRep β W u y) → ∀ (k : Nat) (u : Value) (y : AV), arr[k]? = some u → (cs.set p (.sl xs))[k]? = some y → VRep (β.set (m + j) .dead) W u y := by
       intro arr hsz hr k u y h3 h4
       by_cases e : p = k
       · subst e
         rw [List.getElem?_set_self (List.getElem?_eq_some_iff.1 hp).1] at h4
         cases h4
         exact hrow u (hr _ u _ h3 hp)
       rw [List.getElem?_set_ne e] at h4
       exact (hr k u y h3 h4).ext hext
     have h2' : β[m + q]? = some x := by rw [List.getElem?_set_ne (by omega)] at h2; exact h2
     have ho0 := hHr.ob _ _ _ hiq h2'
     cases x with
     | box b =>
       obtain ⟨arr, T, k1, k2, k3, k4⟩ := ho0
       refine ⟨arr, T, k1, by simpa using k2, hrep arr k2 k3, ?_⟩
       rw [List.all_eq_true] at k4 ⊢
       intro y hy
       rcases List.mem_or_eq_of_mem_set hy with hy | rfl
       · exact k4 y hy
       rfl
     | bld b v =>
       obtain ⟨arr, T, k1, k2, k3, e', s', q1, q2, q3⟩ := ho0
       refine ⟨arr, T, k1, by simpa using k2, hrep arr k2 k3, e', s', ?_, ?_, q3⟩
       · rw [List.getElem?_set_ne]; exact q1
         intro e; subst e; rw [hp] at q1; cases q1
       rw [List.getElem?_set_ne]; exact q2
       intro e; subst e; rw [hp] at q2; cases q2
     | row v g => exact ho0.elim
     | dead => exact ho0.elim
     | guard bs => exact ho0.elim
     | map b => exact ho0.elim
   rw [List.getElem?_set_ne e] at h1
   exact hH1.ob i o x h1 h2
 refine Code.wp_mono (fun e a' W' hp => hp.ext hext) (h D a W _ hmG hn hd hH2 fun t X ht => ?_)
 obtain ⟨u, k1, k2⟩ := hs0 t X ht
 exact ⟨u, k1, k2.ext hext⟩
end Go.Proofs.YtcndnllmlhhjiaaGreatDoor
namespace Go.Proofs.YtcndnllmlhhjiaaGreatDoor
open Go.RowKit
theorem VRep.ifc_inv {β : List Hd} {w : World} {v : Value} {t : TypeId} {X : AV} (h : VRep β w v (.ifc t X)) : ∃ u, v = .iface t u ∧ VRep β w u X := by
 cases h with
 | ifc _ u _ h => exact ⟨u, rfl, h⟩
theorem VRep.pe_inv {β : List Hd} {w : World} {v : Value} {cs : List AV} (h : VRep β w v (.pe cs)) : ∃ b off, v = .pointer (some ⟨b, off, none⟩) ∧ b < w.heap.size ∧ Still β b ∧ ∀ (j : Nat) (y : AV), cs[j]? = some y → ∃ u, w.cell? ⟨b, off + j, none⟩ = some u ∧ VRep β w u y := by
 cases h with
 | pe b off _ hb hS hd h =>
   refine ⟨b, off, rfl, hb, hS, fun j y hy => ?_⟩
   obtain ⟨u, hu⟩ := hd j y hy
   exact ⟨u, hu, h j y u hy hu⟩
theorem VRep.agg_inv {β : List Hd} {w : World} {v : Value} {cs : List AV} (h : VRep β w v (.agg cs)) : ∃ vs, v = .agg vs ∧ vs.size = cs.length ∧ ∀ (j : Nat) (u : Value) (x : AV), vs[j]? = some u → cs[j]? = some x → VRep β w u x := by
 cases h with
 | agg vs _ hl h => exact ⟨vs, rfl, hl, h⟩
theorem VRep.agg1 {β : List Hd} {w : World} {v : Value} {a : AV} (h : VRep β w v (.agg [a])) : ∃ u, v = .agg #[u] ∧ VRep β w u a := by
 obtain ⟨vs, rfl, hl, h⟩ := h.agg_inv
 have h0 : vs[0]? = some (vs[0]'(by simp [hl])) := Array.getElem?_eq_getElem _
 refine ⟨vs[0]'(by simp [hl]), ?_, h 0 _ _ h0 rfl⟩
 congr 1
 exact Array.ext (by simpa using hl) fun i h1 h2 => by
   have : i = 0 := by simp at h2; omega
   subst this; rfl
theorem VRep.agg3 {β : List Hd} {w : World} {v : Value} {a b c : AV} (h : VRep β w v (.agg [a, b, c])) : ∃ x y z, v = .agg #[x, y, z] ∧ VRep β w x a ∧ VRep β w y b ∧ VRep β w z c := by
 obtain ⟨vs, rfl, hl, h⟩ := h.agg_inv
 simp at hl
 have g : ∀ j (hj : j < vs.size), vs[j]? = some vs[j] := fun j hj => Array.getElem?_eq_getElem hj
 refine ⟨vs[0], vs[1], vs[2], ?_, h 0 _ _ (g 0 (by omega)) rfl, h 1 _ _ (g 1 (by omega)) rfl, h 2 _ _ (g 2 (by omega)) rfl⟩
 congr 1
 exact Array.ext (by simpa using hl) fun i h1 h2 => by
   have : i = 0 ∨ i = 1 ∨ i = 2 := by simp at h2; omega
   rcases this with rfl | rfl | rfl <;> rfl
theorem VRep.mk1 {β : List Hd} {w : World} {u : Value} {a : AV} (h : VRep β w u a) : VRep β w (.agg #[u]) (.agg [a]) :=
 .agg _ _ rfl fun j u' x h1 h2 => by
   cases j with
   | zero => simp at h1 h2; subst h1 h2; exact h
   | succ j => simp at h1
theorem VRep.mk3 {β : List Hd} {w : World} {x y z : Value} {a b c : AV} (h1 : VRep β w x a) (h2 : VRep β w y b) (h3 : VRep β w z c) : VRep β w (.agg #[x, y, z]) (.agg [a, b, c]) :=
 .agg _ _ rfl fun j u' q k1 k2 => by
   match j with
   | 0 => simp at k1 k2; subst k1 k2; exact h1
   | 1 => simp at k1 k2; subst k1 k2; exact h2
   | 2 => simp at k1 k2; subst k1 k2; exact h3
   | j + 3 => simp at k1
theorem VRep.tup2 {β : List Hd} {w : World} {x y : Value} {a b : AV} (h1 : VRep β w x a) (h2 : VRep β w y b) : VRep β w (.tuple #[x, y]) (.tup [a, b]) :=
 .tup _ _ rfl fun j u' q k1 k2 => by
   match j with
   | 0 => simp at k1 k2; subst k1 k2; exact h1
   | 1 => simp at k1 k2; subst k1 k2; exact h2
   | j + 2 => simp at k1
def nilA : AV → Option Bool
 | .raw .nilIface => some true
 | .ifc _ _ => some false
 | _ => none
def nilP : AV → Option Bool
 | .raw (.pointer none) => some true
 | .pe _ => some false
 | _ => none
theorem nilA_val {β : List Hd} {w : World} {v : Value} {X : AV} {b : Bool} (h : VRep β w v X) (hb : nilA X = some b) : (b = true ∧ v = .nilIface) ∨ (b = false ∧ ∃ t u, v = .iface t u) := by
 unfold nilA at hb
 split at hb
 · cases hb; exact .inl ⟨rfl, h.raw_inv⟩
 · cases hb; obtain ⟨u, rfl, _⟩ := h.ifc_inv; exact .inr ⟨rfl, _, _, rfl⟩
 cases hb
theorem nilP_val {β : List Hd} {w : World} {v : Value} {X : AV} {b : Bool} (h : VRep β w v X) (hb : nilP X = some b) : (b = true ∧ v = .pointer none) ∨ (b = false ∧ ∃ a, v = .pointer (some a)) := by
 unfold nilP at hb
 split at hb
 · cases hb; exact .inl ⟨rfl, h.raw_inv⟩
 · cases hb; obtain ⟨b, off, rfl, _⟩ := h.pe_inv; exact .inr ⟨rfl, _, rfl⟩
 cases hb
theorem eqIn_ptr (P : Program) (W : World) {t e : TypeId} (hu : P.underlying t = some (.pointer e)) (a : Option Addr) (d : Nat) : (Op.equalIn (d + 1) t (.pointer a) (.pointer none)).run P W = .ok a.isNone W := by
 cases a <;> simp [Op.equalIn, run_underlying hu]
theorem eqIn_nil (P : Program) (W : World) {t : TypeId} {ms : Array (String × TypeId)} (hu : P.underlying t = some (.interface ms)) {v : Value} {b : Bool} (h : (b = true ∧ v = .nilIface) ∨ (b = false ∧ ∃ t u, v = .iface t u)) (d : Nat) : (Op.equalIn (d + 1) t v .nilIface).run P W = .ok b W := by
 rcases h with ⟨rfl, rfl⟩ | ⟨rfl, t', u, rfl⟩ <;> simp [Op.equalIn, run_underlying hu]
theorem run_eqlP_none (P : Program) (W : World) {t e : TypeId} (hu : P.underlying t = some (.pointer e)) (a : Option Addr) : (binOp .eql t (.pointer a) (.pointer none)).run P W = .ok (.bool a.isNone) W := by
 simp only [binOp]
 simp [Op.equal, Op.maxDepth, eqIn_ptr P W hu a 9999]
theorem run_neqP_none (P : Program) (W : World) {t e : TypeId} (hu : P.underlying t = some (.pointer e)) (a : Option Addr) : (binOp .neq t (.pointer a) (.pointer none)).run P W = .ok (.bool (!a.isNone)) W := by
 simp only [binOp]
 simp [Op.equal, Op.maxDepth, eqIn_ptr P W hu a 9999]
theorem run_eqlI_nil (P : Program) (W : World) {t : TypeId} {ms : Array (String × TypeId)} (hu : P.underlying t = some (.interface ms)) {v : Value} {b : Bool} (h : (b = true ∧ v = .nilIface) ∨ (b = false ∧ ∃ t u, v = .iface t u)) : (binOp .eql t v .nilIface).run P W = .ok (.bool b) W := by
 have h1 := eqIn_nil P W hu h 9999
 have h2 : (Op.equal t v .nilIface).run P W = .ok b W := by simpa [Op.equal, Op.maxDepth] using h1
 rcases h with ⟨rfl, rfl⟩ | ⟨rfl, t', u, rfl⟩ <;> simp only [binOp] <;> simp [h2]
theorem run_neqI_nil (P : Program) (W : World) {t : TypeId} {ms : Array (String × TypeId)} (hu : P.underlying t = some (.interface ms)) {v : Value} {b : Bool} (h : (b = true ∧ v = .nilIface) ∨ (b = false ∧ ∃ t u, v = .iface t u)) : (binOp .neq t v .nilIface).run P W = .ok (.bool (!b)) W := by
 have h1 := eqIn_nil P W hu h 9999
 have h2 : (Op.equal t v .nilIface).run P W = .ok b W := by simpa [Op.equal, Op.maxDepth] using h1
 rcases h with ⟨rfl, rfl⟩ | ⟨rfl, t', u, rfl⟩ <;> simp only [binOp] <;> simp [h2]
def FnX (P : Program) (f : FuncId) (args : List AV) (H : List AO) (r : AV) (H' : List AO) : Prop :=
 ∀ (w : World) (β : List Hd) (vs : Array Value), HRel β H w → VReps β w vs args →
   ∃ v w' β', (callFunc f vs).run P w = .ok (.value v) w' ∧ Ext β w β' w' ∧ HRel β' H' w' ∧ VRep β' w' v r
def FnXP (P : Program) (f : FuncId) (args : List AV) (r : AV) : Prop :=
 ∀ (w : World) (β : List Hd) (vs : Array Value), (∀ h, h ∈ β → ∀ b, b ∈ h.blks → b < w.heap.size) → VReps β w vs args →
   ∃ v w', (callFunc f vs).run P w = .ok (.value v) w' ∧ Below w.heap.size w w' ∧ VRep β w' v r
theorem VReps.lits {β : List Hd} {w : World} {vs : Array Value} {xs : List AV} (h : VReps β w vs xs) (hx : xs.all litOk = true) : vs = (xs.map litV).toArray := by
 refine Array.ext (by simpa using h.1) fun i h1 h2 => ?_
 have hi : i < xs.length := by rw [← h.1]; exact h1
 have := (h.2 i _ _ (Array.getElem?_eq_getElem h1) (List.getElem?_eq_getElem hi)).litV (List.all_eq_true.1 hx _ (List.getElem_mem hi))
 simpa using this
theorem FnP.of_calls {P : Program} {F : FuncId} {args : List AV} {r : AV} (hx : args.all litOk = true) (hr : NoH 0 r) (hf : Flat r) (h : ∀ w, Calls P F (args.map litV).toArray w fun e w' => ∃ v, e = .returned v ∧ Below w.heap.size w w' ∧ VRep [] w' v r) : FnP P F args r := by
 refine ⟨hr, fun k w β vs hH hv => ?_⟩
 rw [hv.lits hx]
 refine (h w).mono ?_
 rintro e w' ⟨v, rfl, hb, hv2⟩
 refine ⟨v, β, rfl, Ext.of_below β hb, hH.below hb, ?_⟩
 exact hv2.flat hf
def Inv (P : Program) (X : AV) (name : String) (F : FuncId) (X' : AV) : Prop :=
 ∀ (W : World) (β : List Hd) (u : Value), VRep β W u X → ∃ t v v', u = .iface t v ∧ (method (P.types.size + Made.depth) t v name).run P W = .ok (F, v') W ∧ VRep β W v' X'
theorem VReps.cons {β : List Hd} {w : World} {v : Value} {x : AV} {vs : Array Value} {xs : List AV} (h : VRep β w v x) (t : vs.toList.length = xs.length ∧ ∀ (j : Nat) (u : Value) (x : AV), vs.toList[j]? = some u → xs[j]? = some x → VRep β w u x) : VReps β w (#[v] ++ vs) (x :: xs) := by
 have hl : vs.size = xs.length := by simpa using t.1
 refine ⟨by simp [hl]; omega, fun j u y h1 h2 => ?_⟩
 rw [← Array.getElem?_toList] at h1
 simp only [Array.toList_append, List.singleton_append] at h1
 cases j with
 | zero => simp at h1 h2; subst h1 h2; exact h
 | succ j => exact t.2 j u y (by simpa using h1) (by simpa using h2)
theorem VReps.two {β : List Hd} {w : World} {vs : Array Value} {x y : AV} (h : VReps β w vs [x, y]) : ∃ a b, vs = #[a, b] ∧ VRep β w a x ∧ VRep β w b y := by
 obtain ⟨hl, h⟩ := h
 simp at hl
 have g : ∀ j (hj : j < vs.size), vs[j]? = some vs[j] := fun j hj => Array.getElem?_eq_getElem hj
 refine ⟨vs[0], vs[1], ?_, h 0 _ _ (g 0 (by omega)) rfl, h 1 _ _ (g 1 (by omega)) rfl⟩
 exact Array.ext (by simpa using hl) fun i h1 h2 => by
   have : i = 0 ∨ i = 1 := by simp at h2; omega
   rcases this with rfl | rfl <;> rfl
theorem VReps.single {β : List Hd} {w : World} {vs : Array Value} {x : AV} (h : VReps β w vs [x]) : ∃ a, vs = #[a] ∧ VRep β w a x := by
 obtain ⟨hl, h⟩ := h
 simp at hl
 have g : ∀ j (hj : j < vs.size), vs[j]? = some vs[j] := fun j hj => Array.getElem?_eq_getElem hj
 refine ⟨vs[0], ?_, h 0 _ _ (g 0 (by omega)) rfl⟩
 exact Array.ext (by simpa using hl) fun i h1 h2 => by
   have : i = 0 := by simp at h2; omega
   subst this; rfl
section
variable {P : Program} {ops : Array Oper} {n m : Nat} {QQ : List Kd → Sl → List AO → Prop} {l : List Oper} {ks : List Kd} {σ : Sl} {G L H : List AO} {o : Oper} {gd : Bool}
theorem ARun.isNil {bo : BinOp} {x : Operand} {t1 t2 : TypeId} {ms : Array (String × TypeId)} {X : AV} {b r : Bool} {Y : AV} {d : Option Tmp} (ho : o.op = .binOp bo t1 x (.const .nilIface) t2) (hd : o.dst = d) (hn : dstLt n d = true) (hG : gdS ops σ o.guard = some gd)
   (hu : P.underlying t1 = some (.interface ms)) (hx : Ev gd σ x X) (hX : gd = true → nilA X = some b) (hb : bo = .eql ∧ r = b ∨ bo = .neq ∧ r = !b) (hY : optA o.guard gd (.bool r) = Y)
   (hr : ARun P ops n QQ l (ks ++ [.pure]) (putS σ d Y) H) : ARun P ops n QQ (o :: l) ks σ H := by
 refine ARun.same hd hn hG hY (fun hg a W β hl => ⟨.bool r, ?_, .bool _⟩) hr
 have h1 := nilA_val (hx.rep hg hl (by simp [ho, Op.operands])) (hX hg)
 have hgu : (eqGuard bo t1 x (.const .nilIface) (a.eval x) .nilIface).run P W = .ok () W := by
   rcases h1 with ⟨_, h⟩ | ⟨_, t, u, h⟩ <;> rw [h] <;> rcases hb with ⟨rfl, _⟩ | ⟨rfl, _⟩ <;> simp [eqGuard]
 have hc : a.eval (.const .nilIface) = .nilIface := rfl
 rcases hb with ⟨rfl, rfl⟩ | ⟨rfl, rfl⟩
 · simp [execOp, ho, hc, hgu, run_eqlI_nil P W hu h1]
 simp [execOp, ho, hc, hgu, run_neqI_nil P W hu h1]
theorem ARun.isNilP {bo : BinOp} {x : Operand} {t1 t2 e : TypeId} {X : AV} {b r : Bool} {Y : AV} {d : Option Tmp} (ho : o.op = .binOp bo t1 x (.const (.pointer none)) t2) (hd : o.dst = d) (hn : dstLt n d = true) (hG : gdS ops σ o.guard = some gd)
   (hu : P.underlying t1 = some (.pointer e)) (hx : Ev gd σ x X) (hX : gd = true → nilP X = some b) (hb : bo = .eql ∧ r = b ∨ bo = .neq ∧ r = !b) (hY : optA o.guard gd (.bool r) = Y)
   (hr : ARun P ops n QQ l (ks ++ [.pure]) (putS σ d Y) H) : ARun P ops n QQ (o :: l) ks σ H := by
 refine ARun.same hd hn hG hY (fun hg a W β hl => ⟨.bool r, ?_, .bool _⟩) hr
 have h1 := nilP_val (hx.rep hg hl (by simp [ho, Op.operands])) (hX hg)
 have hc : a.eval (.const (.pointer none)) = .pointer none := rfl
 have hgu : ∀ u, (eqGuard bo t1 x (.const (.pointer none)) u (.pointer none)).run P W = .ok () W := by
   intro u
   unfold eqGuard
   cases u <;> simp
 rcases h1 with ⟨rfl, h⟩ | ⟨rfl, p, h⟩ <;> rcases hb with ⟨rfl, rfl⟩ | ⟨rfl, rfl⟩
 · simp [execOp, ho, hc, h, hgu, run_eqlP_none P W hu]
 · simp [execOp, ho, hc, h, hgu, run_neqP_none P W hu]
 · simp [execOp, ho, hc, h, hgu, run_eqlP_none P W hu]
 simp [execOp, ho, hc, h, hgu, run_neqP_none P W hu]
theorem ARun.isNilBox {bo : BinOp} {x : Operand} {t1 t2 e : TypeId} {i off : Nat} {cs : List AV} {r : Bool} {Y : AV} {d : Option Tmp} (ho : o.op = .binOp bo t1 x (.const (.pointer none)) t2) (hd : o.dst = d) (hn : dstLt n d = true) (hG : gdS ops σ o.guard = some gd)
   (hu : P.underlying t1 = some (.pointer e)) (hx : Ev gd σ x (.box i off)) (hH : H[i]? = some (.box cs)) (hb : bo = .eql ∧ r = false ∨ bo = .neq ∧ r = true) (hY : optA o.guard gd (.bool r) = Y)
   (hr : ARun P ops n QQ l (ks ++ [.pure]) (putS σ d Y) H) : ARun P ops n QQ (o :: l) ks σ H := by
 refine ARun.same hd hn hG hY (fun hg a W β hl => ⟨.bool r, ?_, .bool _⟩) hr
 obtain ⟨b, h2, _⟩ := (hx.rep hg hl (by simp [ho, Op.operands])).box_inv
 have hc : a.eval (.const (.pointer none)) = .pointer none := rfl
 have hgu : ∀ u, (eqGuard bo t1 x (.const (.pointer none)) u (.pointer none)).run P W = .ok () W := by
   intro u
   unfold eqGuard
   cases u <;> simp
 rcases hb with ⟨rfl, rfl⟩ | ⟨rfl, rfl⟩
 · simp [execOp, ho, hc, h2, hgu, run_eqlP_none P W hu]
 simp [execOp, ho, hc, h2, hgu, run_neqP_none P W hu]
theorem ARun.assertV {x : Operand} {xT I : TypeId} {ok : Bool} {X R Y : AV} {d : Option Tmp} (ho : o.op = .typeAssert x xT I ok) (hd : o.dst = d) (hn : dstLt n d = true) (hG : gdS ops σ o.guard = some gd)
   (hx : Ev gd σ x X) (hb : gd = true → ∀ (W : World) (β : List Hd) (u : Value), VRep β W u X → ∃ v, (Instr.typeAssert u xT I ok).run P W = .ok v W ∧ VRep β W v R) (hY : optA o.guard gd R = Y)
   (hr : ARun P ops n QQ l (ks ++ [.pure]) (putS σ d Y) H) : ARun P ops n QQ (o :: l) ks σ H := by
 refine ARun.same hd hn hG hY (fun hg a W β hl => ?_) hr
 obtain ⟨v, h2, h3⟩ := hb hg W β _ (hx.rep hg hl (by simp [ho, Op.operands]))
 exact ⟨v, by simp [execOp, ho, h2], h3⟩
theorem ARun.loadGlob {g : Nat} {t : TypeId} {u : TypeDesc} {v : Value} {X Y : AV} {d : Option Tmp} (ho : o.op = .load t (.global g)) (hd : o.dst = d) (hn : dstLt n d = true) (hG : gdS ops σ o.guard = some gd)
   (hu : P.underlying t = some u) (hA : isA u = false) (hm : (g, v) ∈ globs) (hv : ∀ (β : List Hd) (W : World), VRep β W v X) (hY : optA o.guard gd X = Y)
   (hr : ARun P ops n QQ l (ks ++ [.pure]) (putS σ d Y) H) : ARun P ops n QQ (o :: l) ks σ H := by
 subst hd; subst hY
 refine ⟨.pure, _, H, hn, ⟨rfl, fun G => OpStep.val hG (.inr rfl) (fun _ => trivial) fun hg a W β hHr hl => ⟨v, W, β, ?_, Ext.refl _ _, hHr, hv _ _⟩⟩, hr⟩
 have hc := (hHr.gl _ hm).1
 have h3 : (loadVar t ⟨g, 0, none⟩).run P W = .ok v W := by
   simp only [loadVar, Sem.run_bind, isAgg_run hu, hA]
   simp [hc]
 simp [execOp, ho, Act.eval, Instr.loadAt, Instr.sureAddr, h3]
theorem CRep.pe {β : List Hd} {W : World} {vs : Array Value} {cs : List AV} {T : TypeId} (hβ : ∀ h, h ∈ β → ∀ b, b ∈ h.blks → b < W.heap.size) (h : vs.size = cs.length ∧ ∀ (q : Nat) (u : Value) (y : AV), vs[q]? = some u → cs[q]? = some y → VRep β W u y) :
   VRep β (W.alloc (.cells vs T)) (.pointer (some ⟨W.heap.size, 0, none⟩)) (.pe cs) := by
 have hext : Ext β W β (W.alloc (.cells vs T)) := Ext.of_below β ((Below.refl _ _).alloc (Nat.le_refl _) _)
 have hcell : ∀ q, (W.alloc (.cells vs T)).cell? ⟨W.heap.size, q, none⟩ = vs[q]? := fun q => World.cell?_alloc_new _ _ _ _
 refine .pe W.heap.size 0 cs (by simp) (fun y hy e => by have := hβ y hy _ e; omega) (fun q y hq => ?_) (fun q y u hq hu => ?_)
 · have hlt : q < vs.size := by rw [h.1]; exact (List.getElem?_eq_some_iff.1 hq).1
   exact ⟨_, by rw [Nat.zero_add, hcell]; exact Array.getElem?_eq_getElem hlt⟩
 rw [Nat.zero_add, hcell] at hu
 exact (h.2 q u y hu hq).ext hext
theorem one_cells {X : AV} (h : X.one = true) : X.cells = [X] := by cases X <;> first | rfl | cases h
theorem one_shaped {X : AV} (h : X.one = true) : shaped X = true := by cases X <;> first | rfl | exact h
theorem ARun.storeL1 {x y : Operand} {t : TypeId} {j off : Nat} {cs cs' : List AV} {X : AV} {L' : List AO} (hm : GOK m G) (ho : o.op = .store t x y) (hd : o.dst = none) (hg : gdS ops σ o.guard = some true) (hz : Sz P t 1)
   (hx : Ev true σ x (.box (m + j) off)) (hy : Ev true σ y X) (hH : L[j]? = some (.box cs)) (hX : X.one = true)
   (hoff : off + 1 ≤ cs.length) (hcs : cs.take off ++ [X] ++ cs.drop (off + 1) = cs') (hL : L.set j (.box cs') = L')
   (hr : ARun P ops n QQ l (ks ++ [.write]) σ (G ++ L')) (hsp : ((cs.drop off).take 1).all AV.plainC = true := by first | rfl | exact plain_take rfl | exact plain_take (by simp [AV.plainC])) : ARun P ops n QQ (o :: l) ks σ (G ++ L) :=
 ARun.storeL hm ho hd hg hz hx hy hH (one_shaped hX) (one_cells hX) rfl (by simp [hX]) hoff hcs hL hr hsp
theorem ARun.box1 {x : Operand} {t : TypeId} {j : Nat} {X : AV} {Y : AV} {d : Option Tmp} (hm : GOK m G) (hj : L.length = j) (ho : o.op = .box t x) (hd : o.dst = d) (hn : dstLt n d = true) (hg : gdS ops σ o.guard = some true)
   (hx : Ev true σ x X) (hX : X.one = true) (hY : optA o.guard true (.box (m + j) 0) = Y)
   (hr : ARun P ops n QQ l (ks ++ [.new]) (putS σ d Y) (G ++ (L ++ [.box [X]]))) : ARun P ops n QQ (o :: l) ks σ (G ++ L) :=
 ARun.box hm hj ho hd hn hg hx (one_cells hX) (one_shaped hX) hY hr (by simp [one_plain hX])
theorem ARun.boxPe {x : Operand} {t : TypeId} {X : AV} {C : List AV} {Y : AV} {d : Option Tmp} (ho : o.op = .box t x) (hd : o.dst = d) (hn : dstLt n d = true) (hG : gdS ops σ o.guard = some gd)
   (hx : Ev gd σ x X) (hC : X.cells = C) (hp : shaped X = true) (hY : optA o.guard gd (.pe C) = Y)
   (hr : ARun P ops n QQ l (ks ++ [.pure]) (putS σ d Y) H) : ARun P ops n QQ (o :: l) ks σ H := by
 refine ARun.valH hd hn hG hY (fun hg a W β hβ hl => ?_) hr
 have h0 := hx.rep hg hl (by simp [ho, Op.operands])
 generalize hv : a.eval x = v at h0
 subst hC
 refine ⟨.pointer (some ⟨W.heap.size, 0, none⟩), W.alloc (.cells v.cells t), ?_, (Below.refl _ _).alloc (Nat.le_refl _) _, CRep.pe hβ (h0.cells (shaped_spec hp))⟩
 simp [execOp, ho, hv, Instr.box, newVar, newRow]
theorem ARun.boxPe1 {x : Operand} {t : TypeId} {X : AV} {Y : AV} {d : Option Tmp} (ho : o.op = .box t x) (hd : o.dst = d) (hn : dstLt n d = true) (hG : gdS ops σ o.guard = some gd)
   (hx : Ev gd σ x X) (hX : X.one = true) (hY : optA o.guard gd (.pe [X]) = Y)
   (hr : ARun P ops n QQ l (ks ++ [.pure]) (putS σ d Y) H) : ARun P ops n QQ (o :: l) ks σ H :=
 ARun.boxPe ho hd hn hG hx (one_cells hX) (one_shaped hX) hY hr
theorem ARun.remI {x y : Operand} {t1 t2 : TypeId} {k : IntKind} {i j : Int} {Y : AV} {d : Option Tmp} (ho : o.op = .binOp .rem t1 x y t2) (hd : o.dst = d) (hn : dstLt n d = true) (hG : gdS ops σ o.guard = some gd)
   (hx : Ev gd σ x (.int k i)) (hy : Ev gd σ y (.int k j)) (hj : gd = true → j ≠ 0) (hY : optA o.guard gd (.int k (i.tmod j)) = Y)
   (hr : ARun P ops n QQ l (ks ++ [.pure]) (putS σ d Y) H) : ARun P ops n QQ (o :: l) ks σ H := by
 refine ARun.same hd hn hG hY (fun hg a W β hl => ⟨.int k (i.tmod j), ?_, .int _ _⟩) hr
 have h1 := (hx.rep hg hl (by simp [ho, Op.operands])).int_inv
 have h2 := (hy.rep hg hl (by simp [ho, Op.operands])).int_inv
 have h3 := hj hg
 simp [execOp, ho, h1, h2, eqGuard, binOp, Op.intDiv, h3]
theorem ARun.callX {f : Operand} {args : Array Operand} {ats : Array TypeId} {F : FuncId} {xs : List AV} {r Y : AV} {d : Option Tmp} {H' : List AO} (ho : o.op = .call { callee := .value f, args := args, argTypes := ats }) (hd : o.dst = d) (hn : dstLt n d = true) (hG : gdS ops σ o.guard = some true)
   (hf : Ev true σ f (.fn (.func F) [] [])) (hx : EvL true σ args.toList xs) (hF : FnX P F xs H r H') (hY : optA o.guard true r = Y)
   (hr : ARun P ops n QQ l (ks ++ [.write]) (putS σ d Y) H') : ARun P ops n QQ (o :: l) ks σ H := by
 refine ARun.write hd hn hG hY (fun a W β hHr hl => ?_) hr
 have h0 := hf.rep rfl hl (by simp [ho, Op.operands, Call.operands])
 generalize hv : a.eval f = v at h0
 cases h0 with
 | fn _ us vs _ _ hl1 hl2 h1 h2 =>
   have ha := EvL.reps (β := β) (W := W) (a := a) hx (fun x hx X h => h.rep rfl hl (by simp only [ho, Op.operands, Call.operands]; exact Array.mem_append.2 (.inr (by simpa using hx))))
   obtain rfl : us = #[] := Array.eq_empty_of_size_eq_zero (by simpa using hl1)
   obtain rfl : vs = #[] := Array.eq_empty_of_size_eq_zero (by simpa using hl2)
   obtain ⟨v', w', β', k1, k2, k3, k4⟩ := hF W β (args.map a.eval) hHr ⟨by simpa using ha.1, fun j u x p q => ha.2 j u x (by simpa using p) q⟩
   refine ⟨v', w', β', ?_, k2, k3, k4⟩
   simp [execOp, ho, resolve, hv, Deferred.ofValue, invoke, k1]
theorem ARun.callXR {f : Operand} {args : Array Operand} {ats : Array TypeId} {F : FuncId} {xs : List AV} {r Y : AV} {d : Option Tmp} (ho : o.op = .call { callee := .value f, args := args, argTypes := ats }) (hd : o.dst = d) (hn : dstLt n d = true) (hG : gdS ops σ o.guard = some gd)
   (hf : Ev gd σ f (.fn (.func F) [] [])) (hx : EvL gd σ args.toList xs) (hF : gd = true → FnX P F xs H r H) (hY : optA o.guard gd r = Y)
   (hr : ARun P ops n QQ l (ks ++ [.read]) (putS σ d Y) H) : ARun P ops n QQ (o :: l) ks σ H := by
 subst hd; subst hY
 refine ⟨.read, _, H, hn, ⟨rfl, OpStep.val hG (.inr rfl) (fun _ => trivial) fun hg a W β hHr hl => ?_⟩, hr⟩
 have h0 := hf.rep hg hl (by simp [ho, Op.operands, Call.operands])
 generalize hv : a.eval f = v at h0
 cases h0 with
 | fn _ us vs _ _ hl1 hl2 h1 h2 =>
   have ha := EvL.reps (β := β) (W := W) (a := a) hx (fun x hx X h => h.rep hg hl (by simp only [ho, Op.operands, Call.operands]; exact Array.mem_append.2 (.inr (by simpa using hx))))
   obtain rfl : us = #[] := Array.eq_empty_of_size_eq_zero (by simpa using hl1)
   obtain rfl : vs = #[] := Array.eq_empty_of_size_eq_zero (by simpa using hl2)
   obtain ⟨v', w', β', k1, k2, k3, k4⟩ := hF hg W β (args.map a.eval) hHr ⟨by simpa using ha.1, fun j u x p q => ha.2 j u x (by simpa using p) q⟩
   refine ⟨v', w', β', ?_, k2, k3, k4⟩
   simp [execOp, ho, resolve, hv, Deferred.ofValue, invoke, k1]
theorem ARun.callXP {f : Operand} {args : Array Operand} {ats : Array TypeId} {F : FuncId} {xs : List AV} {r Y : AV} {d : Option Tmp} (ho : o.op = .call { callee := .value f, args := args, argTypes := ats }) (hd : o.dst = d) (hn : dstLt n d = true) (hG : gdS ops σ o.guard = some gd)
   (hf : Ev gd σ f (.fn (.func F) [] [])) (hx : EvL gd σ args.toList xs) (hF : gd = true → FnXP P F xs r) (hY : optA o.guard gd r = Y)
   (hr : ARun P ops n QQ l (ks ++ [.pure]) (putS σ d Y) H) : ARun P ops n QQ (o :: l) ks σ H := by
 refine ARun.valH hd hn hG hY (fun hg a W β hβ hl => ?_) hr
 have h0 := hf.rep hg hl (by simp [ho, Op.operands, Call.operands])
 generalize hv : a.eval f = v at h0
 cases h0 with
 | fn _ us vs _ _ hl1 hl2 h1 h2 =>
   have ha := EvL.reps (β := β) (W := W) (a := a) hx (fun x hx X h => h.rep hg hl (by simp only [ho, Op.operands, Call.operands]; exact Array.mem_append.2 (.inr (by simpa using hx))))
   obtain rfl : us = #[] := Array.eq_empty_of_size_eq_zero (by simpa using hl1)
   obtain rfl : vs = #[] := Array.eq_empty_of_size_eq_zero (by simpa using hl2)
   obtain ⟨v', w', k1, k2, k4⟩ := hF hg W β (args.map a.eval) hβ ⟨by simpa using ha.1, fun j u x p q => ha.2 j u x (by simpa using p) q⟩
   refine ⟨v', w', ?_, k2, k4⟩
   simp [execOp, ho, resolve, hv, Deferred.ofValue, invoke, k1]
theorem extract_cons (u : Value) (xs : Array Value) : (#[u] ++ xs).extract 1 (#[u] ++ xs).size = xs := by
 apply Array.toList_inj.1
 simp
theorem run_invoke {W : World} {name : String} {t : TypeId} {v v' : Value} {xs : Array Value} {F : FuncId} {R : Result Next} (h : (method (P.types.size + Made.depth) t v name).run P W = .ok (F, v') W) (k : (callFunc F (#[v'] ++ xs)).run P W = R) :
   (invoke (.fn (.method name) #[]) (#[.iface t v] ++ xs)).run P W = R := by
 have h0 : (#[Value.iface t v] ++ xs)[0]? = some (.iface t v) := by
   rw [← Array.getElem?_toList]; simp
 simp only [invoke, h0, extract_cons, callMethod, Sem.run_bind, run_program, Result.andThen_ok, h, k]
theorem ARun.invokeX {f : Operand} {name : String} {args : Array Operand} {ats : Array TypeId} {F : FuncId} {X X' : AV} {xs : List AV} {r Y : AV} {d : Option Tmp} (ho : o.op = .call { callee := .invoke f name, args := args, argTypes := ats }) (hd : o.dst = d) (hn : dstLt n d = true) (hG : gdS ops σ o.guard = some gd)
   (hf : Ev gd σ f X) (hI : gd = true → Inv P X name F X') (hx : EvL gd σ args.toList xs) (hF : gd = true → FnXP P F (X' :: xs) r) (hY : optA o.guard gd r = Y)
   (hr : ARun P ops n QQ l (ks ++ [.pure]) (putS σ d Y) H) : ARun P ops n QQ (o :: l) ks σ H := by
 refine ARun.valH hd hn hG hY (fun hg a W β hβ hl => ?_) hr
 have h0 := hf.rep hg hl (by simp [ho, Op.operands, Call.operands])
 have ha := EvL.reps (β := β) (W := W) (a := a) hx (fun x hx X h => h.rep hg hl (by simp only [ho, Op.operands, Call.operands]; exact Array.mem_append.2 (.inr (by simpa using hx))))
 obtain ⟨t, v, v', e1, e2, e3⟩ := hI hg W β _ h0
 obtain ⟨q, w', k1, k2, k4⟩ := hF hg W β (#[v'] ++ args.map a.eval) hβ (VReps.cons e3 (by simpa using ha))
 refine ⟨q, w', ?_, k2, k4⟩
 simp only [execOp, ho, resolve, Sem.run_bind, Sem.run_pure, Result.andThen_ok, e1]
 exact run_invoke e2 k1
theorem ARun.invokeP {f : Operand} {name : String} {args : Array Operand} {ats : Array TypeId} {F : FuncId} {X X' : AV} {xs : List AV} {r Y : AV} {d : Option Tmp} (ho : o.op = .call { callee := .invoke f name, args := args, argTypes := ats }) (hd : o.dst = d) (hn : dstLt n d = true) (hG : gdS ops σ o.guard = some gd)
   (hcf : ∀ (va : Array Value) (W : World), (callFunc F va).run P W = .ok (.enter F va) W)
   (hf : Ev gd σ f X) (hI : gd = true → Inv P X name F X') (hx : EvL gd σ args.toList xs) (hF : gd = true → FnP P F (X' :: xs) r) (hY : optA o.guard gd r = Y)
   (hr : ARun P ops n QQ l (ks ++ [.pure]) (putS σ d Y) H) : ARun P ops n QQ (o :: l) ks σ H := by
 subst hd; subst hY
 refine ⟨.pure, _, H, hn, ⟨rfl, fun H => ?_⟩, hr⟩
 intro a W β hHr hl K Q hK
 rw [gd_wanted hG hl]
 cases gd with
 | false =>
   rw [if_neg (by simp)]
   refine hK undef W β (Ext.refl _ _) hHr ?_
   cases hg : o.guard with
   | none => rw [hg] at hG; cases hG
   | some g => exact .opt _ _ _ (fun e => by cases e) (fun _ => rfl)
 | true =>
   rw [if_pos rfl]
   have h0 := hf.rep rfl hl (by simp [ho, Op.operands, Call.operands])
   have ha := EvL.reps (β := β) (W := W) (a := a) hx (fun x hx X h => h.rep rfl hl (by simp only [ho, Op.operands, Call.operands]; exact Array.mem_append.2 (.inr (by simpa using hx))))
   obtain ⟨t, v, v', e1, e2, e3⟩ := hI rfl W β _ h0
   have hrun : (execOp a.eval o).run P W = .ok (.enter F (#[v'] ++ args.map a.eval)) W := by
     simp only [execOp, ho, resolve, Sem.run_bind, Sem.run_pure, Result.andThen_ok, e1]
     exact run_invoke e2 (hcf _ _)
   unfold Oper.wp
   rw [hrun, Oper.upon_enter]
   refine (pure_call (hF rfl) hHr (vs := #[v'] ++ args.map a.eval) (VReps.cons e3 (by simpa using ha))).mono ?_
   rintro e w' ⟨q, rfl, k1, k3⟩
   refine hK q w' β (Ext.of_below β k1) (hHr.below k1) ?_
   cases o.guard with
   | none => exact k3
   | some g => exact .opt _ _ _ (fun _ => k3) (fun e => by cases e)
theorem ARun.callSetG {f : Operand} {args : Array Operand} {ats : Array TypeId} {F j : Nat} {fs cs xs ax : List AV} {r Y : AV} {d : Option Tmp} {ob : AO} {L' : List AO} (hm : GOK m G) (ho : o.op = .call { callee := .value f, args := args, argTypes := ats }) (hd : o.dst = d) (hn : dstLt n d = true) (hG : gdS ops σ o.guard = some gd)
   (hcf : ∀ (va : Array Value) (W : World), (callFunc F va).run P W = .ok (.enter F va) W)
   (hf : Ev gd σ f (.fn (.func F) fs cs)) (hx : EvL gd σ args.toList xs) (has : fs ++ xs ++ cs = ax) (hF : gd = true → FnH P F ax (G ++ L) r ((G ++ L).set (m + j) ob)) (hno : gd = false → L.set j ob = L) (hL : L.set j ob = L') (hY : optA o.guard gd r = Y)
   (hr : ARun P ops n QQ l (ks ++ [.write]) (putS σ d Y) (G ++ L')) : ARun P ops n QQ (o :: l) ks σ (G ++ L) := by
 subst hd; subst hY; subst has; subst hL
 refine ⟨.write, _, G ++ L.set j ob, hn, ?_, hr⟩
 refine call_step ho hG ?_ hcf hf hx (fun hg => by rw [← hm.set]; exact hF hg)
 cases gd with
 | true => exact .inl rfl
 | false => exact .inr (by rw [hno rfl])
end
end Go.Proofs.YtcndnllmlhhjiaaGreatDoor
namespace Go.Proofs.YtcndnllmlhhjiaaGreatDoor
open Go.RowKit
theorem atO {H : List AO} {i : Nat} {X : AO} {L : List AO} (hi : i < H.length) : (H.set i X ++ L)[i]? = some X := by
 rw [List.getElem?_append_left (by simpa using hi), List.getElem?_set_self hi]
theorem setO {H : List AO} {i : Nat} {X Y : AO} {L : List AO} (hi : i < H.length) : (H.set i X ++ L).set i Y = H.set i Y ++ L := by
 rw [List.set_append_left _ _ (by simpa using hi), List.set_set]
theorem set_of_get {H : List AO} {i : Nat} {X : AO} (h : H[i]? = some X) : H.set i X = H := by
 obtain ⟨hi, rfl⟩ := List.getElem?_eq_some_iff.1 h
 exact List.set_getElem_self hi
theorem GOK.setO {m : Nat} {H : List AO} {i : Nat} {X Y : AO} (h : GOK m (H.set i X)) (hY : ∀ x, x ∈ Y.conts → NoH m x) : GOK m (H.set i Y) := by
 refine ⟨by simpa using h.1, fun o ho x hx => ?_⟩
 rw [← List.set_set (a := X)] at ho
 rcases List.mem_or_eq_of_mem_set ho with ho | rfl
 · exact h.2 o ho x hx
 exact hY x hx
def FnM (P : Program) (F : FuncId) (args : Nat → List AV) (cs : List AV) (r : AV) (cs' : List AV) : Prop :=
 ∀ (H : List AO) (i : Nat), H[i]? = some (.box cs) → FnH P F (args i) H r (H.set i (.box cs'))
theorem FnM.keep {P : Program} {F : FuncId} {args : Nat → List AV} {cs : List AV} {r : AV} (h : FnM P F args cs r cs) {H : List AO} {i : Nat} (hi : H[i]? = some (.box cs)) : FnH P F (args i) H r H := by
 have := h H i hi
 rwa [set_of_get hi] at this
theorem FnM.of {P : Program} {f : FuncId} {fn : Func} {c : Code} {args : Nat → List AV} {cs cs' : List AV} {r : AV} {n : Nat} (hf : P.funcs[f]? = some fn) (hb : fn.body = some c) (hn : fn.ntmps = n) (hna : ∀ i, (args i).length ≤ n)
   (h : ∀ (H : List AO) (i m : Nat), H.length = m → i < H.length → GOK m (H.set i (.box cs)) → AWP P n m c (endF P fn r (H.set i (.box cs'))) (zipS (args i) 0) (H.set i (.box cs)) []) : FnM P f args cs r cs' := by
 intro H i hi
 have hlt := (List.getElem?_eq_some_iff.1 hi).1
 refine FnH.of0 hf hb hn (hna i) (fun hG => ?_)
 have e := set_of_get hi
 have := h H i H.length rfl hlt (by rw [e]; exact hG)
 rwa [e] at this
theorem endF.toG {P : Program} {fn : Func} {r : AV} {G G' : List AO} {e : Exit} {σ : Sl} {L : List AO} (h : G = G') (k : endF P fn r G e σ G L) : endF P fn r G' e σ G L := by subst h; exact k
section
variable {P : Program} {ops : Array Oper} {n m : Nat} {QQ : List Kd → Sl → List AO → Prop} {l : List Oper} {ks : List Kd} {σ : Sl} {G L H : List AO} {o : Oper} {gd : Bool}
theorem ARun.storeO {H0 : List AO} {x y : Operand} {t : TypeId} {i off z : Nat} {cs C cs' : List AV} {X : AV} (hi : i < H0.length) (hm : GOK m (H0.set i (.box cs))) (ho : o.op = .store t x y) (hd : o.dst = none) (hg : gdS ops σ o.guard = some true) (hz : Sz P t z)
   (hx : Ev true σ x (.box i off)) (hy : Ev true σ y X) (hX : shaped X = true) (hC : X.cells = C) (hCz : C.length = z) (hone : C.all AV.one = true)
   (hoff : off + z ≤ cs.length) (hcs : cs.take off ++ C ++ cs.drop (off + z) = cs') (hno : ∀ x, x ∈ C → NoH m x)
   (hr : GOK m (H0.set i (.box cs')) → ARun P ops n QQ l (ks ++ [.write]) σ (H0.set i (.box cs') ++ L)) (hsp : ((cs.drop off).take z).all AV.plainC = true := by first | rfl | exact plain_take rfl | exact plain_take (by simp [AV.plainC])) : ARun P ops n QQ (o :: l) ks σ (H0.set i (.box cs) ++ L) := by
 refine ARun.store ho hd hg hz hx hy (atO hi) hX hC hCz hone hoff hcs ?_ hsp
 rw [_root_.Go.Proofs.YtcndnllmlhhjiaaGreatDoor.setO hi]
 refine hr (hm.setO fun x hx => ?_)
 have hx' : x ∈ cs' := hx
 rw [← hcs] at hx'
 have hold : ∀ y, y ∈ cs → NoH m y := fun y hy => hm.2 (.box cs) (List.mem_iff_getElem?.2 ⟨i, List.getElem?_set_self hi⟩) y hy
 rcases List.mem_append.1 hx' with h | h
 · rcases List.mem_append.1 h with h | h
   · exact hold x (List.mem_of_mem_take h)
   exact hno x h
 exact hold x (List.mem_of_mem_drop h)
theorem ARun.storeO1 {H0 : List AO} {x y : Operand} {t : TypeId} {i off : Nat} {cs cs' : List AV} {X : AV} (hi : i < H0.length) (hm : GOK m (H0.set i (.box cs))) (ho : o.op = .store t x y) (hd : o.dst = none) (hg : gdS ops σ o.guard = some true) (hz : Sz P t 1)
   (hx : Ev true σ x (.box i off)) (hy : Ev true σ y X) (hX : X.one = true)
   (hoff : off + 1 ≤ cs.length) (hcs : cs.take off ++ [X] ++ cs.drop (off + 1) = cs') (hno : NoH m X)
   (hr : GOK m (H0.set i (.box cs')) → ARun P ops n QQ l (ks ++ [.write]) σ (H0.set i (.box cs') ++ L)) (hsp : ((cs.drop off).take 1).all AV.plainC = true := by first | rfl | exact plain_take rfl | exact plain_take (by simp [AV.plainC])) : ARun P ops n QQ (o :: l) ks σ (H0.set i (.box cs) ++ L) :=
 ARun.storeO hi hm ho hd hg hz hx hy (one_shaped hX) (one_cells hX) rfl (by simp [hX]) hoff hcs (by simpa using hno) hr hsp
theorem ARun.callO {H0 : List AO} {f : Operand} {args : Array Operand} {ats : Array TypeId} {F i : Nat} {fs cs xs ax cA cB : List AV} {r Y : AV} {d : Option Tmp} (hi : i < H0.length) (hm : GOK m (H0.set i (.box cA))) (ho : o.op = .call { callee := .value f, args := args, argTypes := ats }) (hd : o.dst = d) (hn : dstLt n d = true) (hG : gdS ops σ o.guard = some true)
   (hcf : ∀ (va : Array Value) (W : World), (callFunc F va).run P W = .ok (.enter F va) W)
   (hf : Ev true σ f (.fn (.func F) fs cs)) (hx : EvL true σ args.toList xs) (has : fs ++ xs ++ cs = ax) (hF : FnH P F ax (H0.set i (.box cA) ++ L) r ((H0.set i (.box cA) ++ L).set i (.box cB))) (hno : ∀ x, x ∈ cB → NoH m x) (hY : optA o.guard true r = Y)
   (hr : GOK m (H0.set i (.box cB)) → ARun P ops n QQ l (ks ++ [.write]) (putS σ d Y) (H0.set i (.box cB) ++ L)) : ARun P ops n QQ (o :: l) ks σ (H0.set i (.box cA) ++ L) :=
 ARun.callH ho hd hn hG hcf hf hx has hF hY (by rw [_root_.Go.Proofs.YtcndnllmlhhjiaaGreatDoor.setO hi]; exact hr (hm.setO hno))
theorem ARun.callXO {H0 : List AO} {f : Operand} {args : Array Operand} {ats : Array TypeId} {F i : Nat} {xs cA cB : List AV} {r Y : AV} {d : Option Tmp} (hi : i < H0.length) (hm : GOK m (H0.set i (.box cA))) (ho : o.op = .call { callee := .value f, args := args, argTypes := ats }) (hd : o.dst = d) (hn : dstLt n d = true) (hG : gdS ops σ o.guard = some true)
   (hf : Ev true σ f (.fn (.func F) [] [])) (hx : EvL true σ args.toList xs) (hF : FnX P F xs (H0.set i (.box cA) ++ L) r ((H0.set i (.box cA) ++ L).set i (.box cB))) (hno : ∀ x, x ∈ cB → NoH m x) (hY : optA o.guard true r = Y)
   (hr : GOK m (H0.set i (.box cB)) → ARun P ops n QQ l (ks ++ [.write]) (putS σ d Y) (H0.set i (.box cB) ++ L)) : ARun P ops n QQ (o :: l) ks σ (H0.set i (.box cA) ++ L) :=
 ARun.callX ho hd hn hG hf hx hF hY (by rw [_root_.Go.Proofs.YtcndnllmlhhjiaaGreatDoor.setO hi]; exact hr (hm.setO hno))
theorem ARun.callR {f : Operand} {args : Array Operand} {ats : Array TypeId} {F : FuncId} {fs cs xs ax : List AV} {r Y : AV} {d : Option Tmp} (ho : o.op = .call { callee := .value f, args := args, argTypes := ats }) (hd : o.dst = d) (hn : dstLt n d = true) (hG : gdS ops σ o.guard = some gd)
   (hcf : ∀ (va : Array Value) (W : World), (callFunc F va).run P W = .ok (.enter F va) W)
   (hf : Ev gd σ f (.fn (.func F) fs cs)) (hx : EvL gd σ args.toList xs) (has : fs ++ xs ++ cs = ax) (hF : gd = true → FnH P F ax H r H) (hY : optA o.guard gd r = Y)
   (hr : ARun P ops n QQ l (ks ++ [.read]) (putS σ d Y) H) : ARun P ops n QQ (o :: l) ks σ H := by
 subst hd; subst hY; subst has
 exact ⟨.read, _, H, hn, ⟨rfl, call_step ho hG (.inr rfl) hcf hf hx hF⟩, hr⟩
theorem ARun.indexBox {x y : Operand} {t e : TypeId} {len z j i off fo : Nat} {k : IntKind} {q : Int} {cs : List AV} {Y : AV} {d : Option Tmp} (ho : o.op = .indexAddr t x y) (hd : o.dst = d) (hn : dstLt n d = true) (hG : gdS ops σ o.guard = some gd)
   (hu : P.underlying t = some (.array len e)) (hz : Sz P e z)
   (hx : Ev gd σ x (.box i off)) (hH : H[i]? = some (.box cs)) (hy : Ev gd σ y (.int k q)) (hi : gd = true → q = (j : Int)) (hj : gd = true → j < len) (hfo : off + j * z = fo) (hY : optA o.guard gd (.box i fo) = Y)
   (hr : ARun P ops n QQ l (ks ++ [.pure]) (putS σ d Y) H) : ARun P ops n QQ (o :: l) ks σ H := by
 refine ARun.same hd hn hG hY (fun hg a W β hl => ?_) hr
 obtain ⟨b, h2, h3⟩ := (hx.rep hg hl (by simp [ho, Op.operands])).box_inv
 have h6 := (hy.rep hg hl (by simp [ho, Op.operands])).int_inv
 have hij := hi hg
 have hjx := hj hg
 subst hij; subst hfo
 refine ⟨.pointer (some ⟨b, off + j * z, none⟩), ?_, h3 _⟩
 simp [execOp, ho, h2, h6, Instr.indexAt, asIntOf, run_underlying hu, hz.run, hjx, Instr.sureAddr, aadd]
end
def FnNewB (P : Program) (f : FuncId) (args : List AV) (r : Nat → AV) (cs : List AV) : Prop := ∀ H : List AO, FnH P f args H (r H.length) (H ++ [.box cs])
def endN (P : Program) (fn : Func) (r : Nat → AV) (cs : List AV) (G' : List AO) : QA := fun e σ G L => (e = .normal ∨ e = .ret) ∧ G = G' ∧ (∃ J, L = .box cs :: J) ∧ NoH (G.length + 1) (r G.length) ∧ (∀ x, x ∈ cs → NoH (G.length + 1) x) ∧
 ∀ (β : List Hd) (a : Act) (W : World), HRel β (G ++ L) W → SRep β W a σ → Tells P fn β a W (r G.length)
theorem FnNewB.of {P : Program} {f : FuncId} {fn : Func} {c : Code} {args : List AV} {r : Nat → AV} {cs : List AV} {n : Nat} (hf : P.funcs[f]? = some fn) (hb : fn.body = some c) (hn : fn.ntmps = n) (hna : args.length ≤ n)
   (h : ∀ G, GOK G.length G → AWP P n G.length c (endN P fn r cs G) (zipS args 0) G []) : FnNewB P f args r cs := by
 intro G w β vs hH hv
 refine calls_of_wp hf hb (Code.wp_mono ?_ (h G hH.gok [] { tmps := vs ++ Array.replicate (fn.ntmps - vs.size) undef, defers := [] } w β hH.gok ?_ rfl (by rw [List.append_nil]; exact hH) ?_))
 · intro e a' W' ⟨β', σ', G2, L', k1, k2, k3, k4, k5, k6, k7⟩
   obtain ⟨he, rfl, ⟨J, rfl⟩, hnh, hcn, ht⟩ := k1
   obtain ⟨v, hr, hvr⟩ := ht β' a' W' k6 k7
   have hlen : (G2 ++ [AO.box cs]).length = G2.length + 1 := by simp
   have hfin : ∃ v' β'', Ending.returned v = Ending.returned v' ∧ Ext β w β'' W' ∧ HRel β'' (G2 ++ [.box cs]) W' ∧ VRep β'' W' v' (r G2.length) := by
     have k6' : HRel β' ((G2 ++ [.box cs]) ++ J) W' := by simpa using k6
     have hl2 := k6'.len
     rw [List.length_append, hlen] at hl2
     refine ⟨v, β'.take (G2.length + 1), rfl, ?_, ?_, hvr.take (by omega) hnh⟩
     · have e1 := k5
       refine ⟨e1.os, e1.tape, e1.output, e1.size, e1.block, fun k hk hs x hx => e1.apart k hk hs x (List.mem_of_mem_take hx), fun i x hx => ?_, e1.guard⟩
       have hi := (List.getElem?_eq_some_iff.1 hx).1
       have hgl : G2.length = β.length := hH.len.symm
       rw [List.getElem?_take_of_lt (by omega)]; exact e1.hd i x hx
     rw [← hlen]
     refine k6'.take fun o ho x hx => ?_
     rw [hlen]
     rcases List.mem_append.1 ho with ho | ho
     · exact (k2.2 o ho x hx).mono (by omega)
     simp at ho; subst ho; exact hcn x hx
   rcases he with rfl | rfl
   · exact ⟨k4, v, hr, hfin⟩
   exact ⟨k4, v, hr, hfin⟩
 · rw [Array.size_append, Array.size_replicate, hv.1, hn]; omega
 intro t X ht
 obtain ⟨_, h2⟩ := look_zip _ _ _ _ ht
 rw [Nat.sub_zero] at h2
 have hlt : t < vs.size := by rw [hv.1]; exact (List.getElem?_eq_some_iff.1 h2).1
 refine ⟨vs[t], ?_, hv.2 t _ _ (Array.getElem?_eq_getElem hlt) h2⟩
 show (vs ++ _)[t]? = _
 rw [Array.getElem?_append_left hlt, Array.getElem?_eq_getElem hlt]
theorem endN.one {P : Program} {fn : Func} {X : AV} {r : Nat → AV} {cs : List AV} {σ : Sl} {G J : List AO} {rv : ResultVar} {e : Exit} (he : e = .normal ∨ e = .ret) (hr : fn.results = #[rv]) (h : RV1 P σ (G ++ (.box cs :: J)) rv X) (hX : X = r G.length) (hn : NoH (G.length + 1) (r G.length)) (hc : ∀ x, x ∈ cs → NoH (G.length + 1) x) : endN P fn r cs G e σ G (.box cs :: J) :=
 ⟨he, rfl, ⟨J, rfl⟩, hn, hc, fun β a W hH hs => by rw [← hX]; exact Tells.single hH hs hr h⟩
theorem ARun.callNewB {P : Program} {ops : Array Oper} {n m : Nat} {QQ : List Kd → Sl → List AO → Prop} {l : List Oper} {ks : List Kd} {σ : Sl} {G L : List AO} {o : Oper} {f : Operand} {args : Array Operand} {ats : Array TypeId} {F j : Nat} {fs cs xs ax cb : List AV} {r : Nat → AV} {Y : AV} {d : Option Tmp} (hm : GOK m G) (hj : L.length = j) (ho : o.op = .call { callee := .value f, args := args, argTypes := ats }) (hd : o.dst = d) (hn : dstLt n d = true) (hG : gdS ops σ o.guard = some true)
   (hcf : ∀ (va : Array Value) (W : World), (callFunc F va).run P W = .ok (.enter F va) W)
   (hf : Ev true σ f (.fn (.func F) fs cs)) (hx : EvL true σ args.toList xs) (has : fs ++ xs ++ cs = ax) (hF : FnNewB P F ax r cb) (hY : optA o.guard true (r (m + j)) = Y)
   (hr : ARun P ops n QQ l (ks ++ [.write]) (putS σ d Y) (G ++ (L ++ [.box cb]))) : ARun P ops n QQ (o :: l) ks σ (G ++ L) := by
 have h := hF (G ++ L)
 rw [List.length_append, hm.1, hj] at h
 exact ARun.callH ho hd hn hG hcf hf hx has h hY (by rw [List.append_assoc]; exact hr)
theorem AWP.roundsO {P : Program} {n m : Nat} {c : Code} {Q : QA} {σ : Sl} {G L : List AO} {α : Type} (I : α → Prop) (lit : α → Sl) (Gf Lf : α → List AO) (μ : α → Nat) (len : Nat) (a0 : α) (h0 : I a0) (hs : SubS σ (lit a0)) (hGf : G = Gf a0) (hL : L = Lf a0)
   (hlen : ∀ a, (Lf a).length = len) (hnh : ∀ a, (∀ p, p ∈ lit a → NoH (m + len) p.2) ∧ ∀ o, o ∈ Lf a → ∀ x, x ∈ o.conts → NoH (m + len) x)
   (round : ∀ a, I a → GOK m (Gf a) → AWP P n m c (thenA (fun σ' G' L' => ∃ a' J, G' = Gf a' ∧ I a' ∧ SubS σ' (lit a') ∧ L' = Lf a' ++ J ∧ μ a' < μ a) Q) (lit a) (Gf a) (Lf a)) : AWP P n m (.loop c) Q σ G L := by
 subst hL
 subst hGf
 refine AWP.to (lit a0) hs ?_
 intro D
 have key : ∀ N a, μ a = N → I a → ∀ (act : Act) (W : World) (β : List Hd), GOK m (Gf a) → act.tmps.size = n → act.defers = D → HRel β (Gf a ++ Lf a) W → SRep β W act (lit a) → ∀ (b : Frame) (k : List Item) (cs : List Frame),
     ∃ e a' w', APost D n m β W Q e a' w' ∧ Arrives P (lone (b.at act (.code c :: .inLoop c :: k)) cs W) b k cs e a' w' := by
   intro N
   induction N using Nat.strongRecOn with
   | _ N ih =>
     intro x hN hI act W β h1 h2 h3 h4 h5 b k cs
     obtain ⟨e, a₁, w₁, hq, harr⟩ := round x hI h1 D act W β h1 h2 h3 h4 h5 b (.inLoop c :: k) cs
     obtain ⟨β', σ', G', L', k1, k2, k3, k4, k5, k6, k7⟩ := hq
     cases e with
     | normal =>
       obtain ⟨x', J, rfl, hI', hsub', rfl, hlt⟩ := k1
       have e1 : (Gf x' ++ Lf x').length = m + len := by rw [List.length_append, hlen, k2.1]
       have e2 : β.length = (Gf x' ++ Lf x').length := by rw [h4.len, e1, List.length_append, hlen, h1.1]
       rw [← List.append_assoc] at k6
       have hH := k6.take (fun o ho y hy => by
         rw [e1]
         rcases List.mem_append.1 ho with ho | ho
         · exact (k2.2 o ho y hy).mono (by omega)
         · exact (hnh x').2 o ho y hy)
       have hx := k5.take
       rw [e2] at hx
       have hl := k6.len
       have hle : (Gf x' ++ Lf x').length ≤ β'.length := by rw [hl]; simp
       have hS : SRep (β'.take (Gf x' ++ Lf x').length) w₁ a₁ (lit x') := by
         intro t X ht
         obtain ⟨u, q1, q2⟩ := k7 t X (hsub'.look t X ht)
         refine ⟨u, q1, q2.take hle ?_⟩
         rw [e1]
         have : ∀ (l : Sl), look l t = some X → ∃ p, p ∈ l ∧ p.2 = X := by
           intro l
           induction l with
           | nil => intro h; cases h
           | cons p l ihl =>
             intro h
             obtain ⟨k0, Y⟩ := p
             change (bif Nat.beq k0 t then some Y else look l t) = some X at h
             cases hb : Nat.beq k0 t with
             | true => rw [hb] at h; cases h; exact ⟨_, List.mem_cons_self, rfl⟩
             | false => rw [hb] at h; obtain ⟨p, m1, m2⟩ := ihl h; exact ⟨p, List.mem_cons_of_mem _ m1, m2⟩
         obtain ⟨p, m1, m2⟩ := this _ ht
         rw [← m2]; exact (hnh x').1 p m1
       obtain ⟨e₂, a₂, w₂, hq₂, harr₂⟩ := ih _ (hN ▸ hlt) x' rfl hI' a₁ w₁ _ k2 k3 k4 hH hS b k cs
       exact ⟨e₂, a₂, w₂, hq₂.ext hx, .of_steps (Steps.trans harr (.one step_inLoop)) harr₂⟩
     | exit id => exact ⟨_, a₁, w₁, ⟨β', σ', G', L', k1, k2, k3, k4, k5, k6, k7⟩, .pass (x := .inLoop c) rfl (fun _ _ => .inl (by simp)) harr⟩
     | goto l => exact ⟨_, a₁, w₁, ⟨β', σ', G', L', k1, k2, k3, k4, k5, k6, k7⟩, .pass (x := .inLoop c) rfl (fun _ _ => .inl (by simp)) harr⟩
     | ret => exact ⟨_, a₁, w₁, ⟨β', σ', G', L', k1, k2, k3, k4, k5, k6, k7⟩, .pass (x := .inLoop c) rfl (fun _ _ => .inl (by simp)) harr⟩
     | panic ch => exact ⟨_, a₁, w₁, ⟨β', σ', G', L', k1, k2, k3, k4, k5, k6, k7⟩, .pass (x := .inLoop c) rfl (fun _ _ => .inl (by simp)) harr⟩
     | outgrown => exact ⟨_, a₁, w₁, ⟨β', σ', G', L', k1, k2, k3, k4, k5, k6, k7⟩, .pass (x := .inLoop c) rfl (fun _ _ => .inl (by simp)) harr⟩
 intro act W β h1 h2 h3 h4 h5 b k cs
 obtain ⟨e, a', w', hq, harr⟩ := key _ a0 rfl h0 act W β h1 h2 h3 h4 h5 b k cs
 exact ⟨e, a', w', hq, .of_steps (.one step_loop) harr⟩
end Go.Proofs.YtcndnllmlhhjiaaGreatDoor
namespace Go.Proofs.YtcndnllmlhhjiaaGreatDoor
open Go.RowKit
theorem mixed : Tryz.prog.follows .mixedOrders = true := by kernel_rfl
theorem ti3 : Ti Tryz.prog 3 (.int .i64 0) 1 8 := by unfold Ti; kernel_rfl
theorem sz3 : Sz Tryz.prog 3 1 := ti3.sz
theorem zv3 : Zv Tryz.prog 3 (.int .i64 0) := ti3.zv
theorem ti4 : Ti Tryz.prog 4 (.bool false) 1 1 := by unfold Ti; kernel_rfl
theorem sz4 : Sz Tryz.prog 4 1 := ti4.sz
theorem zv4 : Zv Tryz.prog 4 (.bool false) := ti4.zv
theorem ti9 : Ti Tryz.prog 9 (.string ⟨#[]⟩) 1 16 := by unfold Ti; kernel_rfl
theorem sz9 : Sz Tryz.prog 9 1 := ti9.sz
theorem zv9 : Zv Tryz.prog 9 (.string ⟨#[]⟩) := ti9.zv
theorem ti22 : Ti Tryz.prog 22 (.slice none 0 0) 1 24 := by unfold Ti; kernel_rfl
theorem sz22 : Sz Tryz.prog 22 1 := ti22.sz
theorem ti23 : Ti Tryz.prog 23 (.slice none 0 0) 1 24 := by unfold Ti; kernel_rfl
theorem sz23 : Sz Tryz.prog 23 1 := ti23.sz
theorem ti25 : Ti Tryz.prog 25 (.agg #[.slice none 0 0, .slice none 0 0]) 2 48 := by unfold Ti; kernel_rfl
theorem sz25 : Sz Tryz.prog 25 2 := ti25.sz
theorem zv25 : Zv Tryz.prog 25 (.agg #[.slice none 0 0, .slice none 0 0]) := ti25.zv
theorem ti27 : Ti Tryz.prog 27 (.slice none 0 0) 1 24 := by unfold Ti; kernel_rfl
theorem sz27 : Sz Tryz.prog 27 1 := ti27.sz
theorem ti32 : Ti Tryz.prog 32 (.slice none 0 0) 1 24 := by unfold Ti; kernel_rfl
theorem sz32 : Sz Tryz.prog 32 1 := ti32.sz
theorem zv32 : Zv Tryz.prog 32 (.slice none 0 0) := ti32.zv
theorem ti36 : Ti Tryz.prog 36 (.int .i64 0) 1 8 := by unfold Ti; kernel_rfl
theorem sz36 : Sz Tryz.prog 36 1 := ti36.sz
theorem zv36 : Zv Tryz.prog 36 (.int .i64 0) := ti36.zv
theorem ti40 : Ti Tryz.prog 40 (.slice none 0 0) 1 24 := by unfold Ti; kernel_rfl
theorem sz40 : Sz Tryz.prog 40 1 := ti40.sz
theorem ti50 : Ti Tryz.prog 50 (.agg #[.int .i64 0, .int .i64 0, .string ⟨#[]⟩, .int .i64 0, .int .i64 0, .string ⟨#[]⟩]) 6 64 := by unfold Ti; kernel_rfl
theorem sz50 : Sz Tryz.prog 50 6 := ti50.sz
theorem zv50 : Zv Tryz.prog 50 (.agg #[.int .i64 0, .int .i64 0, .string ⟨#[]⟩, .int .i64 0, .int .i64 0, .string ⟨#[]⟩]) := ti50.zv
theorem ti53 : Ti Tryz.prog 53 (.agg #[.int .i64 0, .int .i64 0, .string ⟨#[]⟩, .int .i64 0, .int .i64 0, .string ⟨#[]⟩]) 6 64 := by unfold Ti; kernel_rfl
theorem sz53 : Sz Tryz.prog 53 6 := ti53.sz
theorem zv53 : Zv Tryz.prog 53 (.agg #[.int .i64 0, .int .i64 0, .string ⟨#[]⟩, .int .i64 0, .int .i64 0, .string ⟨#[]⟩]) := ti53.zv
theorem ti67 : Ti Tryz.prog 67 (.nilFunc) 1 8 := by unfold Ti; kernel_rfl
theorem sz67 : Sz Tryz.prog 67 1 := ti67.sz
theorem zv67 : Zv Tryz.prog 67 (.nilFunc) := ti67.zv
theorem ti72 : Ti Tryz.prog 72 (.agg #[.slice none 0 0, .slice none 0 0, .slice none 0 0, .slice none 0 0, .int .i64 0]) 5 104 := by unfold Ti; kernel_rfl
theorem sz72 : Sz Tryz.prog 72 5 := ti72.sz
theorem zv72 : Zv Tryz.prog 72 (.agg #[.slice none 0 0, .slice none 0 0, .slice none 0 0, .slice none 0 0, .int .i64 0]) := ti72.zv
theorem ti75 : Ti Tryz.prog 75 (.agg #[.int .i64 0, .int .i64 0, .string ⟨#[]⟩]) 3 32 := by unfold Ti; kernel_rfl
theorem sz75 : Sz Tryz.prog 75 3 := ti75.sz
theorem zv75 : Zv Tryz.prog 75 (.agg #[.int .i64 0, .int .i64 0, .string ⟨#[]⟩]) := ti75.zv
theorem ti79 : Ti Tryz.prog 79 (.map none) 1 8 := by unfold Ti; kernel_rfl
theorem sz79 : Sz Tryz.prog 79 1 := ti79.sz
theorem zv79 : Zv Tryz.prog 79 (.map none) := ti79.zv
theorem ti82 : Ti Tryz.prog 82 (.slice none 0 0) 1 24 := by unfold Ti; kernel_rfl
theorem sz82 : Sz Tryz.prog 82 1 := ti82.sz
theorem ti84 : Ti Tryz.prog 84 (.agg #[.int .i64 0, .int .i64 0, .int .i64 0, .int .i64 0, .int .i64 0, .int .i64 0, .slice none 0 0]) 7 72 := by unfold Ti; kernel_rfl
theorem sz84 : Sz Tryz.prog 84 7 := ti84.sz
theorem zv84 : Zv Tryz.prog 84 (.agg #[.int .i64 0, .int .i64 0, .int .i64 0, .int .i64 0, .int .i64 0, .int .i64 0, .slice none 0 0]) := ti84.zv
theorem ti93 : Ti Tryz.prog 93 (.agg #[.int .i64 0, .slice none 0 0]) 2 32 := by unfold Ti; kernel_rfl
theorem sz93 : Sz Tryz.prog 93 2 := ti93.sz
theorem zv93 : Zv Tryz.prog 93 (.agg #[.int .i64 0, .slice none 0 0]) := ti93.zv
theorem ti96 : Ti Tryz.prog 96 (.nilIface) 1 16 := by unfold Ti; kernel_rfl
theorem sz96 : Sz Tryz.prog 96 1 := ti96.sz
theorem ti108 : Ti Tryz.prog 108 (.agg #[.int .i64 0, .int .i64 0, .int .i64 0, .int .i64 0]) 4 32 := by unfold Ti; kernel_rfl
theorem sz108 : Sz Tryz.prog 108 4 := ti108.sz
theorem zv108 : Zv Tryz.prog 108 (.agg #[.int .i64 0, .int .i64 0, .int .i64 0, .int .i64 0]) := ti108.zv
theorem ti119 : Ti Tryz.prog 119 (.agg #[.string ⟨#[]⟩, .int .i64 0, .string ⟨#[]⟩, .int .i64 0]) 4 48 := by unfold Ti; kernel_rfl
theorem sz119 : Sz Tryz.prog 119 4 := ti119.sz
theorem zv119 : Zv Tryz.prog 119 (.agg #[.string ⟨#[]⟩, .int .i64 0, .string ⟨#[]⟩, .int .i64 0]) := ti119.zv
theorem ti120 : Ti Tryz.prog 120 (.agg #[.int .i64 0, .int .i64 0, .int .i64 0, .int .i64 0, .int .i64 0, .int .i64 0]) 6 48 := by unfold Ti; kernel_rfl
theorem zv120 : Zv Tryz.prog 120 (.agg #[.int .i64 0, .int .i64 0, .int .i64 0, .int .i64 0, .int .i64 0, .int .i64 0]) := ti120.zv
theorem ti127 : Ti Tryz.prog 127 (.agg #[.int .i64 0, .int .i64 0]) 2 16 := by unfold Ti; kernel_rfl
theorem sz127 : Sz Tryz.prog 127 2 := ti127.sz
theorem zv127 : Zv Tryz.prog 127 (.agg #[.int .i64 0, .int .i64 0]) := ti127.zv
theorem ti175 : Ti Tryz.prog 175 (.agg #[.pointer none, .slice none 0 0]) 2 32 := by unfold Ti; kernel_rfl
theorem sz175 : Sz Tryz.prog 175 2 := ti175.sz
theorem zv175 : Zv Tryz.prog 175 (.agg #[.pointer none, .slice none 0 0]) := ti175.zv
theorem ti177 : Ti Tryz.prog 177 (.agg #[.pointer none, .slice none 0 0, .nilIface]) 3 48 := by unfold Ti; kernel_rfl
theorem zv177 : Zv Tryz.prog 177 (.agg #[.pointer none, .slice none 0 0, .nilIface]) := ti177.zv
theorem ti182 : Ti Tryz.prog 182 (.agg #[.string ⟨#[]⟩, .int .i64 0, .nilIface, .bool false]) 4 48 := by unfold Ti; kernel_rfl
theorem zv182 : Zv Tryz.prog 182 (.agg #[.string ⟨#[]⟩, .int .i64 0, .nilIface, .bool false]) := ti182.zv
theorem ti188 : Ti Tryz.prog 188 (.pointer none) 1 8 := by unfold Ti; kernel_rfl
theorem zv188 : Zv Tryz.prog 188 (.pointer none) := ti188.zv
theorem ti190 : Ti Tryz.prog 190 (.agg #[.string ⟨#[]⟩, .nilIface]) 2 32 := by unfold Ti; kernel_rfl
theorem zv190 : Zv Tryz.prog 190 (.agg #[.string ⟨#[]⟩, .nilIface]) := ti190.zv
theorem ti195 : Ti Tryz.prog 195 (.agg #[.pointer none, .pointer none, .int .u64 0]) 3 24 := by unfold Ti; kernel_rfl
theorem sz195 : Sz Tryz.prog 195 3 := ti195.sz
theorem zv195 : Zv Tryz.prog 195 (.agg #[.pointer none, .pointer none, .int .u64 0]) := ti195.zv
theorem ti207 : Ti Tryz.prog 207 (.agg #[.string ⟨#[]⟩, .string ⟨#[]⟩, .int .i64 0]) 3 40 := by unfold Ti; kernel_rfl
theorem sz207 : Sz Tryz.prog 207 3 := ti207.sz
theorem zv207 : Zv Tryz.prog 207 (.agg #[.string ⟨#[]⟩, .string ⟨#[]⟩, .int .i64 0]) := ti207.zv
theorem so25 : StOk Tryz.prog 25 (.agg #[.slice none 0 0, .slice none 0 0]) [(0, 1), (1, 1)] := ⟨_, U25, zv25, by kernel_rfl, by kernel_rfl⟩
theorem so50 : StOk Tryz.prog 50 (.agg #[.int .i64 0, .int .i64 0, .string ⟨#[]⟩, .int .i64 0, .int .i64 0, .string ⟨#[]⟩]) [(0, 1), (1, 1), (2, 1), (3, 1), (4, 1), (5, 1)] := ⟨_, U50, zv50, by kernel_rfl, by kernel_rfl⟩
theorem so53 : StOk Tryz.prog 53 (.agg #[.int .i64 0, .int .i64 0, .string ⟨#[]⟩, .int .i64 0, .int .i64 0, .string ⟨#[]⟩]) [(0, 1), (1, 1), (2, 1), (3, 1), (4, 1), (5, 1)] := ⟨_, U53, zv53, by kernel_rfl, by kernel_rfl⟩
theorem so72 : StOk Tryz.prog 72 (.agg #[.slice none 0 0, .slice none 0 0, .slice none 0 0, .slice none 0 0, .int .i64 0]) [(0, 2), (2, 1), (3, 1), (4, 1)] := ⟨_, U72, zv72, by kernel_rfl, by kernel_rfl⟩
theorem so75 : StOk Tryz.prog 75 (.agg #[.int .i64 0, .int .i64 0, .string ⟨#[]⟩]) [(0, 1), (1, 1), (2, 1)] := ⟨_, U75, zv75, by kernel_rfl, by kernel_rfl⟩
theorem so84 : StOk Tryz.prog 84 (.agg #[.int .i64 0, .int .i64 0, .int .i64 0, .int .i64 0, .int .i64 0, .int .i64 0, .slice none 0 0]) [(0, 1), (1, 1), (2, 1), (3, 1), (4, 1), (5, 1), (6, 1)] := ⟨_, U84, zv84, by kernel_rfl, by kernel_rfl⟩
theorem so93 : StOk Tryz.prog 93 (.agg #[.int .i64 0, .slice none 0 0]) [(0, 1), (1, 1)] := ⟨_, U93, zv93, by kernel_rfl, by kernel_rfl⟩
theorem so108 : StOk Tryz.prog 108 (.agg #[.int .i64 0, .int .i64 0, .int .i64 0, .int .i64 0]) [(0, 1), (1, 1), (2, 1), (3, 1)] := ⟨_, U108, zv108, by kernel_rfl, by kernel_rfl⟩
theorem so119 : StOk Tryz.prog 119 (.agg #[.string ⟨#[]⟩, .int .i64 0, .string ⟨#[]⟩, .int .i64 0]) [(0, 1), (1, 1), (2, 1), (3, 1)] := ⟨_, U119, zv119, by kernel_rfl, by kernel_rfl⟩
theorem so127 : StOk Tryz.prog 127 (.agg #[.int .i64 0, .int .i64 0]) [(0, 1), (1, 1)] := ⟨_, U127, zv127, by kernel_rfl, by kernel_rfl⟩
theorem so182 : StOk Tryz.prog 182 (.agg #[.string ⟨#[]⟩, .int .i64 0, .nilIface, .bool false]) [(0, 1), (1, 1), (2, 1), (3, 1)] := ⟨_, U182, zv182, by kernel_rfl, by kernel_rfl⟩
theorem so190 : StOk Tryz.prog 190 (.agg #[.string ⟨#[]⟩, .nilIface]) [(0, 1), (1, 1)] := ⟨_, U190, zv190, by kernel_rfl, by kernel_rfl⟩
theorem so207 : StOk Tryz.prog 207 (.agg #[.string ⟨#[]⟩, .string ⟨#[]⟩, .int .i64 0]) [(0, 1), (1, 1), (2, 1)] := ⟨_, U207, zv207, by kernel_rfl, by kernel_rfl⟩
theorem eq50 : EqOk Tryz.prog 50 [.int, .int, .str, .int, .int, .str] := ⟨_, U50, by kernel_rfl, by kernel_rfl, by kernel_rfl, by kernel_rfl⟩
theorem eq75 : EqOk Tryz.prog 75 [.int, .int, .str] := ⟨_, U75, by kernel_rfl, by kernel_rfl, by kernel_rfl, by kernel_rfl⟩
theorem eq108 : EqOk Tryz.prog 108 [.int, .int, .int, .int] := ⟨_, U108, by kernel_rfl, by kernel_rfl, by kernel_rfl, by kernel_rfl⟩
theorem cf7 : ∀ (vs : Array Value) (W : World), (callFunc 7 vs).run Tryz.prog W = .ok (.enter 7 vs) W := fun _ _ => by rfl
theorem cf8 : ∀ (vs : Array Value) (W : World), (callFunc 8 vs).run Tryz.prog W = .ok (.enter 8 vs) W := fun _ _ => by rfl
theorem cf10 : ∀ (vs : Array Value) (W : World), (callFunc 10 vs).run Tryz.prog W = .ok (.enter 10 vs) W := fun _ _ => by rfl
theorem cf11 : ∀ (vs : Array Value) (W : World), (callFunc 11 vs).run Tryz.prog W = .ok (.enter 11 vs) W := fun _ _ => by rfl
theorem cf13 : ∀ (vs : Array Value) (W : World), (callFunc 13 vs).run Tryz.prog W = .ok (.enter 13 vs) W := fun _ _ => by rfl
theorem cf14 : ∀ (vs : Array Value) (W : World), (callFunc 14 vs).run Tryz.prog W = .ok (.enter 14 vs) W := fun _ _ => by rfl
theorem cf16 : ∀ (vs : Array Value) (W : World), (callFunc 16 vs).run Tryz.prog W = .ok (.enter 16 vs) W := fun _ _ => by rfl
theorem cf17 : ∀ (vs : Array Value) (W : World), (callFunc 17 vs).run Tryz.prog W = .ok (.enter 17 vs) W := fun _ _ => by rfl
theorem cf18 : ∀ (vs : Array Value) (W : World), (callFunc 18 vs).run Tryz.prog W = .ok (.enter 18 vs) W := fun _ _ => by rfl
theorem cf19 : ∀ (vs : Array Value) (W : World), (callFunc 19 vs).run Tryz.prog W = .ok (.enter 19 vs) W := fun _ _ => by rfl
theorem cf21 : ∀ (vs : Array Value) (W : World), (callFunc 21 vs).run Tryz.prog W = .ok (.enter 21 vs) W := fun _ _ => by rfl
theorem cf22 : ∀ (vs : Array Value) (W : World), (callFunc 22 vs).run Tryz.prog W = .ok (.enter 22 vs) W := fun _ _ => by rfl
theorem cf23 : ∀ (vs : Array Value) (W : World), (callFunc 23 vs).run Tryz.prog W = .ok (.enter 23 vs) W := fun _ _ => by rfl
theorem cf24 : ∀ (vs : Array Value) (W : World), (callFunc 24 vs).run Tryz.prog W = .ok (.enter 24 vs) W := fun _ _ => by rfl
theorem cf25 : ∀ (vs : Array Value) (W : World), (callFunc 25 vs).run Tryz.prog W = .ok (.enter 25 vs) W := fun _ _ => by rfl
theorem cf26 : ∀ (vs : Array Value) (W : World), (callFunc 26 vs).run Tryz.prog W = .ok (.enter 26 vs) W := fun _ _ => by rfl
theorem cf27 : ∀ (vs : Array Value) (W : World), (callFunc 27 vs).run Tryz.prog W = .ok (.enter 27 vs) W := fun _ _ => by rfl
theorem cf28 : ∀ (vs : Array Value) (W : World), (callFunc 28 vs).run Tryz.prog W = .ok (.enter 28 vs) W := fun _ _ => by rfl
theorem cf29 : ∀ (vs : Array Value) (W : World), (callFunc 29 vs).run Tryz.prog W = .ok (.enter 29 vs) W := fun _ _ => by rfl
theorem cf30 : ∀ (vs : Array Value) (W : World), (callFunc 30 vs).run Tryz.prog W = .ok (.enter 30 vs) W := fun _ _ => by rfl
theorem cf31 : ∀ (vs : Array Value) (W : World), (callFunc 31 vs).run Tryz.prog W = .ok (.enter 31 vs) W := fun _ _ => by rfl
theorem cf32 : ∀ (vs : Array Value) (W : World), (callFunc 32 vs).run Tryz.prog W = .ok (.enter 32 vs) W := fun _ _ => by rfl
theorem cf34 : ∀ (vs : Array Value) (W : World), (callFunc 34 vs).run Tryz.prog W = .ok (.enter 34 vs) W := fun _ _ => by rfl
theorem cf35 : ∀ (vs : Array Value) (W : World), (callFunc 35 vs).run Tryz.prog W = .ok (.enter 35 vs) W := fun _ _ => by rfl
theorem cf36 : ∀ (vs : Array Value) (W : World), (callFunc 36 vs).run Tryz.prog W = .ok (.enter 36 vs) W := fun _ _ => by rfl
theorem cf37 : ∀ (vs : Array Value) (W : World), (callFunc 37 vs).run Tryz.prog W = .ok (.enter 37 vs) W := fun _ _ => by rfl
theorem cf38 : ∀ (vs : Array Value) (W : World), (callFunc 38 vs).run Tryz.prog W = .ok (.enter 38 vs) W := fun _ _ => by rfl
theorem cf39 : ∀ (vs : Array Value) (W : World), (callFunc 39 vs).run Tryz.prog W = .ok (.enter 39 vs) W := fun _ _ => by rfl
theorem cf40 : ∀ (vs : Array Value) (W : World), (callFunc 40 vs).run Tryz.prog W = .ok (.enter 40 vs) W := fun _ _ => by rfl
theorem cf41 : ∀ (vs : Array Value) (W : World), (callFunc 41 vs).run Tryz.prog W = .ok (.enter 41 vs) W := fun _ _ => by rfl
theorem cf42 : ∀ (vs : Array Value) (W : World), (callFunc 42 vs).run Tryz.prog W = .ok (.enter 42 vs) W := fun _ _ => by rfl
theorem cf43 : ∀ (vs : Array Value) (W : World), (callFunc 43 vs).run Tryz.prog W = .ok (.enter 43 vs) W := fun _ _ => by rfl
theorem cf44 : ∀ (vs : Array Value) (W : World), (callFunc 44 vs).run Tryz.prog W = .ok (.enter 44 vs) W := fun _ _ => by rfl
theorem cf45 : ∀ (vs : Array Value) (W : World), (callFunc 45 vs).run Tryz.prog W = .ok (.enter 45 vs) W := fun _ _ => by rfl
theorem cf46 : ∀ (vs : Array Value) (W : World), (callFunc 46 vs).run Tryz.prog W = .ok (.enter 46 vs) W := fun _ _ => by rfl
theorem cf47 : ∀ (vs : Array Value) (W : World), (callFunc 47 vs).run Tryz.prog W = .ok (.enter 47 vs) W := fun _ _ => by rfl
theorem cf48 : ∀ (vs : Array Value) (W : World), (callFunc 48 vs).run Tryz.prog W = .ok (.enter 48 vs) W := fun _ _ => by rfl
theorem cf49 : ∀ (vs : Array Value) (W : World), (callFunc 49 vs).run Tryz.prog W = .ok (.enter 49 vs) W := fun _ _ => by rfl
theorem cf50 : ∀ (vs : Array Value) (W : World), (callFunc 50 vs).run Tryz.prog W = .ok (.enter 50 vs) W := fun _ _ => by rfl
theorem cf51 : ∀ (vs : Array Value) (W : World), (callFunc 51 vs).run Tryz.prog W = .ok (.enter 51 vs) W := fun _ _ => by rfl
theorem cf52 : ∀ (vs : Array Value) (W : World), (callFunc 52 vs).run Tryz.prog W = .ok (.enter 52 vs) W := fun _ _ => by rfl
theorem cf53 : ∀ (vs : Array Value) (W : World), (callFunc 53 vs).run Tryz.prog W = .ok (.enter 53 vs) W := fun _ _ => by rfl
theorem cf54 : ∀ (vs : Array Value) (W : World), (callFunc 54 vs).run Tryz.prog W = .ok (.enter 54 vs) W := fun _ _ => by rfl
theorem cf55 : ∀ (vs : Array Value) (W : World), (callFunc 55 vs).run Tryz.prog W = .ok (.enter 55 vs) W := fun _ _ => by rfl
theorem cf56 : ∀ (vs : Array Value) (W : World), (callFunc 56 vs).run Tryz.prog W = .ok (.enter 56 vs) W := fun _ _ => by rfl
theorem cf57 : ∀ (vs : Array Value) (W : World), (callFunc 57 vs).run Tryz.prog W = .ok (.enter 57 vs) W := fun _ _ => by rfl
theorem cf58 : ∀ (vs : Array Value) (W : World), (callFunc 58 vs).run Tryz.prog W = .ok (.enter 58 vs) W := fun _ _ => by rfl
theorem cf59 : ∀ (vs : Array Value) (W : World), (callFunc 59 vs).run Tryz.prog W = .ok (.enter 59 vs) W := fun _ _ => by rfl
theorem cf60 : ∀ (vs : Array Value) (W : World), (callFunc 60 vs).run Tryz.prog W = .ok (.enter 60 vs) W := fun _ _ => by rfl
theorem cf61 : ∀ (vs : Array Value) (W : World), (callFunc 61 vs).run Tryz.prog W = .ok (.enter 61 vs) W := fun _ _ => by rfl
theorem cf62 : ∀ (vs : Array Value) (W : World), (callFunc 62 vs).run Tryz.prog W = .ok (.enter 62 vs) W := fun _ _ => by rfl
theorem cf63 : ∀ (vs : Array Value) (W : World), (callFunc 63 vs).run Tryz.prog W = .ok (.enter 63 vs) W := fun _ _ => by rfl
theorem cf64 : ∀ (vs : Array Value) (W : World), (callFunc 64 vs).run Tryz.prog W = .ok (.enter 64 vs) W := fun _ _ => by rfl
theorem cf65 : ∀ (vs : Array Value) (W : World), (callFunc 65 vs).run Tryz.prog W = .ok (.enter 65 vs) W := fun _ _ => by rfl
theorem cf66 : ∀ (vs : Array Value) (W : World), (callFunc 66 vs).run Tryz.prog W = .ok (.enter 66 vs) W := fun _ _ => by rfl
theorem cf67 : ∀ (vs : Array Value) (W : World), (callFunc 67 vs).run Tryz.prog W = .ok (.enter 67 vs) W := fun _ _ => by rfl
theorem cf68 : ∀ (vs : Array Value) (W : World), (callFunc 68 vs).run Tryz.prog W = .ok (.enter 68 vs) W := fun _ _ => by rfl
theorem cf69 : ∀ (vs : Array Value) (W : World), (callFunc 69 vs).run Tryz.prog W = .ok (.enter 69 vs) W := fun _ _ => by rfl
theorem cf70 : ∀ (vs : Array Value) (W : World), (callFunc 70 vs).run Tryz.prog W = .ok (.enter 70 vs) W := fun _ _ => by rfl
theorem cf71 : ∀ (vs : Array Value) (W : World), (callFunc 71 vs).run Tryz.prog W = .ok (.enter 71 vs) W := fun _ _ => by rfl
theorem cf72 : ∀ (vs : Array Value) (W : World), (callFunc 72 vs).run Tryz.prog W = .ok (.enter 72 vs) W := fun _ _ => by rfl
theorem cf73 : ∀ (vs : Array Value) (W : World), (callFunc 73 vs).run Tryz.prog W = .ok (.enter 73 vs) W := fun _ _ => by rfl
theorem cf74 : ∀ (vs : Array Value) (W : World), (callFunc 74 vs).run Tryz.prog W = .ok (.enter 74 vs) W := fun _ _ => by rfl
theorem cf75 : ∀ (vs : Array Value) (W : World), (callFunc 75 vs).run Tryz.prog W = .ok (.enter 75 vs) W := fun _ _ => by rfl
theorem cf76 : ∀ (vs : Array Value) (W : World), (callFunc 76 vs).run Tryz.prog W = .ok (.enter 76 vs) W := fun _ _ => by rfl
theorem cf77 : ∀ (vs : Array Value) (W : World), (callFunc 77 vs).run Tryz.prog W = .ok (.enter 77 vs) W := fun _ _ => by rfl
theorem cf78 : ∀ (vs : Array Value) (W : World), (callFunc 78 vs).run Tryz.prog W = .ok (.enter 78 vs) W := fun _ _ => by rfl
theorem cf79 : ∀ (vs : Array Value) (W : World), (callFunc 79 vs).run Tryz.prog W = .ok (.enter 79 vs) W := fun _ _ => by rfl
theorem cf80 : ∀ (vs : Array Value) (W : World), (callFunc 80 vs).run Tryz.prog W = .ok (.enter 80 vs) W := fun _ _ => by rfl
theorem cf81 : ∀ (vs : Array Value) (W : World), (callFunc 81 vs).run Tryz.prog W = .ok (.enter 81 vs) W := fun _ _ => by rfl
theorem cf82 : ∀ (vs : Array Value) (W : World), (callFunc 82 vs).run Tryz.prog W = .ok (.enter 82 vs) W := fun _ _ => by rfl
theorem cf83 : ∀ (vs : Array Value) (W : World), (callFunc 83 vs).run Tryz.prog W = .ok (.enter 83 vs) W := fun _ _ => by rfl
theorem cf84 : ∀ (vs : Array Value) (W : World), (callFunc 84 vs).run Tryz.prog W = .ok (.enter 84 vs) W := fun _ _ => by rfl
theorem cf85 : ∀ (vs : Array Value) (W : World), (callFunc 85 vs).run Tryz.prog W = .ok (.enter 85 vs) W := fun _ _ => by rfl
theorem cf86 : ∀ (vs : Array Value) (W : World), (callFunc 86 vs).run Tryz.prog W = .ok (.enter 86 vs) W := fun _ _ => by rfl
theorem cf87 : ∀ (vs : Array Value) (W : World), (callFunc 87 vs).run Tryz.prog W = .ok (.enter 87 vs) W := fun _ _ => by rfl
theorem cf88 : ∀ (vs : Array Value) (W : World), (callFunc 88 vs).run Tryz.prog W = .ok (.enter 88 vs) W := fun _ _ => by rfl
theorem cf89 : ∀ (vs : Array Value) (W : World), (callFunc 89 vs).run Tryz.prog W = .ok (.enter 89 vs) W := fun _ _ => by rfl
theorem cf90 : ∀ (vs : Array Value) (W : World), (callFunc 90 vs).run Tryz.prog W = .ok (.enter 90 vs) W := fun _ _ => by rfl
theorem cf91 : ∀ (vs : Array Value) (W : World), (callFunc 91 vs).run Tryz.prog W = .ok (.enter 91 vs) W := fun _ _ => by rfl
theorem cf92 : ∀ (vs : Array Value) (W : World), (callFunc 92 vs).run Tryz.prog W = .ok (.enter 92 vs) W := fun _ _ => by rfl
theorem cf93 : ∀ (vs : Array Value) (W : World), (callFunc 93 vs).run Tryz.prog W = .ok (.enter 93 vs) W := fun _ _ => by rfl
theorem cf94 : ∀ (vs : Array Value) (W : World), (callFunc 94 vs).run Tryz.prog W = .ok (.enter 94 vs) W := fun _ _ => by rfl
theorem cf95 : ∀ (vs : Array Value) (W : World), (callFunc 95 vs).run Tryz.prog W = .ok (.enter 95 vs) W := fun _ _ => by rfl
theorem cf96 : ∀ (vs : Array Value) (W : World), (callFunc 96 vs).run Tryz.prog W = .ok (.enter 96 vs) W := fun _ _ => by rfl
theorem cf97 : ∀ (vs : Array Value) (W : World), (callFunc 97 vs).run Tryz.prog W = .ok (.enter 97 vs) W := fun _ _ => by rfl
theorem cf98 : ∀ (vs : Array Value) (W : World), (callFunc 98 vs).run Tryz.prog W = .ok (.enter 98 vs) W := fun _ _ => by rfl
theorem cf99 : ∀ (vs : Array Value) (W : World), (callFunc 99 vs).run Tryz.prog W = .ok (.enter 99 vs) W := fun _ _ => by rfl
theorem cf100 : ∀ (vs : Array Value) (W : World), (callFunc 100 vs).run Tryz.prog W = .ok (.enter 100 vs) W := fun _ _ => by rfl
theorem cf101 : ∀ (vs : Array Value) (W : World), (callFunc 101 vs).run Tryz.prog W = .ok (.enter 101 vs) W := fun _ _ => by rfl
theorem cf102 : ∀ (vs : Array Value) (W : World), (callFunc 102 vs).run Tryz.prog W = .ok (.enter 102 vs) W := fun _ _ => by rfl
theorem cf103 : ∀ (vs : Array Value) (W : World), (callFunc 103 vs).run Tryz.prog W = .ok (.enter 103 vs) W := fun _ _ => by rfl
theorem cf104 : ∀ (vs : Array Value) (W : World), (callFunc 104 vs).run Tryz.prog W = .ok (.enter 104 vs) W := fun _ _ => by rfl
theorem cf105 : ∀ (vs : Array Value) (W : World), (callFunc 105 vs).run Tryz.prog W = .ok (.enter 105 vs) W := fun _ _ => by rfl
theorem cf106 : ∀ (vs : Array Value) (W : World), (callFunc 106 vs).run Tryz.prog W = .ok (.enter 106 vs) W := fun _ _ => by rfl
theorem cf107 : ∀ (vs : Array Value) (W : World), (callFunc 107 vs).run Tryz.prog W = .ok (.enter 107 vs) W := fun _ _ => by rfl
theorem cf108 : ∀ (vs : Array Value) (W : World), (callFunc 108 vs).run Tryz.prog W = .ok (.enter 108 vs) W := fun _ _ => by rfl
theorem cf109 : ∀ (vs : Array Value) (W : World), (callFunc 109 vs).run Tryz.prog W = .ok (.enter 109 vs) W := fun _ _ => by rfl
theorem cf110 : ∀ (vs : Array Value) (W : World), (callFunc 110 vs).run Tryz.prog W = .ok (.enter 110 vs) W := fun _ _ => by rfl
theorem cf111 : ∀ (vs : Array Value) (W : World), (callFunc 111 vs).run Tryz.prog W = .ok (.enter 111 vs) W := fun _ _ => by rfl
theorem cf112 : ∀ (vs : Array Value) (W : World), (callFunc 112 vs).run Tryz.prog W = .ok (.enter 112 vs) W := fun _ _ => by rfl
theorem cf113 : ∀ (vs : Array Value) (W : World), (callFunc 113 vs).run Tryz.prog W = .ok (.enter 113 vs) W := fun _ _ => by rfl
theorem cf114 : ∀ (vs : Array Value) (W : World), (callFunc 114 vs).run Tryz.prog W = .ok (.enter 114 vs) W := fun _ _ => by rfl
theorem cf115 : ∀ (vs : Array Value) (W : World), (callFunc 115 vs).run Tryz.prog W = .ok (.enter 115 vs) W := fun _ _ => by rfl
theorem cf116 : ∀ (vs : Array Value) (W : World), (callFunc 116 vs).run Tryz.prog W = .ok (.enter 116 vs) W := fun _ _ => by rfl
theorem cf117 : ∀ (vs : Array Value) (W : World), (callFunc 117 vs).run Tryz.prog W = .ok (.enter 117 vs) W := fun _ _ => by rfl
theorem cf118 : ∀ (vs : Array Value) (W : World), (callFunc 118 vs).run Tryz.prog W = .ok (.enter 118 vs) W := fun _ _ => by rfl
theorem cf119 : ∀ (vs : Array Value) (W : World), (callFunc 119 vs).run Tryz.prog W = .ok (.enter 119 vs) W := fun _ _ => by rfl
theorem cf120 : ∀ (vs : Array Value) (W : World), (callFunc 120 vs).run Tryz.prog W = .ok (.enter 120 vs) W := fun _ _ => by rfl
theorem cf121 : ∀ (vs : Array Value) (W : World), (callFunc 121 vs).run Tryz.prog W = .ok (.enter 121 vs) W := fun _ _ => by rfl
theorem cf125 : ∀ (vs : Array Value) (W : World), (callFunc 125 vs).run Tryz.prog W = .ok (.enter 125 vs) W := fun _ _ => by rfl
theorem cf126 : ∀ (vs : Array Value) (W : World), (callFunc 126 vs).run Tryz.prog W = .ok (.enter 126 vs) W := fun _ _ => by rfl
theorem cf127 : ∀ (vs : Array Value) (W : World), (callFunc 127 vs).run Tryz.prog W = .ok (.enter 127 vs) W := fun _ _ => by rfl
theorem cf128 : ∀ (vs : Array Value) (W : World), (callFunc 128 vs).run Tryz.prog W = .ok (.enter 128 vs) W := fun _ _ => by rfl
theorem cf129 : ∀ (vs : Array Value) (W : World), (callFunc 129 vs).run Tryz.prog W = .ok (.enter 129 vs) W := fun _ _ => by rfl
theorem cf130 : ∀ (vs : Array Value) (W : World), (callFunc 130 vs).run Tryz.prog W = .ok (.enter 130 vs) W := fun _ _ => by rfl
theorem cf133 : ∀ (vs : Array Value) (W : World), (callFunc 133 vs).run Tryz.prog W = .ok (.enter 133 vs) W := fun _ _ => by rfl
theorem cf134 : ∀ (vs : Array Value) (W : World), (callFunc 134 vs).run Tryz.prog W = .ok (.enter 134 vs) W := fun _ _ => by rfl
theorem cf135 : ∀ (vs : Array Value) (W : World), (callFunc 135 vs).run Tryz.prog W = .ok (.enter 135 vs) W := fun _ _ => by rfl
theorem cf136 : ∀ (vs : Array Value) (W : World), (callFunc 136 vs).run Tryz.prog W = .ok (.enter 136 vs) W := fun _ _ => by rfl
theorem cf137 : ∀ (vs : Array Value) (W : World), (callFunc 137 vs).run Tryz.prog W = .ok (.enter 137 vs) W := fun _ _ => by rfl
theorem cf138 : ∀ (vs : Array Value) (W : World), (callFunc 138 vs).run Tryz.prog W = .ok (.enter 138 vs) W := fun _ _ => by rfl
theorem cf139 : ∀ (vs : Array Value) (W : World), (callFunc 139 vs).run Tryz.prog W = .ok (.enter 139 vs) W := fun _ _ => by rfl
theorem cf140 : ∀ (vs : Array Value) (W : World), (callFunc 140 vs).run Tryz.prog W = .ok (.enter 140 vs) W := fun _ _ => by rfl
theorem cf141 : ∀ (vs : Array Value) (W : World), (callFunc 141 vs).run Tryz.prog W = .ok (.enter 141 vs) W := fun _ _ => by rfl
theorem cf142 : ∀ (vs : Array Value) (W : World), (callFunc 142 vs).run Tryz.prog W = .ok (.enter 142 vs) W := fun _ _ => by rfl
theorem cf144 : ∀ (vs : Array Value) (W : World), (callFunc 144 vs).run Tryz.prog W = .ok (.enter 144 vs) W := fun _ _ => by rfl
theorem cf145 : ∀ (vs : Array Value) (W : World), (callFunc 145 vs).run Tryz.prog W = .ok (.enter 145 vs) W := fun _ _ => by rfl
theorem cf146 : ∀ (vs : Array Value) (W : World), (callFunc 146 vs).run Tryz.prog W = .ok (.enter 146 vs) W := fun _ _ => by rfl
theorem cf150 : ∀ (vs : Array Value) (W : World), (callFunc 150 vs).run Tryz.prog W = .ok (.enter 150 vs) W := fun _ _ => by rfl
theorem cf151 : ∀ (vs : Array Value) (W : World), (callFunc 151 vs).run Tryz.prog W = .ok (.enter 151 vs) W := fun _ _ => by rfl
theorem cf152 : ∀ (vs : Array Value) (W : World), (callFunc 152 vs).run Tryz.prog W = .ok (.enter 152 vs) W := fun _ _ => by rfl
theorem cf153 : ∀ (vs : Array Value) (W : World), (callFunc 153 vs).run Tryz.prog W = .ok (.enter 153 vs) W := fun _ _ => by rfl
theorem cf154 : ∀ (vs : Array Value) (W : World), (callFunc 154 vs).run Tryz.prog W = .ok (.enter 154 vs) W := fun _ _ => by rfl
theorem cf155 : ∀ (vs : Array Value) (W : World), (callFunc 155 vs).run Tryz.prog W = .ok (.enter 155 vs) W := fun _ _ => by rfl
theorem cf156 : ∀ (vs : Array Value) (W : World), (callFunc 156 vs).run Tryz.prog W = .ok (.enter 156 vs) W := fun _ _ => by rfl
theorem cf157 : ∀ (vs : Array Value) (W : World), (callFunc 157 vs).run Tryz.prog W = .ok (.enter 157 vs) W := fun _ _ => by rfl
theorem cf158 : ∀ (vs : Array Value) (W : World), (callFunc 158 vs).run Tryz.prog W = .ok (.enter 158 vs) W := fun _ _ => by rfl
theorem cf159 : ∀ (vs : Array Value) (W : World), (callFunc 159 vs).run Tryz.prog W = .ok (.enter 159 vs) W := fun _ _ => by rfl
theorem cf161 : ∀ (vs : Array Value) (W : World), (callFunc 161 vs).run Tryz.prog W = .ok (.enter 161 vs) W := fun _ _ => by rfl
theorem cf162 : ∀ (vs : Array Value) (W : World), (callFunc 162 vs).run Tryz.prog W = .ok (.enter 162 vs) W := fun _ _ => by rfl
theorem cf163 : ∀ (vs : Array Value) (W : World), (callFunc 163 vs).run Tryz.prog W = .ok (.enter 163 vs) W := fun _ _ => by rfl
theorem cf164 : ∀ (vs : Array Value) (W : World), (callFunc 164 vs).run Tryz.prog W = .ok (.enter 164 vs) W := fun _ _ => by rfl
theorem cf166 : ∀ (vs : Array Value) (W : World), (callFunc 166 vs).run Tryz.prog W = .ok (.enter 166 vs) W := fun _ _ => by rfl
theorem cf167 : ∀ (vs : Array Value) (W : World), (callFunc 167 vs).run Tryz.prog W = .ok (.enter 167 vs) W := fun _ _ => by rfl
theorem cf168 : ∀ (vs : Array Value) (W : World), (callFunc 168 vs).run Tryz.prog W = .ok (.enter 168 vs) W := fun _ _ => by rfl
theorem cf169 : ∀ (vs : Array Value) (W : World), (callFunc 169 vs).run Tryz.prog W = .ok (.enter 169 vs) W := fun _ _ => by rfl
theorem cf170 : ∀ (vs : Array Value) (W : World), (callFunc 170 vs).run Tryz.prog W = .ok (.enter 170 vs) W := fun _ _ => by rfl
theorem cf171 : ∀ (vs : Array Value) (W : World), (callFunc 171 vs).run Tryz.prog W = .ok (.enter 171 vs) W := fun _ _ => by rfl
theorem cf172 : ∀ (vs : Array Value) (W : World), (callFunc 172 vs).run Tryz.prog W = .ok (.enter 172 vs) W := fun _ _ => by rfl
theorem cf173 : ∀ (vs : Array Value) (W : World), (callFunc 173 vs).run Tryz.prog W = .ok (.enter 173 vs) W := fun _ _ => by rfl
theorem cf174 : ∀ (vs : Array Value) (W : World), (callFunc 174 vs).run Tryz.prog W = .ok (.enter 174 vs) W := fun _ _ => by rfl
theorem cf175 : ∀ (vs : Array Value) (W : World), (callFunc 175 vs).run Tryz.prog W = .ok (.enter 175 vs) W := fun _ _ => by rfl
theorem cf176 : ∀ (vs : Array Value) (W : World), (callFunc 176 vs).run Tryz.prog W = .ok (.enter 176 vs) W := fun _ _ => by rfl
theorem cf177 : ∀ (vs : Array Value) (W : World), (callFunc 177 vs).run Tryz.prog W = .ok (.enter 177 vs) W := fun _ _ => by rfl
theorem cf178 : ∀ (vs : Array Value) (W : World), (callFunc 178 vs).run Tryz.prog W = .ok (.enter 178 vs) W := fun _ _ => by rfl
theorem cf179 : ∀ (vs : Array Value) (W : World), (callFunc 179 vs).run Tryz.prog W = .ok (.enter 179 vs) W := fun _ _ => by rfl
theorem cf183 : ∀ (vs : Array Value) (W : World), (callFunc 183 vs).run Tryz.prog W = .ok (.enter 183 vs) W := fun _ _ => by rfl
theorem cf184 : ∀ (vs : Array Value) (W : World), (callFunc 184 vs).run Tryz.prog W = .ok (.enter 184 vs) W := fun _ _ => by rfl
theorem cf185 : ∀ (vs : Array Value) (W : World), (callFunc 185 vs).run Tryz.prog W = .ok (.enter 185 vs) W := fun _ _ => by rfl
theorem cf186 : ∀ (vs : Array Value) (W : World), (callFunc 186 vs).run Tryz.prog W = .ok (.enter 186 vs) W := fun _ _ => by rfl
theorem cf192 : ∀ (vs : Array Value) (W : World), (callFunc 192 vs).run Tryz.prog W = .ok (.enter 192 vs) W := fun _ _ => by rfl
theorem cf215 : ∀ (vs : Array Value) (W : World), (callFunc 215 vs).run Tryz.prog W = .ok (.enter 215 vs) W := fun _ _ => by rfl
end Go.Proofs.YtcndnllmlhhjiaaGreatDoor
namespace Go.Proofs.YtcndnllmlhhjiaaGreatDoor
set_option linter.unusedVariables false
section
variable {P : Program} {ops : Array Oper} {n : Nat} {QQ : List Kd → Sl → List AO → Prop} {l : List Oper} {ks : List Kd} {σ : Sl} {H : List AO} {o : Oper} {gd : Bool}
theorem ρ0 {c x y : Operand} {cb u v r : Bool} {Y : AV} {d : Option Tmp} (hr : ARun P ops n QQ l (ks ++ [.pure]) (putS σ d Y) H) (ho : o.op = .pick c x y := by exact rfl) (hd : o.dst = d := by exact rfl) (hn : dstLt n d = true := by exact rfl) (hG : gdS ops σ o.guard = some gd := by exact rfl) (hc : Ev gd σ c (.bool cb) := by exact ep rfl) (hx : Ev (gd && cb) σ x (.bool u) := by exact Ev.opt rfl (by first | exact pkT | exact pkT2 | simp +contextual)) (hy : Ev (gd && !cb) σ y (.bool v) := by exact ep rfl) (hb : (bif cb then u else v) = r := by exact andB _ _) (hY : optA o.guard gd (.bool r) = Y := by exact optN) : ARun P ops n QQ (o :: l) ks σ H := ARun.pick ho hd hn hG hc hx hy hb hY hr
theorem ρ2 {bo : BinOp} {x y : Operand} {t1 t2 : TypeId} {k : IntKind} {i j : Int} {r : Bool} {Y : AV} {d : Option Tmp} (hr : ARun P ops n QQ l (ks ++ [.pure]) (putS σ d Y) H) (ho : o.op = .binOp bo t1 x y t2 := by exact rfl) (hd : o.dst = d := by exact rfl) (hn : dstLt n d = true := by exact rfl) (hG : gdS ops σ o.guard = some gd := by exact rfl) (hx : Ev gd σ x (.int k i) := by exact ep rfl) (hy : Ev gd σ y (.int k j) := by exact ep rfl) (he : cmpI bo i j = some r := by exact rfl) (hY : optA o.guard gd (.bool r) = Y := by exact optN) : ARun P ops n QQ (o :: l) ks σ H := ARun.cmp ho hd hn hG hx hy he hY hr
theorem ρ3 {c x y : Operand} {cb u v r : Bool} {Y : AV} {d : Option Tmp} (hr : ARun P ops n QQ l (ks ++ [.pure]) (putS σ d Y) H) (ho : o.op = .pick c x y := by exact rfl) (hd : o.dst = d := by exact rfl) (hn : dstLt n d = true := by exact rfl) (hG : gdS ops σ o.guard = some gd := by exact rfl) (hc : Ev gd σ c (.bool cb) := by exact ep rfl) (hx : Ev (gd && cb) σ x (.bool u) := by exact ep rfl) (hy : Ev (gd && !cb) σ y (.bool v) := by exact Ev.opt rfl (by first | exact pkF | exact pkF2 | simp +contextual)) (hb : (bif cb then u else v) = r := by exact orB _ _) (hY : optA o.guard gd (.bool r) = Y := by exact optN) : ARun P ops n QQ (o :: l) ks σ H := ARun.pick ho hd hn hG hc hx hy hb hY hr
theorem ρ4 {x : Operand} {s : TypeId} {f fo fs : Nat} {fields : Array Field} {fld : Field} {cs C : List AV} {Y : AV} {d : Option Tmp} {tf : TypeId} (hu : P.underlying s = some (.struct fields)) (hz : Sz P tf fs) (hr : ARun P ops n QQ l (ks ++ [.pure]) (putS σ d Y) H) (ho : o.op = .fieldAddr s x f := by exact rfl) (hd : o.dst = d := by exact rfl) (hn : dstLt n d = true := by exact rfl) (hG : gdS ops σ o.guard = some gd := by exact rfl) (hf : fields[f]? = some fld := by exact rfl) (hfo : fld.offset = fo := by exact rfl) (hft : fld.type = tf := by exact rfl) (hfs : fs ≠ 0 := by decide) (hx : Ev gd σ x (.pe cs) := by exact ep rfl) (hC : (cs.drop fo).take fs = C := by exact rfl) (hY : optA o.guard gd (.pe C) = Y := by exact optN) : ARun P ops n QQ (o :: l) ks σ H := ARun.fieldPe ho hd hn hG hu hf hfo (by rw [hft]; exact hz) hfs hx hC hY hr
theorem ρ5 {x : Operand} {t : TypeId} {u : TypeDesc} {cs : List AV} {X Y : AV} {d : Option Tmp} (hu : P.underlying t = some u) (hr : ARun P ops n QQ l (ks ++ [.pure]) (putS σ d Y) H) (ho : o.op = .load t x := by exact rfl) (hd : o.dst = d := by exact rfl) (hn : dstLt n d = true := by exact rfl) (hG : gdS ops σ o.guard = some gd := by exact rfl) (hA : isA u = false := by exact rfl) (hx : Ev gd σ x (.pe cs) := by exact Ev.opt rfl fun h => h) (hC : cs[0]? = some X := by exact rfl) (hY : optA o.guard gd X = Y := by exact optS) : ARun P ops n QQ (o :: l) ks σ H := ARun.loadPe ho hd hn hG hu hA hx hC hY hr
theorem ρ7 {x : Operand} {t : TypeId} {u : TypeDesc} {cs : List AV} {X Y : AV} {d : Option Tmp} (hu : P.underlying t = some u) (hr : ARun P ops n QQ l (ks ++ [.pure]) (putS σ d Y) H) (ho : o.op = .load t x := by exact rfl) (hd : o.dst = d := by exact rfl) (hn : dstLt n d = true := by exact rfl) (hG : gdS ops σ o.guard = some gd := by exact rfl) (hA : isA u = false := by exact rfl) (hx : Ev gd σ x (.pe cs) := by exact ep rfl) (hC : cs[0]? = some X := by exact rfl) (hY : optA o.guard gd X = Y := by exact optN) : ARun P ops n QQ (o :: l) ks σ H := ARun.loadPe ho hd hn hG hu hA hx hC hY hr
theorem ρ8 {x y : Operand} {t e : TypeId} {z j : Nat} {k : IntKind} {i : Int} {xs : List AV} {X : AV} {C : List AV} {Y : AV} {d : Option Tmp} (hu : P.underlying t = some (.slice e)) (hz : Sz P e z) (hr : ARun P ops n QQ l (ks ++ [.pure]) (putS σ d Y) H) (ho : o.op = .indexAddr t x y := by exact rfl) (hd : o.dst = d := by exact rfl) (hn : dstLt n d = true := by exact rfl) (hG : gdS ops σ o.guard = some gd := by exact rfl) (hx : Ev gd σ x (.sl xs) := by exact ep rfl) (hy : Ev gd σ y (.int k i) := by exact ep rfl) (hi : gd = true → i = (j : Int) := by exact fun hg => ofNonneg (by (try simp at hg); omega)) (hj : gd = true → xs[j]? = some X := by exact fun hg => getMap _ _ _ (by (try simp at hg); omega)) (hX : X.cells = C := by exact rfl) (hC : C.length = z := by exact rfl) (hY : optA o.guard gd (.pe C) = Y := by exact optN) : ARun P ops n QQ (o :: l) ks σ H := ARun.indexSl ho hd hn hG hu hz hx hy hi hj hX hC hY hr
theorem ρ9 {x : Operand} {xs : List AV} {i : Nat} {X Y : AV} {d : Option Tmp} (hr : ARun P ops n QQ l (ks ++ [.pure]) (putS σ d Y) H) (ho : o.op = .extract x i := by exact rfl) (hd : o.dst = d := by exact rfl) (hn : dstLt n d = true := by exact rfl) (hG : gdS ops σ o.guard = some gd := by exact rfl) (hx : Ev gd σ x (.tup xs) := by exact ep rfl) (hi : xs[i]? = some X := by exact rfl) (hY : optA o.guard gd X = Y := by exact optN) : ARun P ops n QQ (o :: l) ks σ H := ARun.extract ho hd hn hG hx hi hY hr
theorem ρa {bo : BinOp} {x y : Operand} {t1 t2 : TypeId} {k : IntKind} {i j e r : Int} {Y : AV} {d : Option Tmp} (hr : ARun P ops n QQ l (ks ++ [.pure]) (putS σ d Y) H) (ho : o.op = .binOp bo t1 x y t2 := by exact rfl) (hd : o.dst = d := by exact rfl) (hn : dstLt n d = true := by exact rfl) (hG : gdS ops σ o.guard = some gd := by exact rfl) (hx : Ev gd σ x (.int k i) := by exact ep rfl) (hy : Ev gd σ y (.int k j) := by exact ep rfl) (he : arithI bo i j = some e := by exact rfl) (hw : gd = true → k.wrap e = r := by exact fun hg => i64w (by (try simp at hg); omega)) (hY : optA o.guard gd (.int k r) = Y := by exact optN) : ARun P ops n QQ (o :: l) ks σ H := ARun.arith ho hd hn hG hx hy he hw hY hr
theorem ρb {bo : BinOp} {x y : Operand} {t1 t2 : TypeId} {k : IntKind} {i j : Int} {r : Bool} {Y : AV} {d : Option Tmp} (hr : ARun P ops n QQ l (ks ++ [.pure]) (putS σ d Y) H) (ho : o.op = .binOp bo t1 x y t2 := by exact rfl) (hd : o.dst = d := by exact rfl) (hn : dstLt n d = true := by exact rfl) (hG : gdS ops σ o.guard = some gd := by exact rfl) (hx : Ev gd σ x (.int k i) := by exact Ev.opt rfl fun h => h) (hy : Ev gd σ y (.int k j) := by exact ep rfl) (he : cmpI bo i j = some r := by exact rfl) (hY : optA o.guard gd (.bool r) = Y := by exact optS) : ARun P ops n QQ (o :: l) ks σ H := ARun.cmp ho hd hn hG hx hy he hY hr
theorem ρc {x : Operand} {s : TypeId} {f fo fs : Nat} {fields : Array Field} {fld : Field} {cs C : List AV} {Y : AV} {d : Option Tmp} {tf : TypeId} (hu : P.underlying s = some (.struct fields)) (hz : Sz P tf fs) (hr : ARun P ops n QQ l (ks ++ [.pure]) (putS σ d Y) H) (ho : o.op = .fieldAddr s x f := by exact rfl) (hd : o.dst = d := by exact rfl) (hn : dstLt n d = true := by exact rfl) (hG : gdS ops σ o.guard = some gd := by exact rfl) (hf : fields[f]? = some fld := by exact rfl) (hfo : fld.offset = fo := by exact rfl) (hft : fld.type = tf := by exact rfl) (hfs : fs ≠ 0 := by decide) (hx : Ev gd σ x (.pe cs) := by exact ep rfl) (hC : (cs.drop fo).take fs = C := by exact rfl) (hY : optA o.guard gd (.pe C) = Y := by exact optS) : ARun P ops n QQ (o :: l) ks σ H := ARun.fieldPe ho hd hn hG hu hf hfo (by rw [hft]; exact hz) hfs hx hC hY hr
theorem ρe {bo : BinOp} {x y : Operand} {t1 t2 : TypeId} {k : IntKind} {i j e r : Int} {Y : AV} {d : Option Tmp} (hr : ARun P ops n QQ l (ks ++ [.pure]) (putS σ d Y) H) (ho : o.op = .binOp bo t1 x y t2 := by exact rfl) (hd : o.dst = d := by exact rfl) (hn : dstLt n d = true := by exact rfl) (hG : gdS ops σ o.guard = some gd := by exact rfl) (hx : Ev gd σ x (.int k i) := by exact ep rfl) (hy : Ev gd σ y (.int k j) := by exact ep rfl) (he : arithI bo i j = some e := by exact rfl) (hw : gd = true → k.wrap e = r := by exact fun _ => rfl) (hY : optA o.guard gd (.int k r) = Y := by exact optN) : ARun P ops n QQ (o :: l) ks σ H := ARun.arith ho hd hn hG hx hy he hw hY hr
theorem ρf {x y : Operand} {t e : TypeId} {z j : Nat} {k : IntKind} {i : Int} {xs : List AV} {X : AV} {C : List AV} {Y : AV} {d : Option Tmp} (hu : P.underlying t = some (.slice e)) (hz : Sz P e z) (hr : ARun P ops n QQ l (ks ++ [.pure]) (putS σ d Y) H) (ho : o.op = .indexAddr t x y := by exact rfl) (hd : o.dst = d := by exact rfl) (hn : dstLt n d = true := by exact rfl) (hG : gdS ops σ o.guard = some gd := by exact rfl) (hx : Ev gd σ x (.sl xs) := by exact ep rfl) (hy : Ev gd σ y (.int k i) := by exact ep rfl) (hi : gd = true → i = (j : Int) := by exact fun _ => rfl) (hj : gd = true → xs[j]? = some X := by exact fun hg => getMap _ _ _ (by (try simp at hg); omega)) (hX : X.cells = C := by exact rfl) (hC : C.length = z := by exact rfl) (hY : optA o.guard gd (.pe C) = Y := by exact optN) : ARun P ops n QQ (o :: l) ks σ H := ARun.indexSl ho hd hn hG hu hz hx hy hi hj hX hC hY hr
theorem ρg {x : Operand} {X Y : AV} {d : Option Tmp} (hr : ARun P ops n QQ l (ks ++ [.pure]) (putS σ d Y) H) (ho : o.op = .move x ∨ o.op = .assign x := by exact .inl rfl) (hd : o.dst = d := by exact rfl) (hn : dstLt n d = true := by exact rfl) (hG : gdS ops σ o.guard = some gd := by exact rfl) (hx : Ev gd σ x X := by exact ep rfl) (hY : optA o.guard gd X = Y := by exact optS) : ARun P ops n QQ (o :: l) ks σ H := ARun.move ho hd hn hG hx hY hr
theorem ρl {x : Operand} {t : TypeId} {u : TypeDesc} {cs : List AV} {z : Nat} {Y : AV} {d : Option Tmp} (hu : P.underlying t = some u) (hz : Sz P t z) (hr : ARun P ops n QQ l (ks ++ [.pure]) (putS σ d Y) H) (ho : o.op = .load t x := by exact rfl) (hd : o.dst = d := by exact rfl) (hn : dstLt n d = true := by exact rfl) (hG : gdS ops σ o.guard = some gd := by exact rfl) (hA : isA u = true := by exact rfl) (hx : Ev gd σ x (.pe cs) := by exact ep rfl) (hC : cs.length = z := by exact rfl) (hY : optA o.guard gd (.agg cs) = Y := by exact optN) : ARun P ops n QQ (o :: l) ks σ H := ARun.loadPeA ho hd hn hG hu hA hz hx hC hY hr
theorem ρq {x y : Operand} {t e : TypeId} {z j : Nat} {k : IntKind} {i : Int} {xs : List AV} {X : AV} {C : List AV} {Y : AV} {d : Option Tmp} (hu : P.underlying t = some (.slice e)) (hz : Sz P e z) (hr : ARun P ops n QQ l (ks ++ [.pure]) (putS σ d Y) H) (ho : o.op = .indexAddr t x y := by exact rfl) (hd : o.dst = d := by exact rfl) (hn : dstLt n d = true := by exact rfl) (hG : gdS ops σ o.guard = some gd := by exact rfl) (hx : Ev gd σ x (.sl xs) := by exact Ev.opt rfl fun h => h) (hy : Ev gd σ y (.int k i) := by exact Ev.opt rfl fun h => h) (hi : gd = true → i = (j : Int) := by exact fun hg => ofNonneg (by (try simp at hg); omega)) (hj : gd = true → xs[j]? = some X := by exact fun hg => getMap _ _ _ (by (try simp at hg); omega)) (hX : X.cells = C := by exact rfl) (hC : C.length = z := by exact rfl) (hY : optA o.guard gd (.pe C) = Y := by exact optS) : ARun P ops n QQ (o :: l) ks σ H := ARun.indexSl ho hd hn hG hu hz hx hy hi hj hX hC hY hr
theorem ρs {bo : BinOp} {x y : Operand} {t1 t2 : TypeId} {k : IntKind} {i j : Int} {r : Bool} {Y : AV} {d : Option Tmp} (hr : ARun P ops n QQ l (ks ++ [.pure]) (putS σ d Y) H) (ho : o.op = .binOp bo t1 x y t2 := by exact rfl) (hd : o.dst = d := by exact rfl) (hn : dstLt n d = true := by exact rfl) (hG : gdS ops σ o.guard = some gd := by exact rfl) (hx : Ev gd σ x (.int k i) := by exact Ev.opt rfl fun h => h) (hy : Ev gd σ y (.int k j) := by exact Ev.opt rfl fun h => h) (he : cmpI bo i j = some r := by exact rfl) (hY : optA o.guard gd (.bool r) = Y := by exact optS) : ARun P ops n QQ (o :: l) ks σ H := ARun.cmp ho hd hn hG hx hy he hY hr
theorem ρu {x y : Operand} {t e : TypeId} {z j : Nat} {k : IntKind} {i : Int} {xs : List AV} {X : AV} {C : List AV} {Y : AV} {d : Option Tmp} (hu : P.underlying t = some (.slice e)) (hz : Sz P e z) (hr : ARun P ops n QQ l (ks ++ [.pure]) (putS σ d Y) H) (ho : o.op = .indexAddr t x y := by exact rfl) (hd : o.dst = d := by exact rfl) (hn : dstLt n d = true := by exact rfl) (hG : gdS ops σ o.guard = some gd := by exact rfl) (hx : Ev gd σ x (.sl xs) := by exact Ev.opt rfl fun h => h) (hy : Ev gd σ y (.int k i) := by exact Ev.opt rfl fun h => h) (hi : gd = true → i = (j : Int) := by exact fun _ => rfl) (hj : gd = true → xs[j]? = some X := by exact fun hg => getMap _ _ _ (by (try simp at hg); omega)) (hX : X.cells = C := by exact rfl) (hC : C.length = z := by exact rfl) (hY : optA o.guard gd (.pe C) = Y := by exact optS) : ARun P ops n QQ (o :: l) ks σ H := ARun.indexSl ho hd hn hG hu hz hx hy hi hj hX hC hY hr
theorem ρv {x : Operand} {t e : TypeId} {xs : List AV} {Y : AV} {d : Option Tmp} (hu : P.underlying t = some (.slice e)) (hr : ARun P ops n QQ l (ks ++ [.pure]) (putS σ d Y) H) (ho : o.op = .call { callee := .builtin .len, args := #[x], argTypes := #[t] } := by exact rfl) (hd : o.dst = d := by exact rfl) (hn : dstLt n d = true := by exact rfl) (hG : gdS ops σ o.guard = some gd := by exact rfl) (hx : Ev gd σ x (.sl xs) := by exact ep rfl) (hY : optA o.guard gd (.int .i64 (xs.length : Int)) = Y := by exact optN) : ARun P ops n QQ (o :: l) ks σ H := ARun.lenSl ho hd hn hG hu hx hY hr
theorem ρB {x : Operand} {s : TypeId} {f fo fs : Nat} {fields : Array Field} {fld : Field} {cs C : List AV} {Y : AV} {d : Option Tmp} {tf : TypeId} (hu : P.underlying s = some (.struct fields)) (hz : Sz P tf fs) (hr : ARun P ops n QQ l (ks ++ [.pure]) (putS σ d Y) H) (ho : o.op = .fieldAddr s x f := by exact rfl) (hd : o.dst = d := by exact rfl) (hn : dstLt n d = true := by exact rfl) (hG : gdS ops σ o.guard = some gd := by exact rfl) (hf : fields[f]? = some fld := by exact rfl) (hfo : fld.offset = fo := by exact rfl) (hft : fld.type = tf := by exact rfl) (hfs : fs ≠ 0 := by decide) (hx : Ev gd σ x (.pe cs) := by exact Ev.opt rfl fun h => h) (hC : (cs.drop fo).take fs = C := by exact rfl) (hY : optA o.guard gd (.pe C) = Y := by exact optS) : ARun P ops n QQ (o :: l) ks σ H := ARun.fieldPe ho hd hn hG hu hf hfo (by rw [hft]; exact hz) hfs hx hC hY hr
theorem ρC {x : Operand} {t1 : TypeId} {b : Bool} {Y : AV} {d : Option Tmp} (hr : ARun P ops n QQ l (ks ++ [.pure]) (putS σ d Y) H) (ho : o.op = .unOp .not t1 x := by exact rfl) (hd : o.dst = d := by exact rfl) (hn : dstLt n d = true := by exact rfl) (hG : gdS ops σ o.guard = some gd := by exact rfl) (hx : Ev gd σ x (.bool b) := by exact ep rfl) (hY : optA o.guard gd (.bool (!b)) = Y := by exact optN) : ARun P ops n QQ (o :: l) ks σ H := ARun.not ho hd hn hG hx hY hr
theorem ρD {c x y : Operand} {cb u v r : Bool} {Y : AV} {d : Option Tmp} (hr : ARun P ops n QQ l (ks ++ [.pure]) (putS σ d Y) H) (ho : o.op = .pick c x y := by exact rfl) (hd : o.dst = d := by exact rfl) (hn : dstLt n d = true := by exact rfl) (hG : gdS ops σ o.guard = some gd := by exact rfl) (hc : Ev gd σ c (.bool cb) := by exact Ev.opt rfl fun h => h) (hx : Ev (gd && cb) σ x (.bool u) := by exact Ev.opt rfl (by first | exact pkT | exact pkT2 | simp +contextual)) (hy : Ev (gd && !cb) σ y (.bool v) := by exact ep rfl) (hb : (bif cb then u else v) = r := by exact andB _ _) (hY : optA o.guard gd (.bool r) = Y := by exact optS) : ARun P ops n QQ (o :: l) ks σ H := ARun.pick ho hd hn hG hc hx hy hb hY hr
end
section
variable {P : Program} {ops : Array Oper} {n m : Nat} {QQ : List Kd → Sl → List AO → Prop} {l : List Oper} {ks : List Kd} {σ : Sl} {G L : List AO} {o : Oper} {gd : Bool}
theorem ρ1 {x y : Operand} {t : TypeId} {j off z : Nat} {cs C cs' : List AV} {X : AV} {L' : List AO} (hz : Sz P t z) (hr : ARun P ops n QQ l (ks ++ [.write]) σ (G ++ L')) (hm : GOK m G := by assumption) (ho : o.op = .store t x y := by exact rfl) (hd : o.dst = none := by exact rfl) (hg : gdS ops σ o.guard = some true := by exact rfl) (hx : Ev true σ x (.box (m + j) off) := by exact ep rfl) (hy : Ev true σ y X := by exact ep rfl) (hH : L[j]? = some (.box cs) := by exact rfl) (hX : shaped X = true := by exact rfl) (hC : X.cells = C := by exact rfl) (hCz : C.length = z := by exact rfl) (hone : C.all AV.one = true := by exact rfl) (hoff : off + z ≤ cs.length := by exact Nat.le_of_ble_eq_true rfl) (hcs : cs.take off ++ C ++ cs.drop (off + z) = cs' := by exact rfl) (hL : L.set j (.box cs') = L' := by exact rfl) (hsp : ((cs.drop off).take z).all AV.plainC = true := by first | rfl | exact plain_take rfl | exact plain_take (by simp [AV.plainC])) : ARun P ops n QQ (o :: l) ks σ (G ++ L) := ARun.storeL hm ho hd hg hz hx hy hH hX hC hCz hone hoff hcs hL hr hsp
theorem ρ6 {H : List AO} {x : Operand} {s : TypeId} {f fo fs i off : Nat} {fields : Array Field} {fld : Field} {Y : AV} {d : Option Tmp} {cs : List AV} {tf : TypeId} (hu : P.underlying s = some (.struct fields)) (hz : Sz P tf fs) (hr : ARun P ops n QQ l (ks ++ [.pure]) (putS σ d Y) H) (ho : o.op = .fieldAddr s x f := by exact rfl) (hd : o.dst = d := by exact rfl) (hn : dstLt n d = true := by exact rfl) (hG : gdS ops σ o.guard = some gd := by exact rfl) (hf : fields[f]? = some fld := by exact rfl) (hfo : off + fld.offset = fo := by exact rfl) (hft : fld.type = tf := by exact rfl) (hfs : fs ≠ 0 := by decide) (hx : Ev gd σ x (.box i off) := by exact ep rfl) (hH : H[i]? = some (.box cs) := by exact (GOK.at (by assumption) _ _).trans rfl) (hY : optA o.guard gd (.box i fo) = Y := by exact optN) : ARun P ops n QQ (o :: l) ks σ H := ARun.fieldBox ho hd hn hG hu hf hfo (by rw [hft]; exact hz) hfs hx hH hY hr
theorem ρd {H : List AO} {x : Operand} {t : TypeId} {u : TypeDesc} {i off : Nat} {cs : List AV} {X Y : AV} {d : Option Tmp} (hu : P.underlying t = some u) (hr : ARun P ops n QQ l (ks ++ [.rd]) (putS σ d Y) H) (ho : o.op = .load t x := by exact rfl) (hd : o.dst = d := by exact rfl) (hn : dstLt n d = true := by exact rfl) (hG : gdS ops σ o.guard = some gd := by exact rfl) (hA : isA u = false := by exact rfl) (hx : Ev gd σ x (.box i off) := by exact ep rfl) (hH : H[i]? = some (.box cs) := by exact (GOK.at (by assumption) _ _).trans rfl) (hC : cs[off]? = some X := by exact rfl) (hY : optA o.guard gd X = Y := by exact optN) : ARun P ops n QQ (o :: l) ks σ H := ARun.loadBox ho hd hn hG hu hA hx hH hC hY hr
theorem ρn {H : List AO} {x : Operand} {t : TypeId} {u : TypeDesc} {i off z : Nat} {cs C : List AV} {Y : AV} {d : Option Tmp} (hu : P.underlying t = some u) (hz : Sz P t z) (hr : ARun P ops n QQ l (ks ++ [.rd]) (putS σ d Y) H) (ho : o.op = .load t x := by exact rfl) (hd : o.dst = d := by exact rfl) (hn : dstLt n d = true := by exact rfl) (hG : gdS ops σ o.guard = some gd := by exact rfl) (hA : isA u = true := by exact rfl) (hx : Ev gd σ x (.box i off) := by exact ep rfl) (hH : H[i]? = some (.box cs) := by exact (GOK.at (by assumption) _ _).trans rfl) (hC : (cs.drop off).take z = C := by exact rfl) (hCz : C.length = z := by exact rfl) (hY : optA o.guard gd (.agg C) = Y := by exact optN) : ARun P ops n QQ (o :: l) ks σ H := ARun.loadBoxA ho hd hn hG hu hA hz hx hH hC hCz hY hr
theorem ρw {H : List AO} {x : Operand} {t : TypeId} {u : TypeDesc} {i off : Nat} {cs : List AV} {X Y : AV} {d : Option Tmp} (hu : P.underlying t = some u) (hr : ARun P ops n QQ l (ks ++ [.rd]) (putS σ d Y) H) (ho : o.op = .load t x := by exact rfl) (hd : o.dst = d := by exact rfl) (hn : dstLt n d = true := by exact rfl) (hG : gdS ops σ o.guard = some gd := by exact rfl) (hA : isA u = false := by exact rfl) (hx : Ev gd σ x (.box i off) := by exact Ev.opt rfl fun h => h) (hH : H[i]? = some (.box cs) := by exact (GOK.at (by assumption) _ _).trans rfl) (hC : cs[off]? = some X := by exact rfl) (hY : optA o.guard gd X = Y := by exact optS) : ARun P ops n QQ (o :: l) ks σ H := ARun.loadBox ho hd hn hG hu hA hx hH hC hY hr
theorem ρx {H : List AO} {x : Operand} {s : TypeId} {f fo fs i off : Nat} {fields : Array Field} {fld : Field} {Y : AV} {d : Option Tmp} {cs : List AV} {tf : TypeId} (hu : P.underlying s = some (.struct fields)) (hz : Sz P tf fs) (hr : ARun P ops n QQ l (ks ++ [.pure]) (putS σ d Y) H) (ho : o.op = .fieldAddr s x f := by exact rfl) (hd : o.dst = d := by exact rfl) (hn : dstLt n d = true := by exact rfl) (hG : gdS ops σ o.guard = some gd := by exact rfl) (hf : fields[f]? = some fld := by exact rfl) (hfo : off + fld.offset = fo := by exact rfl) (hft : fld.type = tf := by exact rfl) (hfs : fs ≠ 0 := by decide) (hx : Ev gd σ x (.box i off) := by exact ep rfl) (hH : H[i]? = some (.box cs) := by exact (GOK.at (by assumption) _ _).trans rfl) (hY : optA o.guard gd (.box i fo) = Y := by exact optS) : ARun P ops n QQ (o :: l) ks σ H := ARun.fieldBox ho hd hn hG hu hf hfo (by rw [hft]; exact hz) hfs hx hH hY hr
end
section
variable {P : Program} {ops : Array Oper} {n m : Nat} {QQ : List Kd → Sl → List AO → Prop} {l : List Oper} {ks : List Kd} {σ : Sl} {G L H : List AO} {o : Oper} {gd : Bool}
theorem ρh {f : Operand} {args : Array Operand} {ats : Array TypeId} {F : FuncId} {fs cs xs as_ : List AV} {r Y : AV} {d : Option Tmp} (hcf : ∀ (as_ : Array Value) (W : World), (callFunc F as_).run P W = .ok (.enter F as_) W) (hF : gd = true → FnP P F as_ r) (hr : ARun P ops n QQ l (ks ++ [.pure]) (putS σ d Y) H) (ho : o.op = .call { callee := .value f, args := args, argTypes := ats } := by exact rfl) (hd : o.dst = d := by exact rfl) (hn : dstLt n d = true := by exact rfl) (hG : gdS ops σ o.guard = some gd := by exact rfl) (hf : Ev gd σ f (.fn (.func F) fs cs) := by exact ep rfl) (hx : EvL gd σ args.toList xs := by exact .cons (ep rfl) (.cons (ep rfl) .nil)) (has : fs ++ xs ++ cs = as_ := by exact rfl) (hY : optA o.guard gd r = Y := by exact optN) : ARun P ops n QQ (o :: l) ks σ H := ARun.call ho hd hn hG hcf hf hx has hF hY hr
theorem ρk {f : Operand} {args : Array Operand} {ats : Array TypeId} {F : FuncId} {fs cs xs as_ : List AV} {r Y : AV} {d : Option Tmp} (hcf : ∀ (as_ : Array Value) (W : World), (callFunc F as_).run P W = .ok (.enter F as_) W) (hr : ARun P ops n QQ l (ks ++ [.pure]) (putS σ d Y) H) (ho : o.op = .call { callee := .value f, args := args, argTypes := ats } := by exact rfl) (hd : o.dst = d := by exact rfl) (hn : dstLt n d = true := by exact rfl) (hG : gdS ops σ o.guard = some gd := by exact rfl) (hf : Ev gd σ f (.fn (.func F) fs cs) := by exact ep rfl) (hx : EvL gd σ args.toList xs := by exact .cons (ep rfl) (.cons (ep rfl) .nil)) (has : fs ++ xs ++ cs = as_ := by exact rfl) (hY : optA o.guard gd r = Y := by exact optN) (hF : gd = true → FnP P F as_ r) : ARun P ops n QQ (o :: l) ks σ H := ARun.call ho hd hn hG hcf hf hx has hF hY hr
theorem ρm {f : Operand} {args : Array Operand} {ats : Array TypeId} {F : FuncId} {fs cs xs as_ : List AV} {r Y : AV} {d : Option Tmp} (hcf : ∀ (as_ : Array Value) (W : World), (callFunc F as_).run P W = .ok (.enter F as_) W) (hF : gd = true → FnP P F as_ r) (hr : ARun P ops n QQ l (ks ++ [.pure]) (putS σ d Y) H) (ho : o.op = .call { callee := .value f, args := args, argTypes := ats } := by exact rfl) (hd : o.dst = d := by exact rfl) (hn : dstLt n d = true := by exact rfl) (hG : gdS ops σ o.guard = some gd := by exact rfl) (hf : Ev gd σ f (.fn (.func F) fs cs) := by exact ep rfl) (hx : EvL gd σ args.toList xs := by exact .cons (ep rfl) .nil) (has : fs ++ xs ++ cs = as_ := by exact rfl) (hY : optA o.guard gd r = Y := by exact optN) : ARun P ops n QQ (o :: l) ks σ H := ARun.call ho hd hn hG hcf hf hx has hF hY hr
theorem ρo {t : TypeId} {j : Nat} {zv : Value} {C : List AV} {Y : AV} {d : Option Tmp} (hz : Zv P t zv) (hr : ARun P ops n QQ l (ks ++ [.new]) (putS σ d Y) (G ++ (L ++ [.box C]))) (hm : GOK m G := by assumption) (hj : L.length = j := by exact rfl) (ho : o.op = .alloc t := by exact rfl) (hd : o.dst = d := by exact rfl) (hn : dstLt n d = true := by exact rfl) (hg : gdS ops σ o.guard = some true := by exact rfl) (hC : zv.cells.toList.map cAV = C := by exact rfl) (hY : optA o.guard true (.box (m + j) 0) = Y := by exact optN) : ARun P ops n QQ (o :: l) ks σ (G ++ L) := ARun.alloc hm hj ho hd hn hg hz hC hY hr
theorem ρr {f : Operand} {args : Array Operand} {ats : Array TypeId} {F : FuncId} {fs cs xs as_ : List AV} {r Y : AV} {d : Option Tmp} (hcf : ∀ (as_ : Array Value) (W : World), (callFunc F as_).run P W = .ok (.enter F as_) W) (hF : gd = true → FnP P F as_ r) (hr : ARun P ops n QQ l (ks ++ [.pure]) (putS σ d Y) H) (ho : o.op = .call { callee := .value f, args := args, argTypes := ats } := by exact rfl) (hd : o.dst = d := by exact rfl) (hn : dstLt n d = true := by exact rfl) (hG : gdS ops σ o.guard = some gd := by exact rfl) (hf : Ev gd σ f (.fn (.func F) fs cs) := by exact ep rfl) (hx : EvL gd σ args.toList xs := by exact .cons (Ev.opt rfl (fun h => h)) .nil) (has : fs ++ xs ++ cs = as_ := by exact rfl) (hY : optA o.guard gd r = Y := by exact optS) : ARun P ops n QQ (o :: l) ks σ H := ARun.call ho hd hn hG hcf hf hx has hF hY hr
theorem ρy {t e : TypeId} {len : Nat} {parts : Array (Nat × Operand)} {ps : List (Nat × AV)} {z : Nat} {zv : Value} {C xs : List AV} {Y : AV} {d : Option Tmp} (hu : P.underlying t = some (.slice e)) (hz : Sz P e z) (hzv : Zv P e zv) (hr : ARun P ops n QQ l (ks ++ [.pure]) (putS σ d Y) H) (ho : o.op = .buildSlice t len parts := by exact rfl) (hd : o.dst = d := by exact rfl) (hn : dstLt n d = true := by exact rfl) (hG : gdS ops σ o.guard = some gd := by exact rfl) (hzs : zv.cells.size = z := by exact rfl) (hbig : len * z ≤ 2 ^ 24 := by decide) (hx : EvP gd σ parts.toList ps := by exact .cons (ep rfl) .nil) (hs : (ps.all fun p => shaped p.2) = true := by exact rfl) (hxs : ps.map (·.2) = xs := by exact rfl) (hlen : xs.length = len := by exact rfl) (hall : (xs.all fun x => Nat.beq x.cells.length z) = true := by exact rfl) (hm : len ≤ maxLen := by decide) (hC : fillA (fun i => some (i * z, z)) ((List.range (len * z)).map fun j => cAV (zv.cells.toList.getD (j % zv.cells.size) default)) ps = some C := by exact rfl) (hCx : C = xs.flatMap AV.cells := by exact rfl) (hY : optA o.guard gd (.sl xs) = Y := by exact optN) : ARun P ops n QQ (o :: l) ks σ H := ARun.buildSl ho hd hn hG hu hz hzv hzs hbig hx hs hxs hlen hall hm hC hCx hY hr
theorem ρz {x : Operand} {t : TypeId} {X : AV} {C : List AV} {Y : AV} {d : Option Tmp} (hr : ARun P ops n QQ l (ks ++ [.pure]) (putS σ d Y) H) (ho : o.op = .box t x := by exact rfl) (hd : o.dst = d := by exact rfl) (hn : dstLt n d = true := by exact rfl) (hG : gdS ops σ o.guard = some gd := by exact rfl) (hx : Ev gd σ x X := by exact ep rfl) (hC : X.cells = C := by exact rfl) (hp : shaped X = true := by exact rfl) (hY : optA o.guard gd (.pe C) = Y := by exact optN) : ARun P ops n QQ (o :: l) ks σ H := ARun.boxPe ho hd hn hG hx hC hp hY hr
theorem ρA {f : Operand} {args : Array Operand} {ats : Array TypeId} {F : FuncId} {fs cs xs as_ : List AV} {r Y : AV} {d : Option Tmp} (hcf : ∀ (as_ : Array Value) (W : World), (callFunc F as_).run P W = .ok (.enter F as_) W) (hr : ARun P ops n QQ l (ks ++ [.pure]) (putS σ d Y) H) (ho : o.op = .call { callee := .value f, args := args, argTypes := ats } := by exact rfl) (hd : o.dst = d := by exact rfl) (hn : dstLt n d = true := by exact rfl) (hG : gdS ops σ o.guard = some gd := by exact rfl) (hf : Ev gd σ f (.fn (.func F) fs cs) := by exact ep rfl) (hx : EvL gd σ args.toList xs := by exact .cons (ep rfl) .nil) (has : fs ++ xs ++ cs = as_ := by exact rfl) (hY : optA o.guard gd r = Y := by exact optN) (hF : gd = true → FnP P F as_ r) : ARun P ops n QQ (o :: l) ks σ H := ARun.call ho hd hn hG hcf hf hx has hF hY hr
end
section
theorem ρi {P : Program} {fn : Func} {X X' : AV} {σ : Sl} {G L : List AO} {r : ResultVar} {e : Exit} (hX : X = X') (he : e = .normal ∨ e = .ret := by exact .inr rfl) (hr : fn.results = #[r] := by exact rfl) (h : RV1 P σ (G ++ L) r X := by exact .tmp rfl) (hn : NoH G.length X' := by assumption) : endF P fn X' G e σ G L := endF.one he hr h hX hn
theorem ρj {P : Program} {fn : Func} {Xs Xs' : List AV} {σ : Sl} {G L : List AO} {rs : List ResultVar} {e : Exit} (h : RVs P σ (G ++ L) rs Xs) (hX : Xs = Xs') (he : e = .normal ∨ e = .ret := by exact .inr rfl) (hr : fn.results = rs.toArray := by exact rfl) (h1 : Xs.length ≠ 1 := by simp) (hn : NoH G.length (.tup Xs') := by assumption) : endF P fn (.tup Xs') G e σ G L := endF.many he hr h h1 hX hn
end
section
variable {P : Program} {n m : Nat} {Q : QA} {σ : Sl} {G L : List AO}
theorem ρp {c : Operand} {x y : Code} {b : Bool} (ht : b = true → AWP P n m x Q σ G L) (hf : b = false → AWP P n m y Q σ G L) (hc : evS σ c = some (.bool b) := by exact rfl) : AWP P n m (.cond c x y) Q σ G L := AWP.cond hc ht hf
theorem ρE {id : Nat} {ops : Array Oper} (hm : P.follows .mixedOrders = true) (h : GOK m G → ARun P ops n (endD m ops Q) ops.toList [] σ (G ++ L)) (hok : rgOk ops = true := by kernel_rfl) : AWP P n m (.region id ops true) Q σ G L := AWP.draw hm hok h
end
end Go.Proofs.YtcndnllmlhhjiaaGreatDoor
namespace Go.Proofs.YtcndnllmlhhjiaaGreatDoor
open Go.ChangeShapes Go.WideShapes Go.ChangeAt Go.RowKit
/-! a text out of bytes -/
theorem conv1 (w : World) (a : Int) : (convert 173 9 (.slice (some ⟨w.heap.size, 0, none⟩) 1 1)).run Tryz.prog
   (w.alloc (.cells #[.int .u8 a] 5)) = .ok (.string (bs [UInt8.ofNat a.toNat])) (w.alloc (.cells #[.int .u8 a] 5)) := by
 refine run_convert_bytes_arg _ 173 5 U173 U5 _ 0 1 1 [a] rfl ?_ _ U9
 intro i hi
 match i, hi with
 | 0, _ => simp
theorem row_text (wr : World) (B n c : Nat) (l : List UInt8) (hl : l.length = n) (h : ∀ j, j < n → wr.cell? ⟨B, j, none⟩ = some (.int .u8 ((l.getD j 0).toNat : Int))) :
   (convert 173 9 (.slice (some ⟨B, 0, none⟩) n c)).run Tryz.prog wr = .ok (.string (bs l)) wr := by
 rw [run_convert_bytes_arg wr 173 5 U173 U5 B 0 n c (l.map fun b => (b.toNat : Int)) (by rw [List.length_map]; exact hl) ?_ _ U9]
 · congr 2
   unfold strOfNums bs
   rw [List.map_map]
   congr 2
   conv => rhs; rw [← List.map_id l]
   apply List.map_congr_left
   intro b _
   simp
 · intro i hi
   rw [Nat.zero_add, h i hi]
   simp [List.getD, hl, hi]
end Go.Proofs.YtcndnllmlhhjiaaGreatDoor
namespace Go.Proofs
open Go.Shelf
def Tryz.lays125_ren : Go.Shelf.Ren := ⟨fun | 125 => 182 | 128 => 190 | 129 => 191 | n => n, fun | 46 => 246 | 3 => 3 | 51 => 270 | 53 => 249 | 4 => 4 | 5 => 5 | 9 => 9 | n => n, fun | n => n⟩
theorem Tryz.lays125 : Go.Proofs.Lays.n125 Tryz.prog Tryz.lays125_ren := {
 mixed := by kernel_rfl
 f125 := Tryz.func182.trans (congrArg some (by kernel_rfl))
 f128 := Tryz.func190.trans (congrArg some (by kernel_rfl))
 f129 := Tryz.func191.trans (congrArg some (by kernel_rfl))
 t3 := U3
 a3 := Tryz.isAgg3
 z3 := Tryz.sizeOf3
 v3 := Tryz.zeroValue3
 t4 := U4
 a4 := Tryz.isAgg4
 z4 := Tryz.sizeOf4
 v4 := Tryz.zeroValue4
 t5 := U5
 a5 := Tryz.isAgg5
 z5 := Tryz.sizeOf5
 v5 := Tryz.zeroValue5
 t9 := U9
 a9 := Tryz.isAgg9
 z9 := Tryz.sizeOf9
 v9 := Tryz.zeroValue9
 t46 := U246
 a46 := Tryz.isAgg246
 z46 := Tryz.sizeOf246
 v46 := Tryz.zeroValue246
 t51 := U270
 a51 := Tryz.isAgg270
 z51 := Tryz.sizeOf270
 v51 := Tryz.zeroValue270
 t53 := U249
 a53 := Tryz.isAgg249
 z53 := Tryz.sizeOf249
 v53 := Tryz.zeroValue249 }
theorem Tryz.bits_Len (x : Int) (w : World) (h0 : 0 ≤ x) (h1 : x ≤ 18446744073709551615) :
   Calls Tryz.prog 182 #[.int .u64 x] w fun e w' => e = .returned (.int .i64 (Lib.bitLen x.toNat)) ∧ w' = w := Any.bits_Len Tryz.lays125 x w h0 h1
end Go.Proofs
namespace Go.Proofs.YtcndnllmlhhjiaaGreatDoor.NumP
def beF : Nat → Nat → List UInt8
 | 0, _ => []
 | k + 1, n => if n = 0 then [] else beF k (n / 256) ++ [UInt8.ofNat n]
def be (n : Nat) : List UInt8 := beF 8 n
def val (l : List UInt8) : Nat := l.foldl (fun a b => 256 * a + b.toNat) 0
def beK : Nat → Nat → List UInt8
 | 0, _ => []
 | k + 1, n => beK k (n / 256) ++ [UInt8.ofNat n]

theorem val_snoc (l : List UInt8) (b : UInt8) : val (l ++ [b]) = 256 * val l + b.toNat := by simp [val]
theorem beF_zero (k : Nat) : beF k 0 = [] := by cases k <;> rfl
theorem beK_length (k : Nat) : ∀ n, (beK k n).length = k := by
 induction k with
 | zero => intro n; rfl
 | succ k ih => intro n; simp [beK, ih]
theorem beF_length_le (k : Nat) : ∀ n, (beF k n).length ≤ k := by
 induction k with
 | zero => intro n; simp [beF]
 | succ k ih => intro n; unfold beF; split <;> simp; exact ih _
theorem beF_eq_beK (k : Nat) : ∀ n, n < 256 ^ k → beF k n = beK (beF k n).length n := by
 induction k with
 | zero => intro n h; rfl
 | succ k ih =>
   intro n h
   by_cases h0 : n = 0
   · subst h0; rw [beF_zero]; rfl
   · have e : beF (k + 1) n = beF k (n / 256) ++ [UInt8.ofNat n] := by rw [beF, if_neg h0]
     rw [e, List.length_append]
     show _ = beK _ (n / 256) ++ [UInt8.ofNat n]
     rw [← ih (n / 256) (by rw [Nat.pow_succ] at h; omega)]
theorem beF_head (k : Nat) : ∀ n, n < 256 ^ k → n ≠ 0 → ∃ b l, beF k n = b :: l ∧ b ≠ 0 := by
 induction k with
 | zero => intro n h h0; simp at h; omega
 | succ k ih =>
   intro n h h0
   rw [beF, if_neg h0]
   by_cases h1 : n / 256 = 0
   · rw [h1, beF_zero]
     refine ⟨UInt8.ofNat n, [], rfl, ?_⟩
     intro h2
     have := congrArg UInt8.toNat h2
     rw [UInt8.toNat_ofNat'] at this
     simp at this
     omega
   · obtain ⟨b, l, e, hb⟩ := ih (n / 256) (by rw [Nat.pow_succ] at h; omega) h1
     exact ⟨b, l ++ [UInt8.ofNat n], by rw [e]; rfl, hb⟩
theorem snocInd {α : Type} {P : List α → Prop} (h0 : P []) (h1 : ∀ l b, P l → P (l ++ [b])) (l : List α) : P l := by
 rw [← List.reverse_reverse l]
 induction l.reverse with
 | nil => exact h0
 | cons b r ih => rw [List.reverse_cons]; exact h1 _ _ ih
theorem val_lt (l : List UInt8) : val l < 256 ^ l.length := by
 induction l using snocInd with
 | h0 => simp [val]
 | h1 l b ih =>
   rw [val_snoc, List.length_append, List.length_singleton, Nat.pow_succ]
   have := b.toNat_lt
   omega

theorem beF_len (k : Nat) : ∀ n j, n < 256 ^ k → j < k → 256 ^ j ≤ n → n < 256 ^ (j + 1) → (beF k n).length = j + 1 := by
 induction k with
 | zero => intro n j _ h; omega
 | succ k ih =>
   intro n j h hj h1 h2
   have hp : 0 < 256 ^ j := Nat.pow_pos (by omega)
   rw [beF, if_neg (by omega), List.length_append, List.length_singleton]
   cases j with
   | zero =>
     simp at h2
     rw [show n / 256 = 0 by omega, beF_zero]; rfl
   | succ j =>
     rw [ih (n / 256) j (by rw [Nat.pow_succ] at h; omega) (by omega) (by rw [Nat.pow_succ] at h1; omega) (by rw [Nat.pow_succ] at h2; omega)]
/-! ### how many bytes, by the number of bits -/
theorem bitLen_bounds (f : Nat) : ∀ x, x < 2 ^ f → x < 2 ^ (Go.Lib.bitLenAux f x) ∧ (x ≠ 0 → Go.Lib.bitLenAux f x ≠ 0 ∧ 2 ^ (Go.Lib.bitLenAux f x - 1) ≤ x) := by
 induction f with
 | zero => intro x h; simp at h; subst h; simp [Go.Lib.bitLenAux]
 | succ f ih =>
   intro x h
   unfold Go.Lib.bitLenAux
   by_cases h0 : x = 0
   · subst h0; simp
   · rw [if_neg h0]
     obtain ⟨h1, h2⟩ := ih (x / 2) (by rw [Nat.pow_succ] at h; omega)
     refine ⟨by rw [Nat.add_comm, Nat.pow_succ]; omega, fun _ => ⟨by omega, ?_⟩⟩
     by_cases h3 : x / 2 = 0
     · rw [h3] at h1 h2 ⊢
       have : Go.Lib.bitLenAux f 0 = 0 := by cases f <;> simp [Go.Lib.bitLenAux]
       rw [this]; simp; omega
     · obtain ⟨h4, h5⟩ := h2 h3
       rw [show 1 + Go.Lib.bitLenAux f (x / 2) - 1 = (Go.Lib.bitLenAux f (x / 2) - 1) + 1 by omega, Nat.pow_succ]
       omega
theorem be_length (n : Nat) (h0 : n ≠ 0) (h : n < 2 ^ 64) : (be n).length = (Go.Lib.bitLen n + 7) / 8 := by
 obtain ⟨h1, h2⟩ := bitLen_bounds 64 n h
 obtain ⟨h3, h4⟩ := h2 h0
 unfold be Go.Lib.bitLen
 generalize hL : Go.Lib.bitLenAux 64 n = L at *
 have hL64 : L ≤ 64 := by
   rcases Nat.lt_or_ge 64 L with h5 | h5
   · have : 2 ^ 64 ≤ 2 ^ (L - 1) := Nat.pow_le_pow_right (by omega) (by omega)
     omega
   · exact h5
 have e : ∀ j, (256 : Nat) ^ j = 2 ^ (8 * j) := fun j => by rw [Nat.pow_mul]
 rw [beF_len 8 n ((L - 1) / 8) (by rw [e]; exact h) (by omega)]
 · omega
 · rw [e]; exact Nat.le_trans (Nat.pow_le_pow_right (by omega) (by omega)) h4
 · rw [e]; exact Nat.lt_of_lt_of_le h1 (Nat.pow_le_pow_right (by omega) (by omega))
theorem beK_get (k : Nat) : ∀ n i, i < k → (beK k n).getD i 0 = UInt8.ofNat (n / 256 ^ (k - 1 - i)) := by
 induction k with
 | zero => intro n i h; omega
 | succ k ih =>
   intro n i h
   unfold beK
   have hl := beK_length k (n / 256)
   by_cases e : i = k
   · subst e
     rw [List.getD, List.getElem?_append_right (by omega), hl]
     simp
   · have h2 := ih (n / 256) i (by omega)
     rw [List.getD, List.getElem?_append_left (by omega)]
     rw [List.getD] at h2
     rw [h2, Nat.div_div_eq_div_mul, ← Nat.pow_succ']
     congr 3
     omega
theorem be_pos (n : Nat) (h0 : n ≠ 0) (h : n < 2 ^ 64) : 1 ≤ (be n).length := by
 obtain ⟨b, l, e, _⟩ := beF_head 8 n (by simpa using h) h0
 unfold be; rw [e]; simp
theorem be_le (n : Nat) : (be n).length ≤ 8 := beF_length_le 8 n

/-! ### the document's answers -/
def putN (n : Int) : List UInt8 × Int :=
 if n < 0 then ([], 2) else if n < 128 then ([UInt8.ofNat n.toNat], 0) else (UInt8.ofNat (128 + (be n.toNat).length) :: be n.toNat, 0)
def sizeN (n : Int) : Int := ((putN n).1.length : Int)
def greatN (m : List UInt8) : Int × Int :=
 if m.headD 0 = 0 ∨ val m < 128 then (0, 5) else if 9223372036854775807 < val m then (0, 3) else ((val m : Int), 0)
def getN (l : List UInt8) (p : Int) : Int × Int × Int :=
 if p < 0 ∨ (l.length : Int) < p then (0, 0, 2) else if p = l.length then (0, 0, 4) else
 let b := (l.getD p.toNat 0).toNat
 if b < 128 then ((b : Int), p + 1, 0) else if b - 128 < 1 ∨ 8 < b - 128 then (0, 0, 5) else
 if (l.length : Int) - p - 1 < (b - 128 : Nat) then (0, 0, 4) else
 let g := greatN ((l.drop (p.toNat + 1)).take (b - 128))
 if g.2 ≠ 0 then (0, 0, g.2) else (g.1, p + 1 + (b - 128 : Nat), 0)
theorem val_append (a b : List UInt8) : val (a ++ b) = val a * 256 ^ b.length + val b := by
 induction b using snocInd with
 | h0 => simp [val]
 | h1 l c ih =>
   rw [← List.append_assoc, val_snoc, ih, val_snoc, List.length_append, List.length_singleton, Nat.pow_succ, Nat.mul_add]
   rw [Nat.mul_comm (256 ^ l.length) 256, ← Nat.mul_assoc, ← Nat.mul_assoc, Nat.mul_comm 256 (val a)]
   omega
theorem val_cons (b : UInt8) (l : List UInt8) : val (b :: l) = b.toNat * 256 ^ l.length + val l := by
 have := val_append [b] l
 simpa [val] using this
theorem val_take_le (m : List UInt8) (k : Nat) : val (m.take k) ≤ val m := by
 conv => rhs; rw [← List.take_append_drop k m]
 rw [val_append]
 have h : 1 ≤ 256 ^ (m.drop k).length := Nat.pow_pos (by omega)
 have h2 := Nat.mul_le_mul_left (val (m.take k)) h
 omega
theorem great_ref (b : UInt8) (l : List UInt8) (h8 : l.length < 8) :
   greatN (b :: l) = if b = 0 ∨ (l.length = 0 ∧ b.toNat < 128) then (0, 5) else if l.length = 7 ∧ 127 < b.toNat then (0, 3) else ((val (b :: l) : Int), 0) := by
 unfold greatN
 simp only [List.headD_cons]
 have hv := val_cons b l
 have hl := val_lt l
 by_cases h0 : b = 0
 · simp [h0]
 · have hb1 : 1 ≤ b.toNat := by
     rcases Nat.eq_zero_or_pos b.toNat with h | h
     · exact absurd (UInt8.toNat_inj.1 (by simpa using h)) h0
     · exact h
   have hb2 := b.toNat_lt
   have e1 : (val (b :: l) < 128) ↔ (l.length = 0 ∧ b.toNat < 128) := by
     by_cases hz : l.length = 0
     · rw [hz] at hv hl; simp at hv hl; omega
     · have h256 : 256 ≤ 256 ^ l.length := by
         have : 256 ^ 1 ≤ 256 ^ l.length := Nat.pow_le_pow_right (by omega) (by omega)
         omega
       have h2 := Nat.mul_le_mul_right (256 ^ l.length) hb1
       omega
   have e2 : (9223372036854775807 < val (b :: l)) ↔ (l.length = 7 ∧ 127 < b.toNat) := by
     by_cases hz : l.length = 7
     · rw [hz] at hv hl; simp at hv hl; omega
     · have h7 : 256 ^ l.length ≤ 256 ^ 6 := Nat.pow_le_pow_right (by omega) (by omega)
       have h2 := Nat.mul_le_mul_right (256 ^ l.length) (show b.toNat ≤ 255 by omega)
       omega
   simp only [h0, false_or, e1, e2]
/-! ### rows -/
def nneg (l : List Int) : Bool := l.all fun x => decide (0 ≤ x)
def rowBytes (l : List Int) : List UInt8 := l.flatMap fun x => (putN x).1
def rowN (l : List Int) : List UInt8 × Int := if nneg l = true then ((putN l.length).1 ++ rowBytes l, 0) else ([], 2)
theorem putN_len (n : Int) : (putN n).1.length ≤ 9 := by
 unfold putN
 split
 · simp
 · split
   · simp
   · have := be_le n.toNat; simp; omega
theorem putN_err (n : Int) : (putN n).2 = if 0 ≤ n then 0 else 2 := by
 unfold putN
 by_cases h : n < 0
 · rw [if_pos h, if_neg (by omega)]
 · by_cases h2 : n < 128
   · rw [if_neg h, if_pos h2, if_pos (by omega)]
   · rw [if_neg h, if_neg h2, if_pos (by omega)]
theorem rowBytes_len (l : List Int) : (rowBytes l).length ≤ 9 * l.length := by
 unfold rowBytes
 induction l with
 | nil => simp
 | cons x l ih => rw [List.flatMap_cons, List.length_append, List.length_cons]; have := putN_len x; omega
def unrowF (l : List UInt8) : Nat → Int → List Int → List Int × Int × Int
 | 0, to, acc => (acc, to, 0)
 | k + 1, to, acc => if (getN l to).2.2 ≠ 0 then ([], 0, (getN l to).2.2) else unrowF l k (getN l to).2.1 (acc ++ [(getN l to).1])
def unrowN (l : List UInt8) (p top : Int) : List Int × Int × Int :=
 if (getN l p).2.2 ≠ 0 then ([], 0, (getN l p).2.2) else
 if (getN l p).1 > 1000 ∨ ((getN l p).1 > top ∧ (getN l p).1 > 0) then ([], 0, 3) else unrowF l (getN l p).1.toNat (getN l p).2.1 []
end Go.Proofs.YtcndnllmlhhjiaaGreatDoor.NumP
namespace Go.Proofs.YtcndnllmlhhjiaaGreatDoor
open Go.ChangeShapes Go.WideShapes Go.ChangeAt Go.RowKit
open NumP
theorem size_neg {n : Int} (h : n < 0) : sizeN n = 0 := by unfold sizeN putN; rw [if_pos h]; rfl
theorem size_one {n : Int} (h : ¬ n < 0) (h2 : n < 128) : sizeN n = 1 := by unfold sizeN putN; rw [if_neg h, if_pos h2]; rfl
theorem size_many {n : Int} (h : ¬ n < 128) : sizeN n = 1 + ((be n.toNat).length : Int) := by
 unfold sizeN putN; rw [if_neg (by omega), if_neg h]; simp; omega
theorem size_len {n : Int} (h : ¬ n < 128) (h2 : n ≤ 9223372036854775807) : sizeN n = 1 + ((Lib.bitLen n.toNat : Int) + 7) / 8 := by
 rw [size_many h, be_length n.toNat (by omega) (by omega)]; omega
theorem bitLen_le64 (n : Nat) (h : n < 2 ^ 64) (h0 : n ≠ 0) : Lib.bitLen n ≤ 64 := by
 have := be_length n h0 h
 have h8 := be_le n
 omega
theorem size_any (n : Int) (w : World) (h0 : -9223372036854775808 ≤ n) (h1 : n ≤ 9223372036854775807) :
   Calls Tryz.prog 165 #[.int .i64 n] w fun e w' => e = .returned (.int .i64 (sizeN n)) ∧ w = w' := by
 by_cases hn : n < 0
 · rw [size_neg hn]
   go_enter Tryz.func165, Tryz.ntmps165
   go_wp2_with fail
   go_ret
   exact ⟨rfl, rfl⟩
 · by_cases h128 : n < 128
   · rw [size_one hn h128]
     go_enter Tryz.func165, Tryz.ntmps165
     go_wp2_with fail
     go_ret
     exact ⟨rfl, rfl⟩
   · rw [size_len h128 h1]
     have hL := bitLen_le64 n.toNat (by omega) (by omega)
     go_enter Tryz.func165, Tryz.ntmps165
     go_wp2_with fail
     refine (Tryz.bits_Len _ _ (by omega) (by omega)).mono ?_
     rintro e w1 ⟨rfl, rfl⟩
     go_wp2_with fail
     go_ret
     exact ⟨rfl, rfl⟩
theorem put_one {n : Int} (h : ¬ n < 0) (h2 : n < 128) : putN n = ([UInt8.ofNat n.toNat], 0) := by unfold putN; rw [if_neg h, if_pos h2]
theorem put_neg {n : Int} (h : n < 0) : putN n = ([], 2) := by unfold putN; rw [if_pos h]
theorem put_many {n : Int} (h : ¬ n < 128) : putN n = (UInt8.ofNat (128 + (be n.toNat).length) :: be n.toNat, 0) := by unfold putN; rw [if_neg (by omega), if_neg h]
theorem infoU8 : (Tryz.prog.info? 5).map (fun i => (i.zero, i.size, i.bytes)) = some (some (.int .u8 0), 1, 1) := by kernel_rfl
theorem make_bytes (w : World) (m : Int) (n : Nat) (hm : m = (n : Int)) (h : n ≤ 1000000) : (Instr.makeSlice 173 (.int .i64 m) (.int .i64 m)).run Tryz.prog w = .ok (.slice (some ⟨w.heap.size, 0, none⟩) n n) (w.alloc (.cells (madeCells #[.int .u8 0] n) 5)) := by
 subst hm
 obtain ⟨i0, hi, hz0, hz1, hz2⟩ := info_parts infoU8
 have := run_make (P := Tryz.prog) w 173 5 i0 (.int .u8 0) U173 hi hz0 .i64 .i64 (n : Int) (n : Int) (by omega) (by omega) (by rw [hz2]; omega) (by omega)
 rw [hz1] at this
 simpa [Value.cells] using this
theorem made_get (n i : Nat) (h : i < n) : (madeCells #[.int .u8 0] n)[i]? = some (.int .u8 0) := by
 simp [madeCells, h, Nat.mod_one]
structure Filling (w wr : World) (B n i : Nat) (T : List UInt8) : Prop where
 has : ∀ j, j < n → ∃ v, wr.cell? ⟨B, j, none⟩ = some v
 free : ∀ j, j < n → wr.frozen? ⟨B, j, none⟩ = false
 done : ∀ j, j < n → (i < j ∨ j = 0) → wr.cell? ⟨B, j, none⟩ = some (.int .u8 ((T.getD j 0).toNat : Int))
 new : w.heap.size ≤ B
 bel : Below w.heap.size w wr
theorem Filling.store {w wr : World} {B n i : Nat} {T : List UInt8} (h : Filling w wr B n (i + 1) T) :
   Filling w (wr.setCell ⟨B, i + 1, none⟩ (.int .u8 ((T.getD (i + 1) 0).toNat : Int))) B n i T := by
 refine ⟨?_, ?_, ?_, h.new, h.bel.setCell h.new _⟩
 · intro j hj
   by_cases e : j = i + 1
   · subst e; obtain ⟨v, hv⟩ := h.has _ hj; exact ⟨_, World.cell?_setCell_same _ _ _ hv⟩
   · rw [World.cell?_setCell_other _ _ _ _ (by intro h2; apply e; injection h2 with _ h3; exact h3.symm)]; exact h.has j hj
 · intro j hj; rw [World.frozen?_setCell]; exact h.free j hj
 · intro j hj hc
   by_cases e : j = i + 1
   · subst e; obtain ⟨v, hv⟩ := h.has _ hj; exact World.cell?_setCell_same _ _ _ hv
   · rw [World.cell?_setCell_other _ _ _ _ (by intro h2; apply e; injection h2 with _ h3; exact h3.symm)]; exact h.done j hj (by omega)
theorem Filling.start (w : World) (n i : Nat) (T : List UInt8) (a : Int) (hT : a = ((T.getD 0 0).toNat : Int)) (hi : n ≤ i + 1) :
   Filling w (w.alloc (.cells ((madeCells #[.int .u8 0] n).setIfInBounds 0 (.int .u8 a)) 5)) w.heap.size n i T := by
 subst hT
 refine ⟨?_, ?_, ?_, Nat.le_refl _, (Below.refl _ _).alloc (Nat.le_refl _) _⟩
 · intro j hj
   rw [World.cell?_alloc_new]
   exact ⟨_, Array.getElem?_eq_getElem (by simp [size_madeCells]; exact hj)⟩
 · intro j hj; exact World.frozen?_alloc_new _ _ _ _
 · intro j hj hc
   obtain rfl : j = 0 := by omega
   rw [World.cell?_alloc_new, Array.getElem?_setIfInBounds_self_of_lt (by simp [size_madeCells]; omega)]
theorem byte_div (x : Nat) : ((UInt8.ofNat x).toNat : Int) = (x : Int) % 256 := by rw [UInt8.toNat_ofNat']; omega
theorem putAny (n : Int) (w : World) (h0 : -9223372036854775808 ≤ n) (h1 : n ≤ 9223372036854775807) :
   Calls Tryz.prog 140 #[.int .i64 n] w fun e w' => e = .returned (.tuple #[.string (bs (putN n).1), .int .i64 (putN n).2]) ∧ Below w.heap.size w w' := by
 by_cases hn : n < 0
 · rw [put_neg hn]
   have hz := size_neg hn
   go_enter Tryz.func140, Tryz.ntmps140
   go_wp2_with fail
   refine (size_any _ _ h0 h1).mono ?_
   rw [hz]
   rintro e w1 ⟨rfl, rfl⟩
   go_wp2_with fail
   go_ret2
   exact ⟨rfl, Below.refl _ _⟩
 · by_cases h128 : n < 128
   · rw [put_one hn h128]
     have hz := size_one hn h128
     have hc := conv1 w
     go_enter Tryz.func140, Tryz.ntmps140
     go_wp2_with fail
     refine (size_any _ _ h0 h1).mono ?_
     rw [hz]
     rintro e w1 ⟨rfl, rfl⟩
     go_wp2_with fail
     go_ret2
     exact ⟨rfl, (Below.refl _ _).alloc (Nat.le_refl _) _⟩
   · rw [put_many h128]
     have hz := size_many h128
     obtain ⟨N, rfl⟩ := Int.eq_ofNat_of_zero_le (show 0 ≤ n by omega)
     rw [Int.toNat_natCast] at *
     have hl1 := be_pos N (by omega) (by omega)
     have hl8 := be_le N
     have hbe : be N = beK (be N).length N := beF_eq_beK 8 N (by omega)
     generalize hL : (be N).length = L at *
     have hmk := make_bytes w ((1 : Int) + (L : Int)) (1 + L) (by omega) (by omega)
     have hm0 := made_get (1 + L) 0 (by omega)
     have hT0 : (128 + (1 + (L : Int)) - 1) = ((((UInt8.ofNat (128 + L) :: be N : List UInt8).getD 0 0).toNat : Nat) : Int) := by
       show _ = ((UInt8.ofNat (128 + L)).toNat : Int)
       rw [byte_div]; omega
     have hTi : ∀ i, i < L → (((UInt8.ofNat (128 + L) :: be N : List UInt8).getD (i + 1) 0).toNat : Int) = ((N / 256 ^ (L - 1 - i) : Nat) : Int) % 256 := by
       intro i hi
       show ((((be N).getD i 0).toNat : Nat) : Int) = _
       rw [hbe, beK_get L N i hi, byte_div]
     have hTl : (UInt8.ofNat (128 + L) :: be N : List UInt8).length = 1 + L := by simp [hL]; omega
     generalize (UInt8.ofNat (128 + L) :: be N : List UInt8) = T at *
     have HT0 := Lib.hid (Filling.start w (1 + L) L T _ hT0 (by omega))
     have HTI := Lib.hid hTi
     have HTL := Lib.hid hTl
     clear hbe hL hT0 hTi hTl
     go_enter Tryz.func140, Tryz.ntmps140
     go_wp2_with fail
     refine (size_any _ _ h0 h1).mono ?_
     rw [hz]
     rintro e w1 ⟨rfl, rfl⟩
     go_wp2_with fail
     have e1 : (1 + (L : Int) - 1) = (L : Int) := by omega
     go_loopw [0, 6] (fun v0 v6 wr => ∃ i : Nat, i ≤ L ∧ v6 = .int .i64 i ∧ v0 = .int .i64 ((N / 256 ^ (L - i) : Nat) : Int) ∧ Filling w wr w.heap.size (1 + L) i T) (fun _ v6 _ => (intOf v6).toNat)
     case atStart => exact ⟨L, by omega, by rw [e1], by simp, HT0.out⟩
     case round =>
       obtain ⟨i, hi, rfl, rfl, hF⟩ := hrel
       have HF := Lib.hid hF
       clear hF e1 HT0 hm0 hmk
       cases i with
       | zero =>
         have htx := row_text wr w.heap.size (1 + L) (1 + L) T HTL.out (fun j hj => HF.out.done j hj (by omega))
         have hbel := HF.out.bel
         go_wp2_with fail
         go_ret2
         exact ⟨rfl, hbel⟩
       | succ i =>
         obtain ⟨v, hv⟩ := HF.out.has (i + 1) (by omega)
         have hfr := HF.out.free (i + 1) (by omega)
         have hst := HF.out.store
         rw [HTI.out i (by omega)] at hst
         have HST := Lib.hid hst
         have HD : Hid ((N / 256 ^ (L - 1 - i)) / 256 = N / 256 ^ (L - i)) := by
           show _ = _
           rw [Nat.div_div_eq_div_mul, ← Nat.pow_succ]; congr 2; omega
         clear hst
         have hq : N / 256 ^ (L - 1 - i) ≤ N := Nat.div_le_self _ _
         have hsub : L - (i + 1) = L - 1 - i := by omega
         rw [hsub]
         clear hsub
         generalize N / 256 ^ (L - 1 - i) = q at *
         go_wp2_with fail
         refine ⟨⟨i, by omega, rfl, ?_, HST.out⟩, by simp [intOf]⟩
         rw [← HD.out, Int.natCast_ediv]; rfl
theorem byte_eq (n : Nat) : UInt8.ofNat ((n : Int) % 256).toNat = UInt8.ofNat n := by
 apply UInt8.toNat_inj.1; rw [UInt8.toNat_ofNat', UInt8.toNat_ofNat']; omega
theorem put_ref (n : Int) (w : World) (h0 : -9223372036854775808 ≤ n) (h1 : n ≤ 9223372036854775807) :
   Calls Tryz.prog 163 #[.int .i64 n] w fun e w' => e = .returned (.tuple #[.string (bs (putN n).1), .int .i64 (putN n).2]) ∧ Below w.heap.size w w' := by
 by_cases hn : n < 0
 · rw [put_neg hn]
   go_enter Tryz.func163, Tryz.ntmps163
   go_wp2_with fail
   go_ret2
   exact ⟨rfl, Below.refl _ _⟩
 · by_cases h128 : n < 128
   · rw [put_one hn h128]
     have hc := conv1 w
     go_enter Tryz.func163, Tryz.ntmps163
     go_wp2_with fail
     go_ret2
     exact ⟨rfl, (Below.refl _ _).alloc (Nat.le_refl _) _⟩
   · rw [put_many h128]
     obtain ⟨N, rfl⟩ := Int.eq_ofNat_of_zero_le (show 0 ≤ n by omega)
     rw [Int.toNat_natCast] at *
     go_enter Tryz.func163, Tryz.ntmps163
     go_wp2_with fail
     go_loopw [0, 4] (fun v0 v4 wr => ∃ (k m : Nat) (o : List UInt8), k ≤ 8 ∧ v0 = .int .i64 m ∧ v4 = .string (bs o) ∧ m < 256 ^ (8 - k) ∧ m ≤ N ∧ o.length ≤ k ∧ be N = beF (8 - k) m ++ o ∧ Below w.heap.size w wr) (fun v0 _ _ => (intOf v0).toNat)
     case atStart => exact ⟨0, N, [], by omega, rfl, rfl, by omega, by omega, by simp, by simp [be], Below.refl _ _⟩
     case round =>
       obtain ⟨k, m, o, hk, rfl, rfl, hm, hmN, ho, hbe, hbel⟩ := hrel
       have HBE := Lib.hid hbe
       clear hbe
       by_cases hm0 : m = 0
       · subst hm0
         have hc := conv1 wr
         have hO : be N = o := by rw [HBE.out, beF_zero]; rfl
         have HO := Lib.hid hO
         clear hO
         go_wp2_with fail
         go_ret2
         exact ⟨ret_si (by rw [HO.out, UInt8.ofNat_add]; rfl) rfl, hbel.alloc hbel.size _⟩
       · have hc := conv1 wr
         have hk7 : k < 8 := by
           rcases Nat.lt_or_ge k 8 with h | h
           · exact h
           · obtain rfl : k = 8 := by omega
             simp at hm; omega
         have hbe2 : be N = beF (8 - (k + 1)) (m / 256) ++ (UInt8.ofNat m :: o) := by
           rw [HBE.out, show 8 - k = (8 - (k + 1)) + 1 by omega, beF, if_neg hm0]; simp
         have hm2 : m / 256 < 256 ^ (8 - (k + 1)) := by
           rw [show 8 - k = (8 - (k + 1)) + 1 by omega, Nat.pow_succ] at hm; omega
         have HBE2 := Lib.hid hbe2
         have HM2 := Lib.hid hm2
         have hbq := byte_eq m
         clear hbe2 hm2 hm
         go_wp2_with fail
         refine ⟨⟨k + 1, m / 256, UInt8.ofNat m :: o, by omega, ?_, rfl, HM2.out, by omega, by simp; omega, HBE2.out, hbel.alloc hbel.size _⟩, by simp [intOf]; omega⟩
         rw [Int.natCast_ediv]; rfl
theorem u64_shl_or (v : Nat) (b : UInt8) (hv : v < 2 ^ 56) : bits .or .u64 ((v : Int) * (256 : Int)) (b.toNat : Int) = ((256 * v + b.toNat : Nat) : Int) := by
 have hb := b.toNat_lt
 have e : (v : Int) * (256 : Int) = ((v * 2 ^ 8 : Nat) : Int) := by omega
 rw [e, u64_or_nat _ _ (by omega) (by omega)]
 rw [Nat.mul_comm v, Nat.two_pow_add_eq_or_of_lt hb]
theorem val_take_succ (s : ByteArray) (k : Nat) (h : k < s.size) : val ((bl s).take (k + 1)) = 256 * val ((bl s).take k) + s[k].toNat := by
 rw [bl_take_succ s k h, val_snoc]
theorem val_take_lt (s : ByteArray) (k : Nat) (h : k < 8) : val ((bl s).take k) < 2 ^ 56 := by
 have h1 := val_lt ((bl s).take k)
 have h2 : (256 : Nat) ^ ((bl s).take k).length ≤ 256 ^ 7 := Nat.pow_le_pow_right (by omega) (by rw [List.length_take]; omega)
 omega
theorem great_any (s : ByteArray) (w : World) (h1 : 1 ≤ s.size) (h8 : s.size ≤ 8) :
   Calls Tryz.prog 143 #[.string s] w fun e w' => e = .returned (.tuple #[.int .i64 (greatN (bl s)).1, .int .i64 (greatN (bl s)).2]) ∧ w = w' := by
 go_enter Tryz.func143, Tryz.ntmps143
 go_wp2_with fail
 go_loop [4, 5] (fun v4 v5 => ∃ k : Nat, k ≤ s.size ∧ v5 = .int .i64 k ∧ v4 = .int .u64 ((val ((bl s).take k) : Nat) : Int)) (fun _ v5 => s.size - (intOf v5).toNat)
 case atStart => exact ⟨0, by omega, rfl, rfl⟩
 case round =>
   obtain ⟨k, hk, rfl, rfl⟩ := hrel
   by_cases hlt : k < s.size
   · have hv := val_take_lt s k (by omega)
     have hor := u64_shl_or (val ((bl s).take k)) s[k] hv
     rw [← val_take_succ s k hlt] at hor
     have hb := byte_bd s[k]
     generalize val ((bl s).take k) = v at hor hv ⊢
     generalize hv' : val ((bl s).take (k + 1)) = v' at hor
     have HV := Lib.hid hv'
     clear hv'
     have hvi : (v : Int) ≤ 72057594037927935 := by omega
     clear hv
     go_wp2_with fail
     go_round
     case rel => exact ⟨k + 1, by omega, by go_num, by rw [HV.out]⟩
     case measure => simp [intOf]; omega
   · obtain rfl : k = s.size := by omega
     rw [bl_take_all]
     have hhd : (bl s).headD 0 = s[0] := by
       have h2 := bl_get s 0 (by omega)
       cases hc : bl s with
       | nil => rw [hc] at h2; simp at h2
       | cons b l => rw [hc] at h2; simp at h2; simp [h2]
     obtain ⟨c, hc⟩ : ∃ c, s[0].toNat = c := ⟨_, rfl⟩
     have hb : (c : Int) ≤ 255 := by have := byte_bd s[0]; omega
     by_cases h0 : s[0] = 0
     · have hg : greatN (bl s) = (0, 5) := by unfold greatN; rw [if_pos (.inl (by rw [hhd, h0]))]
       have HG := Lib.hid hg
       have hz : c = 0 := by rw [← hc, h0]; rfl
       subst hz
       clear hg h0 hhd
       go_wp2_with fail
       go_ret2
       exact ⟨ret_gii HG.out, rfl⟩
     · have hz : ((c : Int) == 0) = false := by
         rw [beq_eq_false_iff_ne]; intro h; apply h0; apply UInt8.toNat_inj.1; simp; omega
       by_cases h128 : val (bl s) < 128
       · have hg : greatN (bl s) = (0, 5) := by unfold greatN; rw [if_pos (.inr h128)]
         have HG := Lib.hid hg
         have h128i : ((val (bl s) : Nat) : Int) < 128 := by omega
         clear hg h0 hhd h128
         go_wp2_with fail
         go_ret2
         exact ⟨ret_gii HG.out, rfl⟩
       · by_cases hbig : 9223372036854775807 < val (bl s)
         · have hbi : (9223372036854775807 : Int) < ((val (bl s) : Nat) : Int) := by omega
           have hg : greatN (bl s) = (0, 3) := by unfold greatN; rw [if_neg (by rw [hhd]; exact fun h => h.elim h0 h128), if_pos hbig]
           have HG := Lib.hid hg
           have h128i : (128 : Int) ≤ ((val (bl s) : Nat) : Int) := by omega
           clear hg h0 hhd hbig h128
           go_wp2_with fail
           go_ret2
           exact ⟨ret_gii HG.out, rfl⟩
         · have hbi : ((val (bl s) : Nat) : Int) ≤ (9223372036854775807 : Int) := by omega
           have hg : greatN (bl s) = (((val (bl s) : Nat) : Int), 0) := by unfold greatN; rw [if_neg (by rw [hhd]; exact fun h => h.elim h0 h128), if_neg hbig]
           have HG := Lib.hid hg
           have h128i : (128 : Int) ≤ ((val (bl s) : Nat) : Int) := by omega
           clear hg h0 hhd hbig h128
           go_wp2_with fail
           go_ret2
           exact ⟨ret_gii HG.out, rfl⟩
theorem get_any (s : ByteArray) (p : Int) (w : World) (hs : s.size ≤ 1000000) :
   Calls Tryz.prog 117 #[.string s, .int .i64 p] w fun e w' => e = .returned (.tuple #[.int .i64 (getN (bl s) p).1, .int .i64 (getN (bl s) p).2.1, .int .i64 (getN (bl s) p).2.2]) ∧ w = w' := by
 have hl := bl_len s
 by_cases h1 : p < 0 ∨ (s.size : Int) < p
 · have hg : getN (bl s) p = (0, 0, 2) := by unfold getN; rw [if_pos (by rw [hl]; exact h1)]
   rw [hg]
   rcases h1 with h1 | h1
   · go_enter Tryz.func117, Tryz.ntmps117
     go_wp2_with fail
     go_ret3
     exact ⟨rfl, rfl⟩
   · go_enter Tryz.func117, Tryz.ntmps117
     go_wp2_with fail
     all_goals
       go_ret3
       exact ⟨rfl, rfl⟩
 · obtain ⟨q, rfl⟩ := Int.eq_ofNat_of_zero_le (show 0 ≤ p by omega)
   by_cases h2 : q = s.size
   · subst h2
     have hg : getN (bl s) s.size = (0, 0, 4) := by unfold getN; rw [if_neg (by rw [hl]; omega), if_pos (by rw [hl])]
     rw [hg]
     clear h1
     go_enter Tryz.func117, Tryz.ntmps117
     go_wp2_with fail
     go_ret3
     exact ⟨rfl, rfl⟩
   · have hq : q < s.size := by omega
     have hne : ((q : Int) == (s.size : Int)) = false := by rw [beq_eq_false_iff_ne]; omega
     have hgd := bl_getD s q hq
     obtain ⟨c, hc⟩ : ∃ c, s[q].toNat = c := ⟨_, rfl⟩
     have hb : (c : Int) ≤ 255 := by have := byte_bd s[q]; omega
     by_cases h3 : c < 128
     · have hg : getN (bl s) q = ((c : Int), (q : Int) + 1, 0) := by
         unfold getN; rw [if_neg (by rw [hl]; omega), if_neg (by rw [hl]; omega)]
         simp only [Int.toNat_natCast, hgd, hc]; rw [if_pos h3]
       rw [hg]
       have h3i : (c : Int) < 128 := by omega
       clear hg hgd hl h3
       go_enter Tryz.func117, Tryz.ntmps117
       go_wp2_with fail
       go_ret3
       exact ⟨rfl, rfl⟩
     · by_cases h4 : c < 129 ∨ 136 < c
       · have hg : getN (bl s) q = (0, 0, 5) := by
           unfold getN; rw [if_neg (by rw [hl]; omega), if_neg (by rw [hl]; omega)]
           simp only [Int.toNat_natCast, hgd, hc]; rw [if_neg h3, if_pos (by omega)]
         rw [hg]
         clear hg hgd hl
         rcases h4 with h4 | h4
         all_goals
           go_enter Tryz.func117, Tryz.ntmps117
           go_wp2_with fail
           go_ret3
           exact ⟨rfl, rfl⟩
       · obtain ⟨m, rfl⟩ : ∃ m, c = 128 + m := ⟨c - 128, by omega⟩
         have hm : (128 : Int) + (m : Int) - (128 : Int) = (m : Int) := by omega
         by_cases h5 : s.size < q + 1 + m
         · have hg : getN (bl s) q = (0, 0, 4) := by
             unfold getN; rw [if_neg (by rw [hl]; omega), if_neg (by rw [hl]; omega)]
             simp only [Int.toNat_natCast, hgd, hc]; rw [if_neg h3, if_neg (by omega), if_pos (by rw [hl]; omega)]
           rw [hg]
           clear hg hgd hl
           go_enter Tryz.func117, Tryz.ntmps117
           go_wp2_with fail
           go_ret3
           exact ⟨rfl, rfl⟩
         · have hz : (s.extract (q + 1) (q + 1 + m)).size = m := by rw [ByteArray.size_extract]; omega
           have hx : bl (s.extract (q + 1) (q + 1 + m)) = ((bl s).drop (q + 1)).take m := by
             rw [bl_extract, List.take_drop]
           have hg0 : getN (bl s) q = if (greatN (bl (s.extract (q + 1) (q + 1 + m)))).2 ≠ 0 then (0, 0, (greatN (bl (s.extract (q + 1) (q + 1 + m)))).2) else ((greatN (bl (s.extract (q + 1) (q + 1 + m)))).1, (q : Int) + 1 + m, 0) := by
             rw [hx]
             unfold getN; rw [if_neg (by rw [hl]; omega), if_neg (by rw [hl]; omega)]
             simp only [Int.toNat_natCast, hgd, hc]; rw [if_neg h3, if_neg (by omega), if_neg (by rw [hl]; omega)]
             simp only [show 128 + m - 128 = m by omega]
           have hgr := great_any (s.extract (q + 1) (q + 1 + m)) w (by rw [hz]; omega) (by rw [hz]; omega)
           have hy : ((q : Int) + 1 + (m : Int)).toNat = q + 1 + m := by omega
           generalize greatN (bl (s.extract (q + 1) (q + 1 + m))) = g at hg0 hgr
           have HGR := Lib.hid hgr
           by_cases h6 : g.2 = 0
           · have hg : getN (bl s) q = (g.1, (q : Int) + 1 + m, 0) := by rw [hg0, if_neg (by simp [h6])]
             have HG := Lib.hid hg
             have hne2 : (g.2 != 0) = false := by simp [h6]
             clear hg hg0 hgd hl hgr hz hx h6
             go_enter Tryz.func117, Tryz.ntmps117
             go_wp2_with fail
             refine (HGR.out).mono ?_
             rintro e w1 ⟨rfl, rfl⟩
             go_wp2_with fail
             go_ret3
             exact ⟨ret_giii HG.out, rfl⟩
           · have hg : getN (bl s) q = (0, 0, g.2) := by rw [hg0, if_pos h6]
             have HG := Lib.hid hg
             have hne2 : (g.2 != 0) = true := by simp [h6]
             clear hg hg0 hgd hl hgr hz hx h6
             go_enter Tryz.func117, Tryz.ntmps117
             go_wp2_with fail
             refine (HGR.out).mono ?_
             rintro e w1 ⟨rfl, rfl⟩
             go_wp2_with fail
             go_ret3
             exact ⟨ret_giii HG.out, rfl⟩
end Go.Proofs.YtcndnllmlhhjiaaGreatDoor
namespace Go.Proofs.YtcndnllmlhhjiaaGreatDoor
open Go.ChangeShapes Go.WideShapes Go.ChangeAt Go.RowKit
open NumP
set_option maxHeartbeats 2000000 in
theorem get_ref (s : ByteArray) (p : Int) (w : World) (hs : s.size ≤ 1000000) :
   Calls Tryz.prog 105 #[.string s, .int .i64 p] w fun e w' => e = .returned (.tuple #[.int .i64 (getN (bl s) p).1, .int .i64 (getN (bl s) p).2.1, .int .i64 (getN (bl s) p).2.2]) ∧ w = w' := by
 have hl := bl_len s
 by_cases h1 : p < 0 ∨ (s.size : Int) < p
 · have hg : getN (bl s) p = (0, 0, 2) := by unfold getN; rw [if_pos (by rw [hl]; exact h1)]
   rw [hg]
   rcases h1 with h1 | h1
   · go_enter Tryz.func105, Tryz.ntmps105
     go_wp2_with fail
     go_ret3
     exact ⟨rfl, rfl⟩
   · go_enter Tryz.func105, Tryz.ntmps105
     go_wp2_with fail
     all_goals
       go_ret3
       exact ⟨rfl, rfl⟩
 · obtain ⟨q, rfl⟩ := Int.eq_ofNat_of_zero_le (show 0 ≤ p by omega)
   by_cases h2 : q = s.size
   · subst h2
     have hg : getN (bl s) s.size = (0, 0, 4) := by unfold getN; rw [if_neg (by rw [hl]; omega), if_pos (by rw [hl])]
     rw [hg]
     clear h1
     go_enter Tryz.func105, Tryz.ntmps105
     go_wp2_with fail
     go_ret3
     exact ⟨rfl, rfl⟩
   · have hq : q < s.size := by omega
     have hne : ((q : Int) == (s.size : Int)) = false := by rw [beq_eq_false_iff_ne]; omega
     have hgd := bl_getD s q hq
     obtain ⟨c, hc⟩ : ∃ c, s[q].toNat = c := ⟨_, rfl⟩
     have hb : (c : Int) ≤ 255 := by have := byte_bd s[q]; omega
     by_cases h3 : c < 128
     · have hg : getN (bl s) q = ((c : Int), (q : Int) + 1, 0) := by
         unfold getN; rw [if_neg (by rw [hl]; omega), if_neg (by rw [hl]; omega)]
         simp only [Int.toNat_natCast, hgd, hc]; rw [if_pos h3]
       rw [hg]
       have h3i : (c : Int) < 128 := by omega
       clear hg hgd hl h3
       go_enter Tryz.func105, Tryz.ntmps105
       go_wp2_with fail
       go_ret3
       exact ⟨rfl, rfl⟩
     · by_cases h4 : c < 129 ∨ 136 < c
       · have hg : getN (bl s) q = (0, 0, 5) := by
           unfold getN; rw [if_neg (by rw [hl]; omega), if_neg (by rw [hl]; omega)]
           simp only [Int.toNat_natCast, hgd, hc]; rw [if_neg h3, if_pos (by omega)]
         rw [hg]
         clear hg hgd hl
         rcases h4 with h4 | h4
         · have h4b : ((c : Int) == 128) = true := by rw [beq_iff_eq]; omega
           go_enter Tryz.func105, Tryz.ntmps105
           go_wp2_with fail
           go_ret3
           exact ⟨rfl, rfl⟩
         · have h4b : ((c : Int) == 128) = false := by rw [beq_eq_false_iff_ne]; omega
           go_enter Tryz.func105, Tryz.ntmps105
           go_wp2_with fail
           go_ret3
           exact ⟨rfl, rfl⟩
       · obtain ⟨m, rfl⟩ : ∃ m, c = 128 + m := ⟨c - 128, by omega⟩
         have h4b : ((128 : Int) + (m : Int) == 128) = false := by rw [beq_eq_false_iff_ne]; omega
         by_cases h5 : s.size < q + 1 + m
         · have hg : getN (bl s) q = (0, 0, 4) := by
             unfold getN; rw [if_neg (by rw [hl]; omega), if_neg (by rw [hl]; omega)]
             simp only [Int.toNat_natCast, hgd, hc]; rw [if_neg h3, if_neg (by omega), if_pos (by rw [hl]; omega)]
           rw [hg]
           clear hg hgd hl
           go_enter Tryz.func105, Tryz.ntmps105
           go_wp2_with fail
           go_ret3
           exact ⟨rfl, rfl⟩
         · have hsz : q + 1 + m ≤ s.size := by omega
           have hq1 : q + 1 < s.size := by omega
           clear h5
           have hmk : ∀ k, (hk : k < m) → ((bl s).drop (q + 1)).take (k + 1) = ((bl s).drop (q + 1)).take k ++ [s[q + 1 + k]'(Nat.lt_of_lt_of_le (Nat.add_lt_add_left hk (q + 1)) hsz)] := by
             intro k hk
             have hgk := bl_get s (q + 1 + k) (by omega)
             rw [List.take_add_one, List.getElem?_drop, hgk]; rfl
           have hg0 : getN (bl s) q = if (greatN (((bl s).drop (q + 1)).take m)).2 ≠ 0 then (0, 0, (greatN (((bl s).drop (q + 1)).take m)).2) else ((greatN (((bl s).drop (q + 1)).take m)).1, (q : Int) + 1 + m, 0) := by
             unfold getN; rw [if_neg (by rw [hl]; omega), if_neg (by rw [hl]; omega)]
             simp only [Int.toNat_natCast, hgd, hc]; rw [if_neg h3, if_neg (by omega), if_neg (by rw [hl]; omega)]
             simp only [show 128 + m - 128 = m by omega]
           have hhead : ∃ l, ((bl s).drop (q + 1)).take m = s[q + 1] :: l ∧ l.length + 1 = m := by
             obtain ⟨k, rfl⟩ : ∃ k, m = k + 1 := ⟨m - 1, by omega⟩
             have hlen : (((bl s).drop (q + 1)).take (k + 1)).length = k + 1 := by rw [List.length_take, List.length_drop, hl]; omega
             cases hc2 : ((bl s).drop (q + 1)).take (k + 1) with
             | nil => rw [hc2] at hlen; simp at hlen
             | cons x l =>
               have h0 : (((bl s).drop (q + 1)).take (k + 1))[0]? = some s[q + 1] := by
                 rw [List.getElem?_take, if_pos (by omega), List.getElem?_drop]; exact bl_get s (q + 1) hq1
               rw [hc2] at h0 hlen
               simp at h0 hlen
               exact ⟨l, by rw [h0], by omega⟩
           obtain ⟨l, hM, hlm⟩ := hhead
           have hgr := great_ref s[q + 1] l (by omega)
           rw [hM] at hg0
           rw [hgr] at hg0
           obtain ⟨d, hd⟩ : ∃ d, s[q + 1].toNat = d := ⟨_, rfl⟩
           have hdb : (d : Int) ≤ 255 := by have := byte_bd s[q + 1]; omega
           have hd0 : s[q + 1] = 0 ↔ d = 0 := by
             rw [← hd]; constructor
             · intro h; rw [h]; rfl
             · intro h; exact UInt8.toNat_inj.1 (by simpa using h)
           simp only [hd, hd0] at hg0
           have HMK := Lib.hid hmk
           clear hmk hgr hd0 hgd
           by_cases h6 : d = 0 ∨ (l.length = 0 ∧ d < 128)
           · have hg : getN (bl s) q = (0, 0, 5) := by rw [hg0, if_pos h6]; rfl
             rw [hg]
             clear hg hg0 hM
             rcases h6 with h6 | ⟨h6, h7⟩
             · subst h6
               go_enter Tryz.func105, Tryz.ntmps105
               go_wp2_with fail
               go_ret3
               exact ⟨rfl, rfl⟩
             · obtain rfl : m = 1 := by omega
               by_cases hd00 : d = 0
               · subst hd00
                 go_enter Tryz.func105, Tryz.ntmps105
                 go_wp2_with fail
                 go_ret3
                 exact ⟨rfl, rfl⟩
               · have hdd : ((d : Int) == 0) = false := by rw [beq_eq_false_iff_ne]; omega
                 go_enter Tryz.func105, Tryz.ntmps105
                 go_wp2_with fail
                 go_ret3
                 exact ⟨rfl, rfl⟩
           · have hdd : ((d : Int) == 0) = false := by rw [beq_eq_false_iff_ne]; omega
             by_cases h8 : l.length = 7 ∧ 127 < d
             · have hg : getN (bl s) q = (0, 0, 3) := by rw [hg0, if_neg h6, if_pos h8]; rfl
               rw [hg]
               clear hg hg0 hM
               obtain ⟨h8, h9⟩ := h8
               obtain rfl : m = 8 := by omega
               go_enter Tryz.func105, Tryz.ntmps105
               go_wp2_with fail
               go_ret3
               exact ⟨rfl, rfl⟩
             · have hg : getN (bl s) q = (((val (s[q + 1] :: l) : Nat) : Int), (q : Int) + 1 + m, 0) := by rw [hg0, if_neg h6, if_neg h8]; rfl
               have HG := Lib.hid hg
               have hm8 : m = 8 → (d : Int) ≤ 127 := by intro h; omega
               have hm1 : m = 1 → (128 : Int) ≤ (d : Int) := by
                 intro h
                 have : ¬ d < 128 := fun h9 => h6 (.inr ⟨by omega, h9⟩)
                 omega
               have hvb : val (s[q + 1] :: l) ≤ 9223372036854775807 := by
                 have hvc := val_cons s[q + 1] l
                 have h9 := val_lt l
                 rw [hd] at hvc
                 by_cases h10 : l.length = 7
                 · have hd7 : d ≤ 127 := by omega
                   rw [h10] at h9 hvc; simp at h9 hvc; omega
                 · have h7 : 256 ^ l.length ≤ 256 ^ 6 := Nat.pow_le_pow_right (by omega) (by omega)
                   have h2 := Nat.mul_le_mul_right (256 ^ l.length) (show d ≤ 255 by omega)
                   omega
               have hvk : ∀ k, val (((bl s).drop (q + 1)).take k) ≤ val (s[q + 1] :: l) ∨ ¬ k ≤ m := by
                 intro k
                 by_cases hk : k ≤ m
                 · left
                   have := val_take_le (((bl s).drop (q + 1)).take m) k
                   rw [List.take_take, Nat.min_eq_left hk, hM] at this
                   exact this
                 · right; exact hk
               have HVK := Lib.hid hvk
               have HVB := Lib.hid hvb
               have HM := Lib.hid hM
               have h1m : 1 ≤ m := by omega
               have hm8' : m ≤ 8 := by omega
               clear hg hg0 hM hvk hvb h8 h6 h4 hl h1 hlm
               have hA : ((128 : Int) + (m : Int) == 129) = true ∧ (128 : Int) ≤ (d : Int) ∨ ((128 : Int) + (m : Int) == 129) = false := by
                 by_cases h : m = 1
                 · left; exact ⟨by rw [beq_iff_eq]; omega, hm1 h⟩
                 · right; rw [beq_eq_false_iff_ne]; omega
               have hB : ((128 : Int) + (m : Int) == 136) = true ∧ (d : Int) ≤ 127 ∨ ((128 : Int) + (m : Int) == 136) = false := by
                 by_cases h : m = 8
                 · left; exact ⟨by rw [beq_iff_eq]; omega, hm8 h⟩
                 · right; rw [beq_eq_false_iff_ne]; omega
               clear hm8 hm1
               have hqs : decide (s.size < q) = false := by simp; omega
               rcases hA with ⟨hA, hA2⟩ | hA <;> rcases hB with ⟨hB, hB2⟩ | hB
               all_goals first
                 | (exfalso; simp only [beq_iff_eq] at hA hB; omega)
                 | skip
               all_goals
                 go_enter Tryz.func105, Tryz.ntmps105
                 go_wp2_with fail
                 clear hA hB h4b
                 go_loop [9, 10] (fun v9 v10 => ∃ k : Nat, k ≤ m ∧ v10 = .int .i64 ((q + 1 + k : Nat) : Int) ∧ v9 = .int .i64 ((val (((bl s).drop (q + 1)).take k) : Nat) : Int)) (fun _ v10 => q + 1 + m - (intOf v10).toNat)
                 case atStart => exact ⟨0, by omega, by go_num, rfl⟩
                 case round =>
                   obtain ⟨k, hk, rfl, rfl⟩ := hrel
                   by_cases hlt : k < m
                   · have hst := HMK.out k hlt
                     have hvs : 256 * (val (((bl s).drop (q + 1)).take k) : Int) + ((s[q + 1 + k]'(Nat.lt_of_lt_of_le (Nat.add_lt_add_left hlt (q + 1)) hsz)).toNat : Int) = ((val (((bl s).drop (q + 1)).take (k + 1)) : Nat) : Int) := by
                       rw [hst, val_snoc]; omega
                     have hv1 : ((val (((bl s).drop (q + 1)).take (k + 1)) : Nat) : Int) ≤ 9223372036854775807 := by
                       have h1 := HVK.out (k + 1)
                       have h2 := HVB.out
                       omega
                     have hv0 : 256 * ((val (((bl s).drop (q + 1)).take k) : Nat) : Int) ≤ 9223372036854775807 := by omega
                     generalize hv' : val (((bl s).drop (q + 1)).take (k + 1)) = v' at hvs hv1
                     have HV := Lib.hid hv'
                     generalize val (((bl s).drop (q + 1)).take k) = v at hvs hv0 ⊢
                     clear hv' hst
                     go_wp2_with fail
                     go_round
                     case rel => exact ⟨k + 1, by omega, by go_num, by rw [HV.out]⟩
                     case measure => simp [intOf]; omega
                   · obtain rfl : k = m := by omega
                     go_wp2_with fail
                     go_ret3
                     exact ⟨ret_giii (HG.out.trans (by rw [← HM.out]; simp only [Prod.mk.injEq, true_and, and_true]; omega)), rfl⟩
end Go.Proofs.YtcndnllmlhhjiaaGreatDoor
namespace Go.Proofs.YtcndnllmlhhjiaaGreatDoor
open Go.RowKit
section
variable {P : Program} {w : World}
theorem run_append_str_at (t u ty e : TypeId) (i : TypeInfo) (ht : P.underlying t = some (.slice e)) (hu : P.underlying u = some .string) (hi : P.info? e = some i) (hz : i.zero = some (.int .u8 0))
   (hsize : i.size = 1) (hby : i.bytes = 1) (v : Value) (n : Nat) (xs : List Value) (hown : w.ownsRow 0 e 1 v n xs) (s : ByteArray) (h63 : n + s.size ≤ maxLen) (hbytes : n + s.size ≤ 140737488355328) :
   ∃ v' w', (Builtin.append_ #[t, u] ty #[v, .string s]).run P w = .ok v' w' ∧ w'.ownsRow 0 e 1 v' (n + s.size) (xs ++ Lib.strCells s) ∧ w.grownBy w' v.ownBlock ∧ (∀ b, v'.ownBlock = some b → v.ownBlock = some b ∨ w.heap.size ≤ b) ∧ (v = .slice none 0 0 → s.size = 0 → v' = .slice none 0 0) := by
 obtain ⟨v', w', hr, h2, h3, h4⟩ := Lib.run_append_own_string (P := P) w 0 t u ty e i ht hu hi hz hsize hby v n xs hown s h63 hbytes (Nat.zero_le _)
 have hsmall : n + s.size ≤ 9223372036854775807 := by simp only [maxLen] at h63; omega
 refine ⟨v', w', hr, h2, h3, fun b hb => ?_, fun a b => h4.2 ⟨a, b⟩⟩
 have hxl : xs.length = n := by simpa using hown.1
 rcases hown.2 with ⟨rfl, rfl⟩ | ⟨g, cap, cur, rfl, hbg, hg, hnc, hcm, hcs, htake⟩
 · obtain ⟨v2, w2, hr2, q2, _⟩ := Lib.run_append_own_string (P := P) w w.heap.size t u ty e i ht hu hi hz hsize hby (.slice none 0 0) 0 [] (World.ownsRow_nil _ _ _ _) s h63 hbytes (Nat.le_refl _)
   rw [hr] at hr2; cases hr2
   exact .inr (q2.lt b hb).1
 · by_cases hroom : n + s.size ≤ cap
   · have hcs' : cur.size = cap := by simpa using hcs
     have hr2 := Lib.run_append_room_string (P := P) w t u ty e i ht hu hi hsize g n cap cur hg s hroom (by omega)
     rw [hr] at hr2; cases hr2
     exact .inl hb
   · have holds : ∀ j u, xs[j]? = some u → w.cell? ((⟨g, 0, none⟩ : Addr).add j) = some u := hown.cells (g := g) rfl
     have hr2 := Lib.run_append_grow_string (P := P) w t u ty e i (.int .u8 0) ht hu hi hz ⟨g, 0, none⟩ n cap xs (by rw [hsize]; simpa using hxl) holds s (by omega) (by omega) (by rw [hby]; exact growslice_fits (by omega) (by omega))
     rw [hr] at hr2; cases hr2
     simp only [Value.ownBlock, Option.some.injEq] at hb
     exact .inr (by omega)
theorem wpList_append_str_at {ops : Array Oper} {rest : List Oper} {o : Oper} {a : Act} {Q : Exit → Act → World → Prop} (hgd : o.guard = none) (sl x : Operand) (t u : TypeId)
   (ho : o.op = .call { callee := .builtin .append, args := #[sl, x], argTypes := #[t, u] })
   (e : TypeId) (i : TypeInfo) (ht : P.underlying t = some (.slice e)) (hu : P.underlying u = some .string) (hi : P.info? e = some i) (hz : i.zero = some (.int .u8 0))
   (hsize : i.size = 1) (hby : i.bytes = 1)
   (v : Value) (n : Nat) (xs : List Value) (hs : a.eval sl = v) (hown : w.ownsRow 0 e 1 v n xs) (s : ByteArray) (hx : a.eval x = .string s)
   (h63 : n + s.size ≤ maxLen) (hbytes : n + s.size ≤ 140737488355328)
   (h : ∀ v' w', w'.ownsRow 0 e 1 v' (n + s.size) (xs ++ Lib.strCells s) → w.grownBy w' v.ownBlock → (∀ b, v'.ownBlock = some b → v.ownBlock = some b ∨ w.heap.size ≤ b) → (v = .slice none 0 0 → s.size = 0 → v' = .slice none 0 0) → wpList P ops Q rest (a.put o.dst v') w') : wpList P ops Q (o :: rest) a w := by
 refine wpList_plain hgd fun K hK => ?_
 obtain ⟨v', w', hr, h2, h3, h4, h5⟩ := run_append_str_at (P := P) (w := w) t u o.type e i ht hu hi hz hsize hby v n xs hown s h63 hbytes
 unfold Oper.wp execOp
 simp only [ho, resolve, invoke, builtin, Sem.run_bind, Sem.run_pure, Result.andThen_ok, List.map_toArray, List.map_cons, List.map_nil, hs, hx, hr]
 exact hK _ _ (h v' w' h2 h3 h4 h5)
end
theorem sizeBuilder : (Tryz.prog.info? 175).map (·.size) = some 2 := by kernel_rfl
theorem infoByte : (Tryz.prog.info? 5).map (fun i => (i.zero, i.size, i.bytes)) = some (some (.int .u8 0), 1, 1) := by kernel_rfl
theorem copyCheck_used (b : Nat) (w : World) (h0 : w.cell? ⟨b, 0, none⟩ = some (.pointer (some ⟨b, 0, none⟩))) :
   Calls Tryz.prog 181 #[.pointer (some ⟨b, 0, none⟩)] w fun e w' => e = .returned (.tuple #[]) ∧ w' = w := by
 obtain ⟨j, hj, _⟩ := Option.map_eq_some_iff.1 sizeBuilder
 go_enter Tryz.func181, Tryz.ntmps181
 go_wp2
 rw [Lib.run_neq_ptr_same w _ U172 hj]
 go_wp2
 go_end0
 exact ⟨rfl, rfl⟩
theorem copyCheck_fresh {T n : Nat} (hl : liesAt Tryz.prog Tryz.prog.depth T (n / Tryz.prog.cellsOf T) 0 175 1 = true) (hn : 0 < n) (b : Nat) (w : World) (h0 : w.cell? ⟨b, 0, none⟩ = some (.pointer none)) (hsh : w.shape? b = some (T, n)) (hfz : w.frozen? ⟨b, 0, none⟩ = false) :
   Calls Tryz.prog 181 #[.pointer (some ⟨b, 0, none⟩)] w fun e w' => e = .returned (.tuple #[]) ∧ w' = w.setCell ⟨b, 0, none⟩ (.pointer (some ⟨b, 0, none⟩)) := by
 obtain ⟨j, hj, hjs⟩ := Option.map_eq_some_iff.1 sizeBuilder
 go_enter Tryz.func181, Tryz.ntmps181
 go_wp2
 rw [Lib.run_to_unsafe w ⟨b, 0, none⟩ U172 U192 hj (by rw [hjs]; decide) hsh hn]
 simp only [Result.andThen]
 rw [Oper.upon_value]
 go_wp2
 rw [run_callFunc_extern Tryz.func189 (by kernel_rfl) (by kernel_rfl) (by kernel_rfl) (e := Extern.AbiNoEscape.same) (by kernel_rfl)]
 rw [Lib.run_noEscape]
 simp only [Result.andThen]
 rw [Oper.upon_value]
 go_wp2
 rw [Lib.run_from_unsafe w ⟨b, 0, none⟩ U192 U172 hj hsh hl]
 simp only [Result.andThen]
 rw [Oper.upon_value]
 go_wp2
 go_end0
 exact ⟨rfl, rfl⟩
structure BdW (w : World) (T b : Nat) (arr : Array Value) (v : Value) (s : ByteArray) : Prop where
 heap : w.heap[b]? = some (.cells arr T (0, 0))
 buf : arr[1]? = some v
 adr : arr[0]? = some (.pointer none) ∨ arr[0]? = some (.pointer (some ⟨b, 0, none⟩))
 own : w.ownsRow 0 5 1 v s.size (Lib.strCells s)
 ne : v.ownBlock ≠ some b
 emp : s.size = 0 → v = .slice none 0 0
theorem owns_setCell {w : World} {e : TypeId} {v x : Value} {n b off : Nat} {xs : List Value} (h : w.ownsRow 0 e 1 v n xs) (hne : v.ownBlock ≠ some b) : (w.setCell ⟨b, off, none⟩ x).ownsRow 0 e 1 v n xs :=
 h.kept (row := some b) ⟨rfl, rfl, rfl, by simp [World.setCell], fun k _ hk => Below.heap_setCell _ _ _ _ (fun e => hk (by simp [e]))⟩ (Or.inr hne)
theorem setCell_heap {w : World} {b off : Nat} {arr : Array Value} {T : TypeId} {x : Value} (hb : w.heap[b]? = some (.cells arr T (0, 0))) : (w.setCell ⟨b, off, none⟩ x).heap[b]? = some (.cells (arr.setIfInBounds off x) T (0, 0)) := by
 simp [World.setCell, Array.getElem?_modify, hb]
theorem setCell_other {w : World} {b off k : Nat} {x : Value} (hk : k ≠ b) : (w.setCell ⟨b, off, none⟩ x).heap[k]? = w.heap[k]? :=
 Below.heap_setCell _ _ _ _ (fun e => hk (by simpa using e))
theorem copyCheck_any {T n b : Nat} {arr : Array Value} {v : Value} {s : ByteArray} {w : World} (hl : liesAt Tryz.prog Tryz.prog.depth T (n / Tryz.prog.cellsOf T) 0 175 1 = true) (hn : arr.size = n) (h : BdW w T b arr v s) :
   Calls Tryz.prog 181 #[.pointer (some ⟨b, 0, none⟩)] w fun e w' => e = .returned (.tuple #[]) ∧ ∃ arr', BdW w' T b arr' v s ∧ arr'.size = n ∧ (∀ q, 1 < q → arr'[q]? = arr[q]?) ∧ w'.os = w.os ∧ w'.tape = w.tape ∧ w'.output = w.output ∧ w'.heap.size = w.heap.size ∧ ∀ k, k ≠ b → w'.heap[k]? = w.heap[k]? := by
 have hlt : 0 < arr.size := by rcases h.adr with h | h <;> exact (Array.getElem?_eq_some_iff.1 h).1
 rcases h.adr with h0 | h0
 · refine (copyCheck_fresh hl (by omega) b w (by rw [Lib.cell_of_heap h.heap]; exact h0) (by simp [World.shape?, h.heap, hn]) (Lib.frozen_of_heap h.heap 0)).mono ?_
   rintro e w' ⟨rfl, rfl⟩
   refine ⟨rfl, arr.setIfInBounds 0 (.pointer (some ⟨b, 0, none⟩)), ⟨setCell_heap h.heap, ?_, .inr (by simp [hlt]), owns_setCell h.own h.ne, h.ne, h.emp⟩, by simpa using hn, fun q hq => ?_, rfl, rfl, rfl, by simp [World.setCell], fun k hk => setCell_other hk⟩
   · rw [Array.getElem?_setIfInBounds_ne (by omega)]; exact h.buf
   · rw [Array.getElem?_setIfInBounds_ne (by omega)]
 · refine (copyCheck_used b w (by rw [Lib.cell_of_heap h.heap]; exact h0)).mono ?_
   rintro e w' ⟨rfl, rfl⟩
   exact ⟨rfl, arr, h, hn, fun _ _ => rfl, rfl, rfl, rfl, rfl, fun _ _ => rfl⟩
set_option maxHeartbeats 2000000 in
theorem writeString_any {T n b : Nat} {arr : Array Value} {v : Value} {s : ByteArray} {w : World} (hl : liesAt Tryz.prog Tryz.prog.depth T (n / Tryz.prog.cellsOf T) 0 175 1 = true) (hn : arr.size = n) (hTe : T ≠ 5) (h : BdW w T b arr v s) (t : ByteArray) (hlen : s.size + t.size ≤ 140737488355328) :
   Calls Tryz.prog 164 #[.pointer (some ⟨b, 0, none⟩), .string t] w fun e w' => e = .returned (.tuple #[.int .i64 t.size, .nilIface]) ∧
     ∃ arr' v', BdW w' T b arr' v' (s ++ t) ∧ arr'.size = n ∧ (∀ q, 1 < q → arr'[q]? = arr[q]?) ∧ w'.os = w.os ∧ w'.tape = w.tape ∧ w'.output = w.output ∧ w.heap.size ≤ w'.heap.size ∧ (∀ k, k < w.heap.size → k ≠ b → v.ownBlock ≠ some k → w'.heap[k]? = w.heap[k]?) ∧ ∀ k, v'.ownBlock = some k → v.ownBlock = some k ∨ w.heap.size ≤ k := by
 obtain ⟨i0, hi, hz0, hz1, hz2⟩ := info_parts infoByte
 go_enter Tryz.func164, Tryz.ntmps164
 go_wp2_with (go_at_call 181; refine (copyCheck_any hl hn h).mono ?_)
 rintro e w1 ⟨rfl, arr1, h1, hn1, hq1, ho1, ht1, hu1, hs1, hk1⟩
 have c1 : w1.cell? ⟨b, 1, none⟩ = some v := by rw [Lib.cell_of_heap h1.heap]; exact h1.buf
 go_wp2_with (at_builtin; refine wpList_append_str_at rfl _ _ 173 9 rfl 5 i0 U173 U9 hi hz0 hz1 hz2 _ _ _ rfl h1.own t rfl ?c3 ?c4 ?_)
 case c3 => unfold maxLen; omega
 case c4 => omega
 intro v' w2 hown' hgrow hblk hemp
 have hlt : b < w1.heap.size := (Array.getElem?_eq_some_iff.1 h1.heap).1
 have hb2 : w2.heap[b]? = some (.cells arr1 T (0, 0)) := by
   rw [hgrow.block b hlt (fun e => h1.ne e.symm)]
   exact h1.heap
 have d1 : w2.cell? ⟨b, 1, none⟩ = some v := by rw [Lib.cell_of_heap hb2]; exact h1.buf
 have f1 : w2.frozen? ⟨b, 1, none⟩ = false := Lib.frozen_of_heap hb2 1
 obtain ⟨ao, n', cap, rfl⟩ : ∃ ao n' cap, v' = .slice ao n' cap := by
   rcases hown'.2 with ⟨hv, _⟩ | ⟨g, cap, cur, hv, _⟩
   · exact ⟨_, _, _, hv⟩
   · exact ⟨_, _, _, hv⟩
 go_wp2
 go_ret2
 have hsz : 1 < arr1.size := (Array.getElem?_eq_some_iff.1 h1.buf).1
 have hne := Lib.ownBlock_ne hown' hb2 hTe
 refine ⟨rfl, arr1.setIfInBounds 1 (.slice ao n' cap), .slice ao n' cap, ⟨setCell_heap hb2, by simp [hsz], ?_, ?_, hne, ?_⟩, by simpa using hn1, fun q hq => ?_, ?_, ?_, ?_, ?_, fun k hk hkb hkv => ?_, fun k hk => ?_⟩
 · rw [Array.getElem?_setIfInBounds_ne (by omega)]; exact h1.adr
 · have e1 : (s ++ t).size = s.size + t.size := ByteArray.size_append
   have e2 : Lib.strCells (s ++ t) = Lib.strCells s ++ Lib.strCells t := by simp [Lib.strCells]
   rw [e1, e2]
   exact owns_setCell hown' hne
 · intro h0
   rw [ByteArray.size_append] at h0
   have q1 : s.size = 0 := by omega
   have q2 : t.size = 0 := by omega
   exact hemp (h.emp q1) (by first | exact q2 | simpa using q2)
 · rw [Array.getElem?_setIfInBounds_ne (by omega)]; exact hq1 q hq
 · exact hgrow.os.trans ho1
 · exact hgrow.tape.trans ht1
 · exact hgrow.output.trans hu1
 · have := hgrow.size; simp [World.setCell]; omega
 · rw [setCell_other hkb, hgrow.block k (by omega) (fun e => hkv e.symm), hk1 k hkb]
 · rcases hblk k hk with h | h
   · exact .inl h
   · exact .inr (by omega)
theorem bld_write {T n : Nat} (hl : liesAt Tryz.prog Tryz.prog.depth T (n / Tryz.prog.cellsOf T) 0 175 1 = true) (hTe : T ≠ 5) (s t : ByteArray) (rest : List AV) (hn : rest.length + 2 = n) (hlen : s.size + t.size ≤ 140737488355328) :
   FnM Tryz.prog 164 (fun i => [.box i 0, .str t]) (.adr T :: .buf 5 s :: rest) (.tup [.int .i64 t.size, .raw .nilIface]) (.adr T :: .buf 5 (s ++ t) :: rest) := by
 intro H i hi w β vs hH hv
 obtain ⟨a1, a2, rfl, hb0, ht0⟩ := hv.two
 obtain rfl := ht0.str_inv
 obtain ⟨b, arr, T', hat, rfl, hhp, hsz, hrep⟩ := hb0.box_at hH hi
 rcases hat with hat | ⟨v, hat, e', s', k1, k2, k3, k4, k5, k6, k7⟩
 · have := hH.ob i _ _ hi hat
   obtain ⟨_, _, _, _, _, q⟩ := this
   simp [AV.plainC] at q
 simp at k1 k2
 obtain ⟨rfl⟩ := k1
 obtain ⟨rfl, rfl⟩ := k2
 have hszn : arr.size = n := by rw [hsz]; simpa using hn
 refine (writeString_any hl hszn hTe ⟨hhp, k3, k4, k5, k6, k7⟩ t hlen).mono ?_
 rintro e w' ⟨rfl, arr', v', hB, hn', hq, ho, htp, hu, hs, hk, hblk⟩
 have hch := hH.change hat (x' := .bld b v') (o := .box (.adr T :: .buf 5 (s ++ t) :: rest)) rfl (fun _ e => by cases e) ho htp hu hs
   (fun k h1 h2 => hk k h1 (fun e => h2 (by rw [e]; exact List.mem_cons_self)) (fun e => h2 (List.mem_cons_of_mem _ (opt_mem.2 e))))
   (fun k hm => by
     rcases List.mem_cons.1 hm with rfl | hm
     · exact .inl List.mem_cons_self
     · rcases hblk k (opt_mem.1 hm) with h | h
       · exact .inl (List.mem_cons_of_mem _ (opt_mem.2 h))
       · exact .inr h)
   (fun hx => ⟨arr', T, hB.heap, by rw [hn', ← hn]; simp, fun j u y hj hy => by
     match j with
     | 0 => simp at hy; subst hy; exact .adr _ _
     | 1 => simp at hy; subst hy; exact .buf _ _ _
     | j + 2 =>
       rw [hq _ (by omega)] at hj
       exact (hrep (j + 2) u y hj (by simpa using hy)).ext hx,
     _, _, rfl, rfl, hB.buf, hB.adr, hB.own, hB.ne, hB.emp⟩)
 exact ⟨_, _, rfl, hch.1, hch.2, VRep.tup2 (.int _ _) (.raw _)⟩
/-! ### the bytes are told -/
theorem cellsByte : Tryz.prog.cellsOf 5 = 1 := by kernel_rfl
theorem freeze_only (w : World) (g n c : Nat) : (w.drew.freeze ⟨g, 0, none⟩ n).os = w.os ∧ (w.drew.freeze ⟨g, 0, none⟩ n).tape = w.tape ∧ (w.drew.freeze ⟨g, 0, none⟩ n).output = w.output ∧ w.heap.size ≤ (w.drew.freeze ⟨g, 0, none⟩ n).heap.size ∧
   ∀ k, (Value.slice (some ⟨g, 0, none⟩) n c).ownBlock ≠ some k → (w.drew.freeze ⟨g, 0, none⟩ n).heap[k]? = w.heap[k]? := by
 unfold World.freeze
 split
 · exact ⟨rfl, rfl, rfl, Nat.le_refl _, fun _ _ => rfl⟩
 · refine ⟨rfl, rfl, rfl, by simp, fun k hk => ?_⟩
   simp only [Value.ownBlock] at hk
   simp only [Array.getElem?_modify]
   rw [if_neg (fun e => hk (by rw [e]))]
   rfl
set_option maxHeartbeats 2000000 in
theorem string_some {T b : Nat} {arr : Array Value} {v : Value} {s : ByteArray} {w : World} (h : BdW w T b arr v s) (h0 : s.size ≠ 0) :
   Calls Tryz.prog 142 #[.pointer (some ⟨b, 0, none⟩)] w fun e w' => e = .returned (.string s) ∧ w'.os = w.os ∧ w'.tape = w.tape ∧ w'.output = w.output ∧ w.heap.size ≤ w'.heap.size ∧ ∀ k, v.ownBlock ≠ some k → w'.heap[k]? = w.heap[k]? := by
 obtain ⟨hhp, hbuf, _, hown, hne, _⟩ := h
 obtain ⟨g, cap, cur, rfl, hbg, hg, hnc, hcm, hcs, htake⟩ : ∃ g cap cur, v = .slice (some ⟨g, 0, none⟩) s.size cap ∧ 0 ≤ g ∧ w.heap[g]? = some (.cells cur 5 (0, 0)) ∧ s.size ≤ cap ∧ cap ≤ maxLen ∧ cur.size = cap * 1 ∧ cur.toList.take (s.size * 1) = Lib.strCells s := by
   rcases hown.2 with ⟨_, hz⟩ | ⟨g, cap, cur, hv, r⟩
   · exact absurd hz h0
   · exact ⟨g, cap, cur, hv, r⟩
 have c1 : w.drew.cell? ⟨b, 1, none⟩ = some (.slice (some ⟨g, 0, none⟩) s.size cap) := by
   have : w.drew.heap[b]? = some (.cells arr T (0, 0)) := hhp
   rw [Lib.cell_of_heap this]; exact hbuf
 have hls : (s.data.toList).length = s.size := Array.length_toList
 have hSD : (Builtin.unsafeSliceData_ #[173] 248 #[.slice (some ⟨g, 0, none⟩) s.size cap]).run Tryz.prog w.drew = .ok (.pointer (some ⟨g, 0, none⟩)) w.drew :=
   Lib.run_unsafeSliceData_row _ _ _ _ _ _ (by omega)
 have hUS : (Builtin.unsafeString_ #[248, 3] 9 #[.pointer (some ⟨g, 0, none⟩), .int .i64 s.size]).run Tryz.prog w.drew = .ok (.string s) (w.drew.freeze ⟨g, 0, none⟩ s.size) := by
   have := Lib.run_unsafeString_row (P := Tryz.prog) w.drew 248 3 9 5 U248 cellsByte g cur.size (by have hg' : w.drew.heap[g]? = some (.cells cur 5 (0, 0)) := hg; simp [World.shape?, hg']) s.data.toList (by intro e; rw [e] at hls; simp at hls; omega) (by omega) (by unfold maxLen at hcm; omega) (by
     intro j x hx
     have := hown.cells (g := g) rfl j (.int .u8 x.toNat) (by simp [Lib.strCells]; exact ⟨x, by simpa using hx, rfl⟩)
     exact this)
   rw [hls] at this
   exact this
 have hgl : g < w.heap.size := (Array.getElem?_eq_some_iff.1 hg).1
 go_enter Tryz.func142, Tryz.ntmps142
 go_wp2
 go_region
 all_goals (go_wp2; go_ret; refine ⟨rfl, ?_⟩; exact freeze_only w g _ _)
set_option maxHeartbeats 2000000 in
theorem string_none {T b : Nat} {arr : Array Value} {s : ByteArray} {w : World} (hhp : w.heap[b]? = some (.cells arr T (0, 0))) (hbuf : arr[1]? = some (.slice none 0 0)) :
   Calls Tryz.prog 142 #[.pointer (some ⟨b, 0, none⟩)] w fun e w' => e = .returned (.string ⟨#[]⟩) ∧ w' = w.drew := by
 have hUS : ∀ W, (Builtin.unsafeString_ #[248, 3] 9 #[.pointer none, .int .i64 0]).run Tryz.prog W = .ok (.string .empty) W := fun W => Lib.run_unsafeString_none W _ _ _ none
 have c1 : w.drew.cell? ⟨b, 1, none⟩ = some (.slice none 0 0) := by
   have : w.drew.heap[b]? = some (.cells arr T (0, 0)) := hhp
   rw [Lib.cell_of_heap this]; exact hbuf
 have hSD : (Builtin.unsafeSliceData_ #[173] 248 #[.slice none 0 0]).run Tryz.prog w.drew = .ok (.pointer none) w.drew := rfl
 go_enter Tryz.func142, Tryz.ntmps142
 go_wp2
 go_region
 all_goals (go_wp2; go_ret; exact ⟨rfl, rfl⟩)
theorem drew_only (w : World) {v : Value} : w.drew.os = w.os ∧ w.drew.tape = w.tape ∧ w.drew.output = w.output ∧ w.heap.size ≤ w.drew.heap.size ∧ ∀ k, v.ownBlock ≠ some k → w.drew.heap[k]? = w.heap[k]? := ⟨rfl, rfl, rfl, Nat.le_refl _, fun _ _ => rfl⟩
theorem string_any {T b : Nat} {arr : Array Value} {v : Value} {s : ByteArray} {w : World} (h : BdW w T b arr v s) :
   Calls Tryz.prog 142 #[.pointer (some ⟨b, 0, none⟩)] w fun e w' => e = .returned (.string s) ∧ w'.os = w.os ∧ w'.tape = w.tape ∧ w'.output = w.output ∧ w.heap.size ≤ w'.heap.size ∧ ∀ k, v.ownBlock ≠ some k → w'.heap[k]? = w.heap[k]? := by
 by_cases h0 : s.size = 0
 · have hv := h.emp h0
   subst hv
   refine (string_none (s := s) h.heap h.buf).mono ?_
   rintro e w' ⟨rfl, rfl⟩
   have hs : s = ⟨#[]⟩ := ByteArray.size_eq_zero_iff.1 h0
   exact ⟨by rw [hs], drew_only w⟩
 · exact string_some h h0
def FnK (P : Program) (F : FuncId) (args : Nat → List AV) (cs : List AV) (r : AV) : Prop :=
 ∀ (H : List AO) (i : Nat), H[i]? = some (.box cs) → FnH P F (args i) H r (H.set i .dead)
theorem FnK.of {P : Program} {f : FuncId} {fn : Func} {c : Code} {args : Nat → List AV} {cs : List AV} {r : AV} {n : Nat} (hf : P.funcs[f]? = some fn) (hb : fn.body = some c) (hn : fn.ntmps = n) (hna : ∀ i, (args i).length ≤ n)
   (h : ∀ (H : List AO) (i m : Nat), H.length = m → i < H.length → GOK m (H.set i (.box cs)) → AWP P n m c (endF P fn r (H.set i .dead)) (zipS (args i) 0) (H.set i (.box cs)) []) : FnK P f args cs r := by
 intro H i hi
 have hlt := (List.getElem?_eq_some_iff.1 hi).1
 have e : H.set i (.box cs) = H := set_of_get hi
 refine FnH.of0 hf hb hn (hna i) fun hG => ?_
 have := h H i H.length rfl hlt (by rw [e]; exact hG)
 rw [e] at this; exact this
theorem FnM.kill {P : Program} {F : FuncId} {args : Nat → List AV} {cs cs' : List AV} {r : AV} (h : FnM P F args cs r cs') (hr : NoH 0 r) : FnK P F args cs r := by
 intro H i hi w β vs hH hv
 refine (h H i hi w β vs hH hv).mono ?_
 rintro e w' ⟨v, β', rfl, k1, k2, k3⟩
 have hlt : i < H.length := (List.getElem?_eq_some_iff.1 hi).1
 have hb' : i < β'.length := by rw [k2.len, List.length_set]; exact hlt
 have hx : β'[i]? = some β'[i] := List.getElem?_eq_getElem hb'
 have ho := k2.ob i (.box cs') _ (List.getElem?_set_self hlt) hx
 have hto : β'[i].to .dead ∧ ∀ bs, β'[i] ≠ .guard bs := by
   cases hy : β'[i] with
   | box b => exact ⟨trivial, fun _ e => by cases e⟩
   | bld b v => exact ⟨trivial, fun _ e => by cases e⟩
   | row v g => rw [hy] at ho; exact ho.elim
   | dead => rw [hy] at ho; exact ho.elim
   | guard bs => rw [hy] at ho; exact ho.elim
   | map b => rw [hy] at ho; exact ho.elim
 have hc := k2.change hx (x' := .dead) (o := .dead) hto.1 hto.2 rfl rfl rfl (Nat.le_refl _) (fun _ _ _ => rfl) (fun b hb => by cases hb) (fun _ => trivial)
 rw [List.set_set] at hc
 exact ⟨v, _, rfl, k1.trans hc.1, hc.2, k3.ext hc.1⟩
theorem bld_string {T n : Nat} (s : ByteArray) (rest : List AV) : FnK Tryz.prog 142 (fun i => [.box i 0]) (.adr T :: .buf 5 s :: rest) (.str s) := by
 intro H i hi w β vs hH hv
 obtain ⟨a1, rfl, hb0⟩ := hv.single
 obtain ⟨b, arr, T', hat, rfl, hhp, hsz, hrep⟩ := hb0.box_at hH hi
 rcases hat with hat | ⟨v, hat, e', s', k1, k2, k3, k4, k5, k6, k7⟩
 · have := hH.ob i _ _ hi hat
   obtain ⟨_, _, _, _, _, q⟩ := this
   simp [AV.plainC] at q
 simp at k1 k2
 obtain ⟨rfl⟩ := k1
 obtain ⟨rfl, rfl⟩ := k2
 refine (string_any ⟨hhp, k3, k4, k5, k6, k7⟩).mono ?_
 rintro e w' ⟨rfl, ho, htp, hu, hs, hk⟩
 have hch := hH.change hat (x' := .dead) (o := .dead) trivial (fun _ e => by cases e) ho htp hu hs
   (fun k h1 h2 => hk k (fun e => h2 (List.mem_cons_of_mem _ (opt_mem.2 e)))) (fun k hm => by cases hm) (fun _ => trivial)
 exact ⟨_, _, rfl, hch.1, hch.2, .str _⟩
section
variable {P : Program} {ops : Array Oper} {n m : Nat} {QQ : List Kd → Sl → List AO → Prop} {l : List Oper} {ks : List Kd} {σ : Sl} {G L H : List AO} {o : Oper} {gd : Bool}
theorem GOK.setDead {m : Nat} {H : List AO} {i : Nat} {X : AO} (h : GOK m (H.set i X)) : GOK m (H.set i .dead) := h.setO (fun x hx => by cases hx)
theorem ARun.callK {H0 : List AO} {f : Operand} {args : Array Operand} {ats : Array TypeId} {F i : Nat} {fs cs xs ax cA : List AV} {r Y : AV} {d : Option Tmp} (hi : i < H0.length) (hm : GOK m (H0.set i (.box cA))) (ho : o.op = .call { callee := .value f, args := args, argTypes := ats }) (hd : o.dst = d) (hn : dstLt n d = true) (hG : gdS ops σ o.guard = some true)
   (hcf : ∀ (va : Array Value) (W : World), (callFunc F va).run P W = .ok (.enter F va) W)
   (hf : Ev true σ f (.fn (.func F) fs cs)) (hx : EvL true σ args.toList xs) (has : fs ++ xs ++ cs = ax) (hF : FnH P F ax (H0.set i (.box cA) ++ L) r ((H0.set i (.box cA) ++ L).set i .dead)) (hY : optA o.guard true r = Y)
   (hr : GOK m (H0.set i .dead) → ARun P ops n QQ l (ks ++ [.write]) (putS σ d Y) (H0.set i .dead ++ L)) : ARun P ops n QQ (o :: l) ks σ (H0.set i (.box cA) ++ L) :=
 ARun.callH ho hd hn hG hcf hf hx has hF hY (by rw [_root_.Go.Proofs.YtcndnllmlhhjiaaGreatDoor.setO hi]; exact hr hm.setDead)
end
end Go.Proofs.YtcndnllmlhhjiaaGreatDoor
namespace Go.Proofs.YtcndnllmlhhjiaaGreatDoor
open Go.RowKit
open NumP
theorem put_fn (n : Int) (h : -9223372036854775808 ≤ n ∧ n ≤ 9223372036854775807) : FnP Tryz.prog 140 [.int .i64 n] (.tup [.str (bs (putN n).1), .int .i64 (putN n).2]) :=
 FnP.of_calls rfl (by simp) (by simp) fun w => (putAny n w h.1 h.2).mono fun e w' ⟨h1, h2⟩ => ⟨_, h1, h2, VRep.tup2 (.str _) (.int _ _)⟩
theorem VRep.tup3 {β : List Hd} {w : World} {x y z : Value} {a b c : AV} (h1 : VRep β w x a) (h2 : VRep β w y b) (h3 : VRep β w z c) : VRep β w (.tuple #[x, y, z]) (.tup [a, b, c]) := by
 refine .tup _ _ rfl fun j u y' h k => ?_
 match j with
 | 0 => simp at h k; subst h k; exact h1
 | 1 => simp at h k; subst h k; exact h2
 | 2 => simp at h k; subst h k; exact h3
 | j + 3 => simp at h
theorem get_fn (s : ByteArray) (p : Int) (hs : s.size ≤ 1000000) : FnP Tryz.prog 117 [.str s, .int .i64 p] (.tup [.int .i64 (getN (bl s) p).1, .int .i64 (getN (bl s) p).2.1, .int .i64 (getN (bl s) p).2.2]) :=
 FnP.of_calls rfl (by simp) (by simp) fun w => (get_any s p w hs).mono fun e w' ⟨h1, h2⟩ => ⟨_, h1, h2 ▸ Below.refl _ _, VRep.tup3 (.int _ _) (.int _ _) (.int _ _)⟩
theorem putR_fn (n : Int) (h : -9223372036854775808 ≤ n ∧ n ≤ 9223372036854775807) : FnP Tryz.prog 163 [.int .i64 n] (.tup [.str (bs (putN n).1), .int .i64 (putN n).2]) :=
 FnP.of_calls rfl (by simp) (by simp) fun w => (put_ref n w h.1 h.2).mono fun e w' ⟨h1, h2⟩ => ⟨_, h1, h2, VRep.tup2 (.str _) (.int _ _)⟩
theorem getR_fn (s : ByteArray) (p : Int) (hs : s.size ≤ 1000000) : FnP Tryz.prog 105 [.str s, .int .i64 p] (.tup [.int .i64 (getN (bl s) p).1, .int .i64 (getN (bl s) p).2.1, .int .i64 (getN (bl s) p).2.2]) :=
 FnP.of_calls rfl (by simp) (by simp) fun w => (get_ref s p w hs).mono fun e w' ⟨h1, h2⟩ => ⟨_, h1, h2 ▸ Below.refl _ _, VRep.tup3 (.int _ _) (.int _ _) (.int _ _)⟩
/-! ### rows, step by step -/
def rowStep (a : List UInt8 × Int) (x : Int) : List UInt8 × Int := if a.2 = 0 then (a.1 ++ (putN x).1, (putN x).2) else a
def rowS (l : List Int) (k : Nat) : List UInt8 × Int := (l.take k).foldl rowStep ((putN l.length).1, 0)
theorem rowS_succ (l : List Int) (k : Nat) (h : k < l.length) : rowS l (k + 1) = rowStep (rowS l k) (l.getD k default) := by
 unfold rowS
 rw [List.take_succ_eq_append_getElem h, List.foldl_append]
 simp [List.getD, h]
theorem foldl_row (xs : List Int) : ∀ (b : List UInt8), (nneg xs = true → xs.foldl rowStep (b, 0) = (b ++ rowBytes xs, 0)) ∧ (nneg xs = false → (xs.foldl rowStep (b, 0)).2 = 2) := by
 have stuck : ∀ (xs : List Int) (a : List UInt8 × Int), a.2 ≠ 0 → xs.foldl rowStep a = a := by
   intro xs
   induction xs with
   | nil => intro a _; rfl
   | cons x xs ih => intro a ha; rw [List.foldl_cons, show rowStep a x = a from if_neg ha]; exact ih a ha
 induction xs with
 | nil => intro b; exact ⟨fun _ => by simp [rowBytes], fun h => by simp [nneg] at h⟩
 | cons x xs ih =>
   intro b
   rw [List.foldl_cons, show rowStep (b, 0) x = (b ++ (putN x).1, (putN x).2) from if_pos rfl]
   have hn : nneg (x :: xs) = (decide (0 ≤ x) && nneg xs) := rfl
   have hb : rowBytes (x :: xs) = (putN x).1 ++ rowBytes xs := rfl
   rw [putN_err]
   by_cases h : 0 ≤ x
   · rw [if_pos h, hn, decide_eq_true h, Bool.true_and, hb, ← List.append_assoc]
     exact ih (b ++ (putN x).1)
   · rw [if_neg h, hn, decide_eq_false h, Bool.false_and, stuck _ _ (by simp)]
     exact ⟨(fun h => by cases h), (fun _ => rfl)⟩
theorem rowS_all (l : List Int) : (if (rowS l l.length).2 = 0 then ((rowS l l.length).1, (0 : Int)) else ([], (rowS l l.length).2)) = rowN l := by
 have := foldl_row l (putN l.length).1
 unfold rowS rowN
 rw [List.take_length]
 cases h : nneg l with
 | true => rw [this.1 h]; simp
 | false => rw [if_neg (by rw [this.2 h]; decide), this.2 h]; simp
theorem rowS_len (l : List Int) (k : Nat) : (rowS l k).1.length ≤ 9 * (k + 1) := by
 have gen : ∀ (xs : List Int) (a : List UInt8 × Int), (xs.foldl rowStep a).1.length ≤ a.1.length + 9 * xs.length := by
   intro xs
   induction xs with
   | nil => intro a; simp
   | cons x xs ih =>
     intro a
     rw [List.foldl_cons]
     refine Nat.le_trans (ih _) ?_
     have : (rowStep a x).1.length ≤ a.1.length + 9 := by
       unfold rowStep
       split
       · simp; exact putN_len x
       · omega
     simp; omega
 have h1 := gen (l.take k) ((putN l.length).1, 0)
 have h2 := putN_len l.length
 have h3 : (l.take k).length ≤ k := by rw [List.length_take]; omega
 unfold rowS
 simp only at h1
 omega
theorem rowN_len (l : List Int) : (rowN l).1.length ≤ 9 * (l.length + 1) := by
 have := rowS_len l l.length
 rw [← rowS_all]
 split
 · exact this
 · simp
/-! ### what is got lies within -/
theorem getN_bd (l : List UInt8) (p : Int) (h : l.length ≤ 1000000) : 0 ≤ (getN l p).1 ∧ (getN l p).1 ≤ 9223372036854775807 ∧ 0 ≤ (getN l p).2.1 ∧ (getN l p).2.1 ≤ l.length := by
 unfold getN
 by_cases h0 : p < 0 ∨ (l.length : Int) < p
 · rw [if_pos h0]; dsimp only; omega
 rw [if_neg h0]
 by_cases h1 : p = l.length
 · rw [if_pos h1]; dsimp only; omega
 rw [if_neg h1]
 dsimp only
 have hb := (l.getD p.toNat 0).toNat_lt
 by_cases h2 : (l.getD p.toNat 0).toNat < 128
 · rw [if_pos h2]; dsimp only; omega
 rw [if_neg h2]
 by_cases h3 : (l.getD p.toNat 0).toNat - 128 < 1 ∨ 8 < (l.getD p.toNat 0).toNat - 128
 · rw [if_pos h3]; dsimp only; omega
 rw [if_neg h3]
 by_cases h4 : (l.length : Int) - p - 1 < ((l.getD p.toNat 0).toNat - 128 : Nat)
 · rw [if_pos h4]; dsimp only; omega
 rw [if_neg h4]
 have hg : ∀ m : List UInt8, 0 ≤ (greatN m).1 ∧ (greatN m).1 ≤ 9223372036854775807 := by
   intro m; unfold greatN
   split
   · simp
   · split
     · simp
     · dsimp only; omega
 by_cases h5 : (greatN ((l.drop (p.toNat + 1)).take ((l.getD p.toNat 0).toNat - 128))).2 ≠ 0
 · rw [if_pos h5]; dsimp only; omega
 · rw [if_neg h5]; have := hg ((l.drop (p.toNat + 1)).take ((l.getD p.toNat 0).toNat - 128)); dsimp only; omega
theorem unrow_step (l : List UInt8) (k : Nat) (to : Int) (acc : List Int) : unrowF l (k + 1) to acc = if (getN l to).2.2 ≠ 0 then ([], 0, (getN l to).2.2) else unrowF l k (getN l to).2.1 (acc ++ [(getN l to).1]) := rfl
end Go.Proofs.YtcndnllmlhhjiaaGreatDoor
