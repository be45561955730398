/- The texts that the law TopDecode rests on, part 2: AmMore, AmErr, AmObj, AmTys, ErrLib, AmErrF, Bytes, Shelf, NumPlain, NumWalk, AmBld, NumAm, AmNum, NumPlain2, TextPlain, TextLaw. -/
import Derived.Test.YtnlpojjfkgnhhaaGreatDoorTpD1
import Derived.Laws.Externs
import Derived.LaidEql
import Derived.WideLaws
import Derived.Stop.Asserts
import Derived.Laws.BytesString
import Derived.Lib.ReflectliteSlice
import Derived.Shelf.Strings.Builder1
import Derived.Shelf.Small.Bits
import Derived.Shelf.Strconv.Itoa0
import Derived.Test.YtnlpojjfkgnhhaaGreatDoorProg
import Derived.Lib.BitFns
import Derived.Laws.MakeOwn
import Derived.Lib.UnsafeStr
open Go.Proofs.Tryz renaming underlying3 → U3, underlying4 → U4, underlying5 → U5, underlying9 → U9, underlying20 → U20, underlying24 → U24, underlying26 → U26, underlying28 → U28, underlying31 → U31, underlying44 → U44, underlying49 → U49, underlying83 → U83, underlying85 → U85, underlying86 → U86, underlying101 → U101, underlying125 → U125, underlying127 → U127, underlying129 → U129, underlying133 → U133, underlying136 → U136, underlying139 → U139, underlying193 → U193, underlying203 → U203, underlying206 → U206, underlying207 → U207, underlying210 → U210, underlying213 → U213, underlying214 → U214, underlying232 → U232, underlying237 → U237
set_option linter.unusedVariables false
set_option linter.unusedSimpArgs false
set_option maxRecDepth 100000
set_option maxHeartbeats 1000000
namespace Go.Proofs.YtnlpojjfkgnhhaaGreatDoor
open Go.RowKit
def litV : AV → Value
 | .int k n => .int k n
 | .bool b => .bool b
 | .str s => .string s
 | _ => undef
def litOk : AV → Bool
 | .int _ _ => true
 | .bool _ => true
 | .str _ => true
 | _ => false
theorem VRep.litV {β : List Hd} {w : World} {u : Value} {x : AV} (h : VRep β w u x) (hx : litOk x = true) : u = litV x := by
 cases x <;> first | exact h.int_inv | exact h.bool_inv | exact h.str_inv | cases hx
section
variable {P : Program} {ops : Array Oper} {n m : Nat} {QQ : List Kd → Sl → List AO → Prop} {l : List Oper} {ks : List Kd} {σ : Sl} {G L H : List AO} {o : Oper} {gd : Bool}
theorem ARun.minmax3 {x y z : Operand} {b : Builtin} {ts : Array TypeId} {k : IntKind} {i j q r : Int} {Y : AV} {d : Option Tmp} (ho : o.op = .call { callee := .builtin b, args := #[x, y, z], argTypes := ts }) (hd : o.dst = d) (hn : dstLt n d = true) (hG : gdS ops σ o.guard = some gd)
   (hx : Ev gd σ x (.int k i)) (hy : Ev gd σ y (.int k j)) (hz : Ev gd σ z (.int k q)) (hb : (b = .min ∧ r = min (min i j) q) ∨ (b = .max ∧ r = max (max i j) q)) (hY : optA o.guard gd (.int k r) = Y)
   (hr : ARun P ops n QQ l (ks ++ [.pure]) (putS σ d Y) H) : ARun P ops n QQ (o :: l) ks σ H := by
 refine ARun.same hd hn hG hY (fun hg a W β hl => ⟨.int k r, ?_, .int _ _⟩) hr
 have h1 := (hx.rep hg hl (by simp [ho, Op.operands, Call.operands])).int_inv
 have h2 := (hy.rep hg hl (by simp [ho, Op.operands, Call.operands])).int_inv
 have h3 := (hz.rep hg hl (by simp [ho, Op.operands, Call.operands])).int_inv
 rcases hb with ⟨rfl, rfl⟩ | ⟨rfl, rfl⟩
 · have e1 : (if j < i then j else i) = min i j := by omega
   have e2 : (if q < min i j then q else min i j) = min (min i j) q := by omega
   have hm : (Builtin.min_ ts o.type #[.int k i, .int k j, .int k q]).run P W = .ok (.int k (min (min i j) q)) W := by simp [go_sem, e1, e2]
   simp [execOp, ho, resolve, h1, h2, h3, invoke, builtin, hm]
 have e1 : (if i < j then j else i) = max i j := by omega
 have e2 : (if max i j < q then q else max i j) = max (max i j) q := by omega
 have hm : (Builtin.max_ ts o.type #[.int k i, .int k j, .int k q]).run P W = .ok (.int k (max (max i j) q)) W := by simp [go_sem, e1, e2]
 simp [execOp, ho, resolve, h1, h2, h3, invoke, builtin, hm]
end
section
variable {P : Program} {ops : Array Oper} {n m : Nat} {QQ : List Kd → Sl → List AO → Prop} {l : List Oper} {ks : List Kd} {σ : Sl} {G L H : List AO} {o : Oper} {gd : Bool}
theorem ARun.buildNil {t e : TypeId} {z j p : Nat} {parts : Array (Nat × Operand)} {ps : List (Nat × AV)} {zv : Value} {C : List AV} {Y : AV} {d : Option Tmp} (hm : GOK m G) (hj : L.length = j) (ho : o.op = .build t parts) (hd : o.dst = d) (hn : dstLt n d = true) (hg : gdS ops σ o.guard = some true)
   {pl : List (Nat × Nat)} (hst : StOk P t zv pl) (hp : zv.cells[p]? = some (.slice none 0 0))
   (hx : EvP true σ parts.toList ps) (hs : (ps.all fun p => shaped p.2) = true) (hC : fillA (fun i => pl[i]?) ((zv.cells.toList.map cAV).set p (.own (m + j) 0)) ps = some C) (hY : optA o.guard true (.agg C) = Y)
   (hr : ARun P ops n QQ l (ks ++ [.new]) (putS σ d Y) (G ++ (L ++ [.row 0 e z []]))) : ARun P ops n QQ (o :: l) ks σ (G ++ L) := by
 refine ARun.new (E := [.row 0 e z []]) hd hn hg hY (fun H0 hl0 a W β hHr hl => ?_) (by rw [List.append_assoc]; exact hr)
 obtain ⟨fields, hu, hz, hinfo, hpl⟩ := hst
 change placesOf P fields.toList = pl at hpl
 subst hpl
 have hlen : β.length = m + j := by rw [hHr.len, hl0, List.length_append, hm.1, hj]
 have hsn := hHr.snoc (w' := W) (Below.refl _ _) (x := .row (.slice none 0 0) 0) (o := .row 0 e z []) ⟨rfl, [], World.ownsRow_nil W 0 e z, (fun x hx => by cases hx), (fun q u y h1 => by simp at h1)⟩ (fun b hb => by simp [Hd.blks, Value.ownBlock] at hb)
 have hown : VRep (β ++ [.row (.slice none 0 0) 0]) W (.slice none 0 0) (.own (m + j) 0) := by
   refine .own _ _ _ (by rw [List.length_append, hlen]; simp) (fun u g' hb => ?_)
   rw [List.getElem?_append_right (by omega), hlen, Nat.sub_self] at hb
   cases hb; exact ⟨Nat.le_refl _, fun _ => rfl⟩
 have hcr : CRep (β ++ [.row (.slice none 0 0) 0]) W zv.cells ((zv.cells.toList.map cAV).set p (.own (m + j) 0)) := by
   refine ⟨by simp, fun q u x h1 h2 => ?_⟩
   have hpl' : p < zv.cells.size := (Array.getElem?_eq_some_iff.1 hp).1
   by_cases e1 : p = q
   · subst e1
     rw [List.getElem?_set_self (by simpa using hpl')] at h2
     cases h2
     rw [hp] at h1; cases h1
     exact hown
   rw [List.getElem?_set_ne e1, List.getElem?_map, Array.getElem?_toList, h1] at h2
   cases h2; exact cAV_rep _ _ _
 obtain ⟨vs', h1, h2⟩ := fill_rep (β := β ++ [.row (.slice none 0 0) 0]) (w := W) (a := a) (fun i => (placesOf P fields.toList)[i]?) parts.toList ps hx (fun x hx' X hX => (EvP.looks rfl hl (by simp [ho, Op.operands]) x hx' X hX).ext hsn.1) hs _ _ C hcr hC
 refine ⟨.agg vs', W, _, ?_, hsn.1, hsn.2, .agg _ _ h2.1 h2.2⟩
 have h3 := places_run (P := P) (w := W) fields.toList hinfo
 have h4 : (fields.mapM (m := Sem) fun f => do pure (f.offset, ← sizeOf f.type)).run P W = .ok (placesOf P fields.toList).toArray W := by
   rw [Array.mapM_eq_mapM_toList]
   have h3' : (List.mapM (m := Sem) (fun f : Field => Prod.mk f.offset <$> sizeOf f.type) fields.toList).run P W = .ok (placesOf P fields.toList) W := by simpa using h3
   simp [h3']
 have h4' : (Array.mapM (m := Sem) (fun f : Field => Prod.mk f.offset <$> sizeOf f.type) fields).run P W = .ok (placesOf P fields.toList).toArray W := by simpa using h4
 have h6 : (Instr.build t (parts.map fun (i, x) => (i, a.eval x))).run P W = .ok (.agg vs') W := by
   unfold Instr.build
   simp only [Sem.run_bind, hz.run, run_underlying hu]
   simp [h4', h1]
 simp only [execOp, ho]
 simp [h6]
end
theorem AWP.frzIn {P : Program} {n m : Nat} {c : Code} {Q : QA} {σ : Sl} {G L : List AO} {j q p g : Nat} {e : TypeId} {z : Nat} {xs cs : List AV} {L' : List AO} (hm : GOK m G) (hj : L[j]? = some (.row g e z xs)) (hml : xs.length ≤ maxLen) (hq : L[q]? = some (.box cs)) (hp : cs[p]? = some (.own (m + j) g)) (hL : (L.set j .dead).set q (.box (cs.set p (.sl xs))) = L')
   (h : AWP P n m c Q σ G L') : AWP P n m c Q σ G L := by
 intro D a W β hmG hn hd hHr hs0
 have hjq : j ≠ q := by intro e; subst e; rw [hj] at hq; cases hq
 have hiH : (G ++ L)[m + j]? = some (.row g e z xs) := by rw [hm.at]; exact hj
 have hiq : (G ++ L)[m + q]? = some (.box cs) := by rw [hm.at]; exact hq
 obtain ⟨hlt, v, hβ⟩ : m + j < β.length ∧ ∃ v, β[m + j]? = some (.row v g) := by
   have hlt : m + j < β.length := by rw [hHr.len]; exact (List.getElem?_eq_some_iff.1 hiH).1
   refine ⟨hlt, ?_⟩
   have ho := hHr.ob _ _ _ hiH (List.getElem?_eq_getElem hlt)
   cases hb : β[m + j] with
   | box b => rw [hb] at ho; exact ho.elim
   | dead => rw [hb] at ho; exact ho.elim
   | guard b => rw [hb] at ho; exact ho.elim
   | map b => rw [hb] at ho; exact ho.elim
   | bld b v => rw [hb] at ho; exact ho.elim
   | row v' g' => rw [hb] at ho; obtain ⟨rfl, _⟩ := ho; exact ⟨v', by rw [List.getElem?_eq_getElem hlt, hb]⟩
 have hdead := hHr.change hβ (x' := .dead) (o := .dead) trivial (fun _ e => by cases e) rfl rfl rfl (Nat.le_refl _) (fun _ _ _ => rfl) (fun b hb => by cases hb) (fun _ => trivial)
 obtain ⟨hext, hH1⟩ := hdead
 have hrow : ∀ u, VRep β W u (.own (m + j) g) → VRep (β.set (m + j) .dead) W u (.sl xs) := by
   intro u hu
   refine row_reads hHr hiH hu (fun b hb x hx e5 => ?_) (.inl hext)
   obtain ⟨us, k1, _⟩ := hu.own_at hHr hiH
   obtain ⟨k, hk, rfl⟩ := List.mem_iff_getElem.1 hx
   have hk2 : (β.set (m + j) .dead)[k]? = some ((β.set (m + j) .dead)[k]) := List.getElem?_eq_getElem hk
   by_cases e : m + j = k
   · subst e; rw [List.getElem_set_self] at e5; cases e5
   rw [List.getElem?_set_ne e] at hk2
   exact hHr.ap _ _ _ _ b e k1 hk2 (opt_mem.2 hb) e5
 have hH2 : HRel (β.set (m + j) .dead) (G ++ L') W := by
   have e1 : G ++ L' = ((G ++ L).set (m + j) .dead).set (m + q) (.box (cs.set p (.sl xs))) := by rw [hm.set, hm.set, hL]
   rw [e1]
   refine ⟨hH1.gl, by rw [hH1.len]; simp, fun i o x h1 h2 => ?_, hH1.ap⟩
   by_cases e : m + q = i
   · subst e
     have hltq : m + q < ((G ++ L).set (m + j) .dead).length := by rw [List.length_set]; exact (List.getElem?_eq_some_iff.1 hiq).1
     rw [List.getElem?_set_self hltq] at h1
     cases h1
     have hold : ((G ++ L).set (m + j) .dead)[m + q]? = some (.box cs) := by rw [List.getElem?_set_ne (by omega)]; exact hiq
     have ho := hH1.ob _ _ _ hold h2
     have hrep : ∀ (arr : Array Value), arr.size = cs.length → (∀ (k : Nat) (u : Value) (y : AV), arr[k]? = some u → cs[k]? = some y → VRep β W u y) → ∀ (k : Nat) (u : Value) (y : AV), arr[k]? = some u → (cs.set p (.sl xs))[k]? = some y → VRep (β.set (m + j) .dead) W u y := by
       intro arr hsz hr k u y h3 h4
       by_cases e : p = k
       · subst e
         rw [List.getElem?_set_self (List.getElem?_eq_some_iff.1 hp).1] at h4
         cases h4
         exact hrow u (hr _ u _ h3 hp)
       rw [List.getElem?_set_ne e] at h4
       exact (hr k u y h3 h4).ext hext
     have h2' : β[m + q]? = some x := by rw [List.getElem?_set_ne (by omega)] at h2; exact h2
     have ho0 := hHr.ob _ _ _ hiq h2'
     cases x with
     | box b =>
       obtain ⟨arr, T, k1, k2, k3, k4⟩ := ho0
       refine ⟨arr, T, k1, by simpa using k2, hrep arr k2 k3, ?_⟩
       rw [List.all_eq_true] at k4 ⊢
       intro y hy
       rcases List.mem_or_eq_of_mem_set hy with hy | rfl
       · exact k4 y hy
       rfl
     | bld b v =>
       obtain ⟨arr, T, k1, k2, k3, e', s', q1, q2, q3⟩ := ho0
       refine ⟨arr, T, k1, by simpa using k2, hrep arr k2 k3, e', s', ?_, ?_, q3⟩
       · rw [List.getElem?_set_ne]; exact q1
         intro e; subst e; rw [hp] at q1; cases q1
       rw [List.getElem?_set_ne]; exact q2
       intro e; subst e; rw [hp] at q2; cases q2
     | row v g => exact ho0.elim
     | dead => exact ho0.elim
     | guard bs => exact ho0.elim
     | map b => exact ho0.elim
   rw [List.getElem?_set_ne e] at h1
   exact hH1.ob i o x h1 h2
 refine Code.wp_mono (fun e a' W' hp => hp.ext hext) (h D a W _ hmG hn hd hH2 fun t X ht => ?_)
 obtain ⟨u, k1, k2⟩ := hs0 t X ht
 exact ⟨u, k1, k2.ext hext⟩
end Go.Proofs.YtnlpojjfkgnhhaaGreatDoor
namespace Go.Proofs.YtnlpojjfkgnhhaaGreatDoor
open Go.RowKit
theorem VRep.ifc_inv {β : List Hd} {w : World} {v : Value} {t : TypeId} {X : AV} (h : VRep β w v (.ifc t X)) : ∃ u, v = .iface t u ∧ VRep β w u X := by
 cases h with
 | ifc _ u _ h => exact ⟨u, rfl, h⟩
theorem VRep.pe_inv {β : List Hd} {w : World} {v : Value} {cs : List AV} (h : VRep β w v (.pe cs)) : ∃ b off, v = .pointer (some ⟨b, off, none⟩) ∧ b < w.heap.size ∧ Still β b ∧ ∀ (j : Nat) (y : AV), cs[j]? = some y → ∃ u, w.cell? ⟨b, off + j, none⟩ = some u ∧ VRep β w u y := by
 cases h with
 | pe b off _ hb hS hd h =>
   refine ⟨b, off, rfl, hb, hS, fun j y hy => ?_⟩
   obtain ⟨u, hu⟩ := hd j y hy
   exact ⟨u, hu, h j y u hy hu⟩
theorem VRep.agg_inv {β : List Hd} {w : World} {v : Value} {cs : List AV} (h : VRep β w v (.agg cs)) : ∃ vs, v = .agg vs ∧ vs.size = cs.length ∧ ∀ (j : Nat) (u : Value) (x : AV), vs[j]? = some u → cs[j]? = some x → VRep β w u x := by
 cases h with
 | agg vs _ hl h => exact ⟨vs, rfl, hl, h⟩
theorem VRep.agg1 {β : List Hd} {w : World} {v : Value} {a : AV} (h : VRep β w v (.agg [a])) : ∃ u, v = .agg #[u] ∧ VRep β w u a := by
 obtain ⟨vs, rfl, hl, h⟩ := h.agg_inv
 have h0 : vs[0]? = some (vs[0]'(by simp [hl])) := Array.getElem?_eq_getElem _
 refine ⟨vs[0]'(by simp [hl]), ?_, h 0 _ _ h0 rfl⟩
 congr 1
 exact Array.ext (by simpa using hl) fun i h1 h2 => by
   have : i = 0 := by simp at h2; omega
   subst this; rfl
theorem VRep.agg3 {β : List Hd} {w : World} {v : Value} {a b c : AV} (h : VRep β w v (.agg [a, b, c])) : ∃ x y z, v = .agg #[x, y, z] ∧ VRep β w x a ∧ VRep β w y b ∧ VRep β w z c := by
 obtain ⟨vs, rfl, hl, h⟩ := h.agg_inv
 simp at hl
 have g : ∀ j (hj : j < vs.size), vs[j]? = some vs[j] := fun j hj => Array.getElem?_eq_getElem hj
 refine ⟨vs[0], vs[1], vs[2], ?_, h 0 _ _ (g 0 (by omega)) rfl, h 1 _ _ (g 1 (by omega)) rfl, h 2 _ _ (g 2 (by omega)) rfl⟩
 congr 1
 exact Array.ext (by simpa using hl) fun i h1 h2 => by
   have : i = 0 ∨ i = 1 ∨ i = 2 := by simp at h2; omega
   rcases this with rfl | rfl | rfl <;> rfl
theorem VRep.mk1 {β : List Hd} {w : World} {u : Value} {a : AV} (h : VRep β w u a) : VRep β w (.agg #[u]) (.agg [a]) :=
 .agg _ _ rfl fun j u' x h1 h2 => by
   cases j with
   | zero => simp at h1 h2; subst h1 h2; exact h
   | succ j => simp at h1
theorem VRep.mk3 {β : List Hd} {w : World} {x y z : Value} {a b c : AV} (h1 : VRep β w x a) (h2 : VRep β w y b) (h3 : VRep β w z c) : VRep β w (.agg #[x, y, z]) (.agg [a, b, c]) :=
 .agg _ _ rfl fun j u' q k1 k2 => by
   match j with
   | 0 => simp at k1 k2; subst k1 k2; exact h1
   | 1 => simp at k1 k2; subst k1 k2; exact h2
   | 2 => simp at k1 k2; subst k1 k2; exact h3
   | j + 3 => simp at k1
theorem VRep.tup2 {β : List Hd} {w : World} {x y : Value} {a b : AV} (h1 : VRep β w x a) (h2 : VRep β w y b) : VRep β w (.tuple #[x, y]) (.tup [a, b]) :=
 .tup _ _ rfl fun j u' q k1 k2 => by
   match j with
   | 0 => simp at k1 k2; subst k1 k2; exact h1
   | 1 => simp at k1 k2; subst k1 k2; exact h2
   | j + 2 => simp at k1
def nilA : AV → Option Bool
 | .raw .nilIface => some true
 | .ifc _ _ => some false
 | _ => none
def nilP : AV → Option Bool
 | .raw (.pointer none) => some true
 | .pe _ => some false
 | _ => none
theorem nilA_val {β : List Hd} {w : World} {v : Value} {X : AV} {b : Bool} (h : VRep β w v X) (hb : nilA X = some b) : (b = true ∧ v = .nilIface) ∨ (b = false ∧ ∃ t u, v = .iface t u) := by
 unfold nilA at hb
 split at hb
 · cases hb; exact .inl ⟨rfl, h.raw_inv⟩
 · cases hb; obtain ⟨u, rfl, _⟩ := h.ifc_inv; exact .inr ⟨rfl, _, _, rfl⟩
 cases hb
theorem nilP_val {β : List Hd} {w : World} {v : Value} {X : AV} {b : Bool} (h : VRep β w v X) (hb : nilP X = some b) : (b = true ∧ v = .pointer none) ∨ (b = false ∧ ∃ a, v = .pointer (some a)) := by
 unfold nilP at hb
 split at hb
 · cases hb; exact .inl ⟨rfl, h.raw_inv⟩
 · cases hb; obtain ⟨b, off, rfl, _⟩ := h.pe_inv; exact .inr ⟨rfl, _, rfl⟩
 cases hb
theorem eqIn_ptr (P : Program) (W : World) {t e : TypeId} (hu : P.underlying t = some (.pointer e)) (a : Option Addr) (d : Nat) : (Op.equalIn (d + 1) t (.pointer a) (.pointer none)).run P W = .ok a.isNone W := by
 cases a <;> simp [Op.equalIn, run_underlying hu]
theorem eqIn_nil (P : Program) (W : World) {t : TypeId} {ms : Array (String × TypeId)} (hu : P.underlying t = some (.interface ms)) {v : Value} {b : Bool} (h : (b = true ∧ v = .nilIface) ∨ (b = false ∧ ∃ t u, v = .iface t u)) (d : Nat) : (Op.equalIn (d + 1) t v .nilIface).run P W = .ok b W := by
 rcases h with ⟨rfl, rfl⟩ | ⟨rfl, t', u, rfl⟩ <;> simp [Op.equalIn, run_underlying hu]
theorem eqIn_other (P : Program) (W : World) {ti t t' : TypeId} {ms : Array (String × TypeId)} (hu : P.underlying ti = some (.interface ms)) (hne : t ≠ t') (u v : Value) (d : Nat) : (Op.equalIn (d + 1) ti (.iface t u) (.iface t' v)).run P W = .ok false W := by
 simp [Op.equalIn, run_underlying hu, hne]
theorem eqIn_int (P : Program) (W : World) {ti tn : TypeId} {ms : Array (String × TypeId)} {k : IntKind} (a b : Int)
   (hi : P.underlying ti = some (.interface ms)) (hn : P.underlying tn = some (.int k)) (hcomp : (P.info? tn).map (·.comparable) = some true) (d : Nat) :
   (Op.equalIn (d + 2) ti (.iface tn (.int k a)) (.iface tn (.int k b))).run P W = .ok (decide (a = b)) W := by
 obtain ⟨i, hinfo, hc⟩ := Option.map_eq_some_iff.1 hcomp
 simp [Op.equalIn, run_underlying hi, run_underlying hn, typeInfo, hinfo, hc, ibeq]
theorem run_eqlP_none (P : Program) (W : World) {t e : TypeId} (hu : P.underlying t = some (.pointer e)) (a : Option Addr) : (binOp .eql t (.pointer a) (.pointer none)).run P W = .ok (.bool a.isNone) W := by
 simp only [binOp]
 simp [Op.equal, Op.maxDepth, eqIn_ptr P W hu a 9999]
theorem run_neqP_none (P : Program) (W : World) {t e : TypeId} (hu : P.underlying t = some (.pointer e)) (a : Option Addr) : (binOp .neq t (.pointer a) (.pointer none)).run P W = .ok (.bool (!a.isNone)) W := by
 simp only [binOp]
 simp [Op.equal, Op.maxDepth, eqIn_ptr P W hu a 9999]
theorem run_eqlI_nil (P : Program) (W : World) {t : TypeId} {ms : Array (String × TypeId)} (hu : P.underlying t = some (.interface ms)) {v : Value} {b : Bool} (h : (b = true ∧ v = .nilIface) ∨ (b = false ∧ ∃ t u, v = .iface t u)) : (binOp .eql t v .nilIface).run P W = .ok (.bool b) W := by
 have h1 := eqIn_nil P W hu h 9999
 have h2 : (Op.equal t v .nilIface).run P W = .ok b W := by simpa [Op.equal, Op.maxDepth] using h1
 rcases h with ⟨rfl, rfl⟩ | ⟨rfl, t', u, rfl⟩ <;> simp only [binOp] <;> simp [h2]
theorem run_neqI_nil (P : Program) (W : World) {t : TypeId} {ms : Array (String × TypeId)} (hu : P.underlying t = some (.interface ms)) {v : Value} {b : Bool} (h : (b = true ∧ v = .nilIface) ∨ (b = false ∧ ∃ t u, v = .iface t u)) : (binOp .neq t v .nilIface).run P W = .ok (.bool (!b)) W := by
 have h1 := eqIn_nil P W hu h 9999
 have h2 : (Op.equal t v .nilIface).run P W = .ok b W := by simpa [Op.equal, Op.maxDepth] using h1
 rcases h with ⟨rfl, rfl⟩ | ⟨rfl, t', u, rfl⟩ <;> simp only [binOp] <;> simp [h2]
theorem run_eqlI_other (P : Program) (W : World) {ti t t' : TypeId} {ms : Array (String × TypeId)} (hu : P.underlying ti = some (.interface ms)) (hne : t ≠ t') (u v : Value) : (binOp .eql ti (.iface t u) (.iface t' v)).run P W = .ok (.bool false) W := by
 simp only [binOp]
 simp [Op.equal, Op.maxDepth, eqIn_other P W hu hne u v 9999]
theorem run_eqlI_int (P : Program) (W : World) {ti tn : TypeId} {ms : Array (String × TypeId)} {k : IntKind} (a b : Int)
   (hi : P.underlying ti = some (.interface ms)) (hn : P.underlying tn = some (.int k)) (hcomp : (P.info? tn).map (·.comparable) = some true) :
   (binOp .eql ti (.iface tn (.int k a)) (.iface tn (.int k b))).run P W = .ok (.bool (decide (a = b))) W := by
 simp only [binOp]
 simp [Op.equal, Op.maxDepth, eqIn_int P W a b hi hn hcomp 9998]
def FnX (P : Program) (f : FuncId) (args : List AV) (H : List AO) (r : AV) (H' : List AO) : Prop :=
 ∀ (w : World) (β : List Hd) (vs : Array Value), HRel β H w → VReps β w vs args →
   ∃ v w' β', (callFunc f vs).run P w = .ok (.value v) w' ∧ Ext β w β' w' ∧ HRel β' H' w' ∧ VRep β' w' v r
def FnXP (P : Program) (f : FuncId) (args : List AV) (r : AV) : Prop :=
 ∀ (w : World) (β : List Hd) (vs : Array Value), (∀ h, h ∈ β → ∀ b, b ∈ h.blks → b < w.heap.size) → VReps β w vs args →
   ∃ v w', (callFunc f vs).run P w = .ok (.value v) w' ∧ Below w.heap.size w w' ∧ VRep β w' v r
theorem VReps.lits {β : List Hd} {w : World} {vs : Array Value} {xs : List AV} (h : VReps β w vs xs) (hx : xs.all litOk = true) : vs = (xs.map litV).toArray := by
 refine Array.ext (by simpa using h.1) fun i h1 h2 => ?_
 have hi : i < xs.length := by rw [← h.1]; exact h1
 have := (h.2 i _ _ (Array.getElem?_eq_getElem h1) (List.getElem?_eq_getElem hi)).litV (List.all_eq_true.1 hx _ (List.getElem_mem hi))
 simpa using this
theorem FnP.of_calls {P : Program} {F : FuncId} {args : List AV} {r : AV} (hx : args.all litOk = true) (hr : NoH 0 r) (hf : Flat r) (h : ∀ w, Calls P F (args.map litV).toArray w fun e w' => ∃ v, e = .returned v ∧ Below w.heap.size w w' ∧ VRep [] w' v r) : FnP P F args r := by
 refine ⟨hr, fun k w β vs hH hv => ?_⟩
 rw [hv.lits hx]
 refine (h w).mono ?_
 rintro e w' ⟨v, rfl, hb, hv2⟩
 refine ⟨v, β, rfl, Ext.of_below β hb, hH.below hb, ?_⟩
 exact hv2.flat hf
def Inv (P : Program) (X : AV) (name : String) (F : FuncId) (X' : AV) : Prop :=
 ∀ (W : World) (β : List Hd) (u : Value), VRep β W u X → ∃ t v v', u = .iface t v ∧ (method (P.types.size + Made.depth) t v name).run P W = .ok (F, v') W ∧ VRep β W v' X'
theorem VReps.cons {β : List Hd} {w : World} {v : Value} {x : AV} {vs : Array Value} {xs : List AV} (h : VRep β w v x) (t : vs.toList.length = xs.length ∧ ∀ (j : Nat) (u : Value) (x : AV), vs.toList[j]? = some u → xs[j]? = some x → VRep β w u x) : VReps β w (#[v] ++ vs) (x :: xs) := by
 have hl : vs.size = xs.length := by simpa using t.1
 refine ⟨by simp [hl]; omega, fun j u y h1 h2 => ?_⟩
 rw [← Array.getElem?_toList] at h1
 simp only [Array.toList_append, List.singleton_append] at h1
 cases j with
 | zero => simp at h1 h2; subst h1 h2; exact h
 | succ j => exact t.2 j u y (by simpa using h1) (by simpa using h2)
theorem VReps.two {β : List Hd} {w : World} {vs : Array Value} {x y : AV} (h : VReps β w vs [x, y]) : ∃ a b, vs = #[a, b] ∧ VRep β w a x ∧ VRep β w b y := by
 obtain ⟨hl, h⟩ := h
 simp at hl
 have g : ∀ j (hj : j < vs.size), vs[j]? = some vs[j] := fun j hj => Array.getElem?_eq_getElem hj
 refine ⟨vs[0], vs[1], ?_, h 0 _ _ (g 0 (by omega)) rfl, h 1 _ _ (g 1 (by omega)) rfl⟩
 exact Array.ext (by simpa using hl) fun i h1 h2 => by
   have : i = 0 ∨ i = 1 := by simp at h2; omega
   rcases this with rfl | rfl <;> rfl
theorem VReps.single {β : List Hd} {w : World} {vs : Array Value} {x : AV} (h : VReps β w vs [x]) : ∃ a, vs = #[a] ∧ VRep β w a x := by
 obtain ⟨hl, h⟩ := h
 simp at hl
 have g : ∀ j (hj : j < vs.size), vs[j]? = some vs[j] := fun j hj => Array.getElem?_eq_getElem hj
 refine ⟨vs[0], ?_, h 0 _ _ (g 0 (by omega)) rfl⟩
 exact Array.ext (by simpa using hl) fun i h1 h2 => by
   have : i = 0 := by simp at h2; omega
   subst this; rfl
section
variable {P : Program} {ops : Array Oper} {n m : Nat} {QQ : List Kd → Sl → List AO → Prop} {l : List Oper} {ks : List Kd} {σ : Sl} {G L H : List AO} {o : Oper} {gd : Bool}
theorem ARun.isNil {bo : BinOp} {x : Operand} {t1 t2 : TypeId} {ms : Array (String × TypeId)} {X : AV} {b r : Bool} {Y : AV} {d : Option Tmp} (ho : o.op = .binOp bo t1 x (.const .nilIface) t2) (hd : o.dst = d) (hn : dstLt n d = true) (hG : gdS ops σ o.guard = some gd)
   (hu : P.underlying t1 = some (.interface ms)) (hx : Ev gd σ x X) (hX : gd = true → nilA X = some b) (hb : bo = .eql ∧ r = b ∨ bo = .neq ∧ r = !b) (hY : optA o.guard gd (.bool r) = Y)
   (hr : ARun P ops n QQ l (ks ++ [.pure]) (putS σ d Y) H) : ARun P ops n QQ (o :: l) ks σ H := by
 refine ARun.same hd hn hG hY (fun hg a W β hl => ⟨.bool r, ?_, .bool _⟩) hr
 have h1 := nilA_val (hx.rep hg hl (by simp [ho, Op.operands])) (hX hg)
 have hgu : (eqGuard bo t1 x (.const .nilIface) (a.eval x) .nilIface).run P W = .ok () W := by
   rcases h1 with ⟨_, h⟩ | ⟨_, t, u, h⟩ <;> rw [h] <;> rcases hb with ⟨rfl, _⟩ | ⟨rfl, _⟩ <;> simp [eqGuard]
 have hc : a.eval (.const .nilIface) = .nilIface := rfl
 rcases hb with ⟨rfl, rfl⟩ | ⟨rfl, rfl⟩
 · simp [execOp, ho, hc, hgu, run_eqlI_nil P W hu h1]
 simp [execOp, ho, hc, hgu, run_neqI_nil P W hu h1]
theorem ARun.isNilP {bo : BinOp} {x : Operand} {t1 t2 e : TypeId} {X : AV} {b r : Bool} {Y : AV} {d : Option Tmp} (ho : o.op = .binOp bo t1 x (.const (.pointer none)) t2) (hd : o.dst = d) (hn : dstLt n d = true) (hG : gdS ops σ o.guard = some gd)
   (hu : P.underlying t1 = some (.pointer e)) (hx : Ev gd σ x X) (hX : gd = true → nilP X = some b) (hb : bo = .eql ∧ r = b ∨ bo = .neq ∧ r = !b) (hY : optA o.guard gd (.bool r) = Y)
   (hr : ARun P ops n QQ l (ks ++ [.pure]) (putS σ d Y) H) : ARun P ops n QQ (o :: l) ks σ H := by
 refine ARun.same hd hn hG hY (fun hg a W β hl => ⟨.bool r, ?_, .bool _⟩) hr
 have h1 := nilP_val (hx.rep hg hl (by simp [ho, Op.operands])) (hX hg)
 have hc : a.eval (.const (.pointer none)) = .pointer none := rfl
 have hgu : ∀ u, (eqGuard bo t1 x (.const (.pointer none)) u (.pointer none)).run P W = .ok () W := by
   intro u
   unfold eqGuard
   cases u <;> simp
 rcases h1 with ⟨rfl, h⟩ | ⟨rfl, p, h⟩ <;> rcases hb with ⟨rfl, rfl⟩ | ⟨rfl, rfl⟩
 · simp [execOp, ho, hc, h, hgu, run_eqlP_none P W hu]
 · simp [execOp, ho, hc, h, hgu, run_neqP_none P W hu]
 · simp [execOp, ho, hc, h, hgu, run_eqlP_none P W hu]
 simp [execOp, ho, hc, h, hgu, run_neqP_none P W hu]
theorem ARun.isNilBox {bo : BinOp} {x : Operand} {t1 t2 e : TypeId} {i off : Nat} {cs : List AV} {r : Bool} {Y : AV} {d : Option Tmp} (ho : o.op = .binOp bo t1 x (.const (.pointer none)) t2) (hd : o.dst = d) (hn : dstLt n d = true) (hG : gdS ops σ o.guard = some gd)
   (hu : P.underlying t1 = some (.pointer e)) (hx : Ev gd σ x (.box i off)) (hH : H[i]? = some (.box cs)) (hb : bo = .eql ∧ r = false ∨ bo = .neq ∧ r = true) (hY : optA o.guard gd (.bool r) = Y)
   (hr : ARun P ops n QQ l (ks ++ [.pure]) (putS σ d Y) H) : ARun P ops n QQ (o :: l) ks σ H := by
 refine ARun.same hd hn hG hY (fun hg a W β hl => ⟨.bool r, ?_, .bool _⟩) hr
 obtain ⟨b, h2, _⟩ := (hx.rep hg hl (by simp [ho, Op.operands])).box_inv
 have hc : a.eval (.const (.pointer none)) = .pointer none := rfl
 have hgu : ∀ u, (eqGuard bo t1 x (.const (.pointer none)) u (.pointer none)).run P W = .ok () W := by
   intro u
   unfold eqGuard
   cases u <;> simp
 rcases hb with ⟨rfl, rfl⟩ | ⟨rfl, rfl⟩
 · simp [execOp, ho, hc, h2, hgu, run_eqlP_none P W hu]
 simp [execOp, ho, hc, h2, hgu, run_neqP_none P W hu]
theorem ARun.binV {bo : BinOp} {x y : Operand} {t1 t2 : TypeId} {X Z R Y : AV} {d : Option Tmp} (ho : o.op = .binOp bo t1 x y t2) (hd : o.dst = d) (hn : dstLt n d = true) (hG : gdS ops σ o.guard = some gd)
   (hx : Ev gd σ x X) (hy : Ev gd σ y Z) (hb : gd = true → ∀ (W : World) (β : List Hd) (u v : Value), VRep β W u X → VRep β W v Z → (eqGuard bo t1 x y u v).run P W = .ok () W ∧ ∃ r, (binOp bo t1 u v).run P W = .ok r W ∧ VRep β W r R) (hY : optA o.guard gd R = Y)
   (hr : ARun P ops n QQ l (ks ++ [.pure]) (putS σ d Y) H) : ARun P ops n QQ (o :: l) ks σ H := by
 refine ARun.same hd hn hG hY (fun hg a W β hl => ?_) hr
 obtain ⟨h1, r, h2, h3⟩ := hb hg W β _ _ (hx.rep hg hl (by simp [ho, Op.operands])) (hy.rep hg hl (by simp [ho, Op.operands]))
 exact ⟨r, by simp [execOp, ho, h1, h2], h3⟩
theorem ARun.assertV {x : Operand} {xT I : TypeId} {ok : Bool} {X R Y : AV} {d : Option Tmp} (ho : o.op = .typeAssert x xT I ok) (hd : o.dst = d) (hn : dstLt n d = true) (hG : gdS ops σ o.guard = some gd)
   (hx : Ev gd σ x X) (hb : gd = true → ∀ (W : World) (β : List Hd) (u : Value), VRep β W u X → ∃ v, (Instr.typeAssert u xT I ok).run P W = .ok v W ∧ VRep β W v R) (hY : optA o.guard gd R = Y)
   (hr : ARun P ops n QQ l (ks ++ [.pure]) (putS σ d Y) H) : ARun P ops n QQ (o :: l) ks σ H := by
 refine ARun.same hd hn hG hY (fun hg a W β hl => ?_) hr
 obtain ⟨v, h2, h3⟩ := hb hg W β _ (hx.rep hg hl (by simp [ho, Op.operands]))
 exact ⟨v, by simp [execOp, ho, h2], h3⟩
theorem ARun.loadGlob {g : Nat} {t : TypeId} {u : TypeDesc} {v : Value} {X Y : AV} {d : Option Tmp} (ho : o.op = .load t (.global g)) (hd : o.dst = d) (hn : dstLt n d = true) (hG : gdS ops σ o.guard = some gd)
   (hu : P.underlying t = some u) (hA : isA u = false) (hm : (g, v) ∈ globs) (hv : ∀ (β : List Hd) (W : World), VRep β W v X) (hY : optA o.guard gd X = Y)
   (hr : ARun P ops n QQ l (ks ++ [.pure]) (putS σ d Y) H) : ARun P ops n QQ (o :: l) ks σ H := by
 subst hd; subst hY
 refine ⟨.pure, _, H, hn, ⟨rfl, fun G => OpStep.val hG (.inr rfl) (fun _ => trivial) fun hg a W β hHr hl => ⟨v, W, β, ?_, Ext.refl _ _, hHr, hv _ _⟩⟩, hr⟩
 have hc := (hHr.gl _ hm).1
 have h3 : (loadVar t ⟨g, 0, none⟩).run P W = .ok v W := by
   simp only [loadVar, Sem.run_bind, isAgg_run hu, hA]
   simp [hc]
 simp [execOp, ho, Act.eval, Instr.loadAt, Instr.sureAddr, h3]
theorem CRep.pe {β : List Hd} {W : World} {vs : Array Value} {cs : List AV} {T : TypeId} (hβ : ∀ h, h ∈ β → ∀ b, b ∈ h.blks → b < W.heap.size) (h : vs.size = cs.length ∧ ∀ (q : Nat) (u : Value) (y : AV), vs[q]? = some u → cs[q]? = some y → VRep β W u y) :
   VRep β (W.alloc (.cells vs T)) (.pointer (some ⟨W.heap.size, 0, none⟩)) (.pe cs) := by
 have hext : Ext β W β (W.alloc (.cells vs T)) := Ext.of_below β ((Below.refl _ _).alloc (Nat.le_refl _) _)
 have hcell : ∀ q, (W.alloc (.cells vs T)).cell? ⟨W.heap.size, q, none⟩ = vs[q]? := fun q => World.cell?_alloc_new _ _ _ _
 refine .pe W.heap.size 0 cs (by simp) (fun y hy e => by have := hβ y hy _ e; omega) (fun q y hq => ?_) (fun q y u hq hu => ?_)
 · have hlt : q < vs.size := by rw [h.1]; exact (List.getElem?_eq_some_iff.1 hq).1
   exact ⟨_, by rw [Nat.zero_add, hcell]; exact Array.getElem?_eq_getElem hlt⟩
 rw [Nat.zero_add, hcell] at hu
 exact (h.2 q u y hu hq).ext hext
theorem one_cells {X : AV} (h : X.one = true) : X.cells = [X] := by cases X <;> first | rfl | cases h
theorem one_shaped {X : AV} (h : X.one = true) : shaped X = true := by cases X <;> first | rfl | exact h
theorem ARun.storeL1 {x y : Operand} {t : TypeId} {j off : Nat} {cs cs' : List AV} {X : AV} {L' : List AO} (hm : GOK m G) (ho : o.op = .store t x y) (hd : o.dst = none) (hg : gdS ops σ o.guard = some true) (hz : Sz P t 1)
   (hx : Ev true σ x (.box (m + j) off)) (hy : Ev true σ y X) (hH : L[j]? = some (.box cs)) (hX : X.one = true)
   (hoff : off + 1 ≤ cs.length) (hcs : cs.take off ++ [X] ++ cs.drop (off + 1) = cs') (hL : L.set j (.box cs') = L')
   (hr : ARun P ops n QQ l (ks ++ [.write]) σ (G ++ L')) (hsp : ((cs.drop off).take 1).all AV.plainC = true := by first | rfl | exact plain_take rfl | exact plain_take (by simp [AV.plainC])) : ARun P ops n QQ (o :: l) ks σ (G ++ L) :=
 ARun.storeL hm ho hd hg hz hx hy hH (one_shaped hX) (one_cells hX) rfl (by simp [hX]) hoff hcs hL hr hsp
theorem ARun.boxPe {x : Operand} {t : TypeId} {X : AV} {C : List AV} {Y : AV} {d : Option Tmp} (ho : o.op = .box t x) (hd : o.dst = d) (hn : dstLt n d = true) (hG : gdS ops σ o.guard = some gd)
   (hx : Ev gd σ x X) (hC : X.cells = C) (hp : shaped X = true) (hY : optA o.guard gd (.pe C) = Y)
   (hr : ARun P ops n QQ l (ks ++ [.pure]) (putS σ d Y) H) : ARun P ops n QQ (o :: l) ks σ H := by
 refine ARun.valH hd hn hG hY (fun hg a W β hβ hl => ?_) hr
 have h0 := hx.rep hg hl (by simp [ho, Op.operands])
 generalize hv : a.eval x = v at h0
 subst hC
 refine ⟨.pointer (some ⟨W.heap.size, 0, none⟩), W.alloc (.cells v.cells t), ?_, (Below.refl _ _).alloc (Nat.le_refl _) _, CRep.pe hβ (h0.cells (shaped_spec hp))⟩
 simp [execOp, ho, hv, Instr.box, newVar, newRow]
theorem ARun.boxPe1 {x : Operand} {t : TypeId} {X : AV} {Y : AV} {d : Option Tmp} (ho : o.op = .box t x) (hd : o.dst = d) (hn : dstLt n d = true) (hG : gdS ops σ o.guard = some gd)
   (hx : Ev gd σ x X) (hX : X.one = true) (hY : optA o.guard gd (.pe [X]) = Y)
   (hr : ARun P ops n QQ l (ks ++ [.pure]) (putS σ d Y) H) : ARun P ops n QQ (o :: l) ks σ H :=
 ARun.boxPe ho hd hn hG hx (one_cells hX) (one_shaped hX) hY hr
def isU8 : AV → Bool | .int .u8 _ => true | _ => false
def byteOf : AV → UInt8 | .int _ n => UInt8.ofNat n.toNat | _ => 0
def bytesOf (xs : List AV) : ByteArray := ⟨(xs.map byteOf).toArray⟩
theorem push_foldl (ns : List Int) (s : ByteArray) : ns.foldl (fun r n => r.push (UInt8.ofNat n.toNat)) s = s ++ ⟨(ns.map fun n => UInt8.ofNat n.toNat).toArray⟩ := by
 induction ns generalizing s with
 | nil => apply ByteArray.ext; simp
 | cons n ns ih =>
   rw [List.foldl_cons, ih]
   apply ByteArray.ext; simp
theorem VRep.bytes {β : List Hd} {w : World} {P : Program} {v : Value} {xs : List AV} (h : VRep β w v (.sl xs)) (hx : xs.all isU8 = true) : (Conv.bytesToString v).run P w = .ok (.string (bytesOf xs)) w := by
 cases h with
 | slnil => rfl
 | slemp p cap hm => exact run_bytesToString w p 0 cap [] (by simp [loadCells, loadCellsFrom])
 | sl b off cap z _ hc hm hb hS hz hd h =>
   have hu : ∀ x, x ∈ xs → ∃ n, x = .int .u8 n := by
     intro x hx2
     have := List.all_eq_true.1 hx x hx2
     cases x <;> first | (rename_i k n; cases k <;> first | exact ⟨_, rfl⟩ | cases this) | cases this
   have hz1 : ∀ x, x ∈ xs → z = 1 := fun x hx2 => by
     obtain ⟨n, rfl⟩ := hu x hx2
     exact (hz _ hx2).symm
   have hns : xs = (xs.map fun | .int _ n => n | _ => 0).map (AV.int .u8) := by
     rw [List.map_map]
     refine (List.map_id _).symm.trans (List.map_congr_left fun x hx2 => ?_)
     obtain ⟨n, rfl⟩ := hu x hx2; rfl
   have hl := run_loadCells_list (P := P) (w := w) ⟨b, off, none⟩ ((xs.map fun | .int _ n => n | _ => 0).map (Value.int .u8)) (fun j u hj => by
     rw [List.getElem?_map, List.getElem?_map] at hj
     cases hxj : xs[j]? with
     | none => rw [hxj] at hj; cases hj
     | some x =>
       obtain ⟨n, rfl⟩ := hu x (List.mem_of_getElem? hxj)
       rw [hxj] at hj
       cases hj
       obtain ⟨u2, hu2⟩ := hd j 0 _ _ hxj rfl
       have h1 := (h j 0 _ _ u2 hxj rfl hu2).int_inv
       rw [hz1 _ (List.mem_of_getElem? hxj), Nat.mul_one, Nat.add_zero] at hu2
       rw [aadd, hu2, h1])
   rw [run_bytesToString w ⟨b, off, none⟩ xs.length cap (xs.map fun | .int _ n => n | _ => 0) (by simpa using hl), push_foldl]
   congr 2
   apply ByteArray.ext
   simp only [bytesOf, List.map_map]
   simp
   intro x hx2
   obtain ⟨n, rfl⟩ := hu x hx2; rfl
theorem ARun.quoI {x y : Operand} {t1 t2 : TypeId} {k : IntKind} {i j r : Int} {Y : AV} {d : Option Tmp} (ho : o.op = .binOp .quo t1 x y t2) (hd : o.dst = d) (hn : dstLt n d = true) (hG : gdS ops σ o.guard = some gd)
   (hx : Ev gd σ x (.int k i)) (hy : Ev gd σ y (.int k j)) (hj : gd = true → j ≠ 0) (hw : gd = true → k.wrap (i.tdiv j) = r) (hY : optA o.guard gd (.int k r) = Y)
   (hr : ARun P ops n QQ l (ks ++ [.pure]) (putS σ d Y) H) : ARun P ops n QQ (o :: l) ks σ H := by
 refine ARun.same hd hn hG hY (fun hg a W β hl => ⟨.int k r, ?_, .int _ _⟩) hr
 rw [← hw hg]
 have h1 := (hx.rep hg hl (by simp [ho, Op.operands])).int_inv
 have h2 := (hy.rep hg hl (by simp [ho, Op.operands])).int_inv
 have h3 := hj hg
 simp [execOp, ho, h1, h2, eqGuard, binOp, Op.intDiv, h3]
theorem ARun.remI {x y : Operand} {t1 t2 : TypeId} {k : IntKind} {i j : Int} {Y : AV} {d : Option Tmp} (ho : o.op = .binOp .rem t1 x y t2) (hd : o.dst = d) (hn : dstLt n d = true) (hG : gdS ops σ o.guard = some gd)
   (hx : Ev gd σ x (.int k i)) (hy : Ev gd σ y (.int k j)) (hj : gd = true → j ≠ 0) (hY : optA o.guard gd (.int k (i.tmod j)) = Y)
   (hr : ARun P ops n QQ l (ks ++ [.pure]) (putS σ d Y) H) : ARun P ops n QQ (o :: l) ks σ H := by
 refine ARun.same hd hn hG hY (fun hg a W β hl => ⟨.int k (i.tmod j), ?_, .int _ _⟩) hr
 have h1 := (hx.rep hg hl (by simp [ho, Op.operands])).int_inv
 have h2 := (hy.rep hg hl (by simp [ho, Op.operands])).int_inv
 have h3 := hj hg
 simp [execOp, ho, h1, h2, eqGuard, binOp, Op.intDiv, h3]
theorem ARun.callX {f : Operand} {args : Array Operand} {ats : Array TypeId} {F : FuncId} {xs : List AV} {r Y : AV} {d : Option Tmp} {H' : List AO} (ho : o.op = .call { callee := .value f, args := args, argTypes := ats }) (hd : o.dst = d) (hn : dstLt n d = true) (hG : gdS ops σ o.guard = some true)
   (hf : Ev true σ f (.fn (.func F) [] [])) (hx : EvL true σ args.toList xs) (hF : FnX P F xs H r H') (hY : optA o.guard true r = Y)
   (hr : ARun P ops n QQ l (ks ++ [.write]) (putS σ d Y) H') : ARun P ops n QQ (o :: l) ks σ H := by
 refine ARun.write hd hn hG hY (fun a W β hHr hl => ?_) hr
 have h0 := hf.rep rfl hl (by simp [ho, Op.operands, Call.operands])
 generalize hv : a.eval f = v at h0
 cases h0 with
 | fn _ us vs _ _ hl1 hl2 h1 h2 =>
   have ha := EvL.reps (β := β) (W := W) (a := a) hx (fun x hx X h => h.rep rfl hl (by simp only [ho, Op.operands, Call.operands]; exact Array.mem_append.2 (.inr (by simpa using hx))))
   obtain rfl : us = #[] := Array.eq_empty_of_size_eq_zero (by simpa using hl1)
   obtain rfl : vs = #[] := Array.eq_empty_of_size_eq_zero (by simpa using hl2)
   obtain ⟨v', w', β', k1, k2, k3, k4⟩ := hF W β (args.map a.eval) hHr ⟨by simpa using ha.1, fun j u x p q => ha.2 j u x (by simpa using p) q⟩
   refine ⟨v', w', β', ?_, k2, k3, k4⟩
   simp [execOp, ho, resolve, hv, Deferred.ofValue, invoke, k1]
theorem ARun.callXR {f : Operand} {args : Array Operand} {ats : Array TypeId} {F : FuncId} {xs : List AV} {r Y : AV} {d : Option Tmp} (ho : o.op = .call { callee := .value f, args := args, argTypes := ats }) (hd : o.dst = d) (hn : dstLt n d = true) (hG : gdS ops σ o.guard = some gd)
   (hf : Ev gd σ f (.fn (.func F) [] [])) (hx : EvL gd σ args.toList xs) (hF : gd = true → FnX P F xs H r H) (hY : optA o.guard gd r = Y)
   (hr : ARun P ops n QQ l (ks ++ [.read]) (putS σ d Y) H) : ARun P ops n QQ (o :: l) ks σ H := by
 subst hd; subst hY
 refine ⟨.read, _, H, hn, ⟨rfl, OpStep.val hG (.inr rfl) (fun _ => trivial) fun hg a W β hHr hl => ?_⟩, hr⟩
 have h0 := hf.rep hg hl (by simp [ho, Op.operands, Call.operands])
 generalize hv : a.eval f = v at h0
 cases h0 with
 | fn _ us vs _ _ hl1 hl2 h1 h2 =>
   have ha := EvL.reps (β := β) (W := W) (a := a) hx (fun x hx X h => h.rep hg hl (by simp only [ho, Op.operands, Call.operands]; exact Array.mem_append.2 (.inr (by simpa using hx))))
   obtain rfl : us = #[] := Array.eq_empty_of_size_eq_zero (by simpa using hl1)
   obtain rfl : vs = #[] := Array.eq_empty_of_size_eq_zero (by simpa using hl2)
   obtain ⟨v', w', β', k1, k2, k3, k4⟩ := hF hg W β (args.map a.eval) hHr ⟨by simpa using ha.1, fun j u x p q => ha.2 j u x (by simpa using p) q⟩
   refine ⟨v', w', β', ?_, k2, k3, k4⟩
   simp [execOp, ho, resolve, hv, Deferred.ofValue, invoke, k1]
theorem ARun.callXP {f : Operand} {args : Array Operand} {ats : Array TypeId} {F : FuncId} {xs : List AV} {r Y : AV} {d : Option Tmp} (ho : o.op = .call { callee := .value f, args := args, argTypes := ats }) (hd : o.dst = d) (hn : dstLt n d = true) (hG : gdS ops σ o.guard = some gd)
   (hf : Ev gd σ f (.fn (.func F) [] [])) (hx : EvL gd σ args.toList xs) (hF : gd = true → FnXP P F xs r) (hY : optA o.guard gd r = Y)
   (hr : ARun P ops n QQ l (ks ++ [.pure]) (putS σ d Y) H) : ARun P ops n QQ (o :: l) ks σ H := by
 refine ARun.valH hd hn hG hY (fun hg a W β hβ hl => ?_) hr
 have h0 := hf.rep hg hl (by simp [ho, Op.operands, Call.operands])
 generalize hv : a.eval f = v at h0
 cases h0 with
 | fn _ us vs _ _ hl1 hl2 h1 h2 =>
   have ha := EvL.reps (β := β) (W := W) (a := a) hx (fun x hx X h => h.rep hg hl (by simp only [ho, Op.operands, Call.operands]; exact Array.mem_append.2 (.inr (by simpa using hx))))
   obtain rfl : us = #[] := Array.eq_empty_of_size_eq_zero (by simpa using hl1)
   obtain rfl : vs = #[] := Array.eq_empty_of_size_eq_zero (by simpa using hl2)
   obtain ⟨v', w', k1, k2, k4⟩ := hF hg W β (args.map a.eval) hβ ⟨by simpa using ha.1, fun j u x p q => ha.2 j u x (by simpa using p) q⟩
   refine ⟨v', w', ?_, k2, k4⟩
   simp [execOp, ho, resolve, hv, Deferred.ofValue, invoke, k1]
theorem extract_cons (u : Value) (xs : Array Value) : (#[u] ++ xs).extract 1 (#[u] ++ xs).size = xs := by
 apply Array.toList_inj.1
 simp
theorem run_invoke {W : World} {name : String} {t : TypeId} {v v' : Value} {xs : Array Value} {F : FuncId} {R : Result Next} (h : (method (P.types.size + Made.depth) t v name).run P W = .ok (F, v') W) (k : (callFunc F (#[v'] ++ xs)).run P W = R) :
   (invoke (.fn (.method name) #[]) (#[.iface t v] ++ xs)).run P W = R := by
 have h0 : (#[Value.iface t v] ++ xs)[0]? = some (.iface t v) := by
   rw [← Array.getElem?_toList]; simp
 simp only [invoke, h0, extract_cons, callMethod, Sem.run_bind, run_program, Result.andThen_ok, h, k]
theorem ARun.invokeX {f : Operand} {name : String} {args : Array Operand} {ats : Array TypeId} {F : FuncId} {X X' : AV} {xs : List AV} {r Y : AV} {d : Option Tmp} (ho : o.op = .call { callee := .invoke f name, args := args, argTypes := ats }) (hd : o.dst = d) (hn : dstLt n d = true) (hG : gdS ops σ o.guard = some gd)
   (hf : Ev gd σ f X) (hI : gd = true → Inv P X name F X') (hx : EvL gd σ args.toList xs) (hF : gd = true → FnXP P F (X' :: xs) r) (hY : optA o.guard gd r = Y)
   (hr : ARun P ops n QQ l (ks ++ [.pure]) (putS σ d Y) H) : ARun P ops n QQ (o :: l) ks σ H := by
 refine ARun.valH hd hn hG hY (fun hg a W β hβ hl => ?_) hr
 have h0 := hf.rep hg hl (by simp [ho, Op.operands, Call.operands])
 have ha := EvL.reps (β := β) (W := W) (a := a) hx (fun x hx X h => h.rep hg hl (by simp only [ho, Op.operands, Call.operands]; exact Array.mem_append.2 (.inr (by simpa using hx))))
 obtain ⟨t, v, v', e1, e2, e3⟩ := hI hg W β _ h0
 obtain ⟨q, w', k1, k2, k4⟩ := hF hg W β (#[v'] ++ args.map a.eval) hβ (VReps.cons e3 (by simpa using ha))
 refine ⟨q, w', ?_, k2, k4⟩
 simp only [execOp, ho, resolve, Sem.run_bind, Sem.run_pure, Result.andThen_ok, e1]
 exact run_invoke e2 k1
theorem ARun.invokeP {f : Operand} {name : String} {args : Array Operand} {ats : Array TypeId} {F : FuncId} {X X' : AV} {xs : List AV} {r Y : AV} {d : Option Tmp} (ho : o.op = .call { callee := .invoke f name, args := args, argTypes := ats }) (hd : o.dst = d) (hn : dstLt n d = true) (hG : gdS ops σ o.guard = some gd)
   (hcf : ∀ (va : Array Value) (W : World), (callFunc F va).run P W = .ok (.enter F va) W)
   (hf : Ev gd σ f X) (hI : gd = true → Inv P X name F X') (hx : EvL gd σ args.toList xs) (hF : gd = true → FnP P F (X' :: xs) r) (hY : optA o.guard gd r = Y)
   (hr : ARun P ops n QQ l (ks ++ [.pure]) (putS σ d Y) H) : ARun P ops n QQ (o :: l) ks σ H := by
 subst hd; subst hY
 refine ⟨.pure, _, H, hn, ⟨rfl, fun H => ?_⟩, hr⟩
 intro a W β hHr hl K Q hK
 rw [gd_wanted hG hl]
 cases gd with
 | false =>
   rw [if_neg (by simp)]
   refine hK undef W β (Ext.refl _ _) hHr ?_
   cases hg : o.guard with
   | none => rw [hg] at hG; cases hG
   | some g => exact .opt _ _ _ (fun e => by cases e) (fun _ => rfl)
 | true =>
   rw [if_pos rfl]
   have h0 := hf.rep rfl hl (by simp [ho, Op.operands, Call.operands])
   have ha := EvL.reps (β := β) (W := W) (a := a) hx (fun x hx X h => h.rep rfl hl (by simp only [ho, Op.operands, Call.operands]; exact Array.mem_append.2 (.inr (by simpa using hx))))
   obtain ⟨t, v, v', e1, e2, e3⟩ := hI rfl W β _ h0
   have hrun : (execOp a.eval o).run P W = .ok (.enter F (#[v'] ++ args.map a.eval)) W := by
     simp only [execOp, ho, resolve, Sem.run_bind, Sem.run_pure, Result.andThen_ok, e1]
     exact run_invoke e2 (hcf _ _)
   unfold Oper.wp
   rw [hrun, Oper.upon_enter]
   refine (pure_call (hF rfl) hHr (vs := #[v'] ++ args.map a.eval) (VReps.cons e3 (by simpa using ha))).mono ?_
   rintro e w' ⟨q, rfl, k1, k3⟩
   refine hK q w' β (Ext.of_below β k1) (hHr.below k1) ?_
   cases o.guard with
   | none => exact k3
   | some g => exact .opt _ _ _ (fun _ => k3) (fun e => by cases e)
theorem ARun.callSetG {f : Operand} {args : Array Operand} {ats : Array TypeId} {F j : Nat} {fs cs xs ax : List AV} {r Y : AV} {d : Option Tmp} {ob : AO} {L' : List AO} (hm : GOK m G) (ho : o.op = .call { callee := .value f, args := args, argTypes := ats }) (hd : o.dst = d) (hn : dstLt n d = true) (hG : gdS ops σ o.guard = some gd)
   (hcf : ∀ (va : Array Value) (W : World), (callFunc F va).run P W = .ok (.enter F va) W)
   (hf : Ev gd σ f (.fn (.func F) fs cs)) (hx : EvL gd σ args.toList xs) (has : fs ++ xs ++ cs = ax) (hF : gd = true → FnH P F ax (G ++ L) r ((G ++ L).set (m + j) ob)) (hno : gd = false → L.set j ob = L) (hL : L.set j ob = L') (hY : optA o.guard gd r = Y)
   (hr : ARun P ops n QQ l (ks ++ [.write]) (putS σ d Y) (G ++ L')) : ARun P ops n QQ (o :: l) ks σ (G ++ L) := by
 subst hd; subst hY; subst has; subst hL
 refine ⟨.write, _, G ++ L.set j ob, hn, ?_, hr⟩
 refine call_step ho hG ?_ hcf hf hx (fun hg => by rw [← hm.set]; exact hF hg)
 cases gd with
 | true => exact .inl rfl
 | false => exact .inr (by rw [hno rfl])
end
end Go.Proofs.YtnlpojjfkgnhhaaGreatDoor
namespace Go.Proofs.YtnlpojjfkgnhhaaGreatDoor
open Go.RowKit
theorem atO {H : List AO} {i : Nat} {X : AO} {L : List AO} (hi : i < H.length) : (H.set i X ++ L)[i]? = some X := by
 rw [List.getElem?_append_left (by simpa using hi), List.getElem?_set_self hi]
theorem setO {H : List AO} {i : Nat} {X Y : AO} {L : List AO} (hi : i < H.length) : (H.set i X ++ L).set i Y = H.set i Y ++ L := by
 rw [List.set_append_left _ _ (by simpa using hi), List.set_set]
theorem set_of_get {H : List AO} {i : Nat} {X : AO} (h : H[i]? = some X) : H.set i X = H := by
 obtain ⟨hi, rfl⟩ := List.getElem?_eq_some_iff.1 h
 exact List.set_getElem_self hi
theorem GOK.setO {m : Nat} {H : List AO} {i : Nat} {X Y : AO} (h : GOK m (H.set i X)) (hY : ∀ x, x ∈ Y.conts → NoH m x) : GOK m (H.set i Y) := by
 refine ⟨by simpa using h.1, fun o ho x hx => ?_⟩
 rw [← List.set_set (a := X)] at ho
 rcases List.mem_or_eq_of_mem_set ho with ho | rfl
 · exact h.2 o ho x hx
 exact hY x hx
def FnM (P : Program) (F : FuncId) (args : Nat → List AV) (cs : List AV) (r : AV) (cs' : List AV) : Prop :=
 ∀ (H : List AO) (i : Nat), H[i]? = some (.box cs) → FnH P F (args i) H r (H.set i (.box cs'))
theorem FnM.keep {P : Program} {F : FuncId} {args : Nat → List AV} {cs : List AV} {r : AV} (h : FnM P F args cs r cs) {H : List AO} {i : Nat} (hi : H[i]? = some (.box cs)) : FnH P F (args i) H r H := by
 have := h H i hi
 rwa [set_of_get hi] at this
theorem FnM.of {P : Program} {f : FuncId} {fn : Func} {c : Code} {args : Nat → List AV} {cs cs' : List AV} {r : AV} {n : Nat} (hf : P.funcs[f]? = some fn) (hb : fn.body = some c) (hn : fn.ntmps = n) (hna : ∀ i, (args i).length ≤ n)
   (h : ∀ (H : List AO) (i m : Nat), H.length = m → i < H.length → GOK m (H.set i (.box cs)) → AWP P n m c (endF P fn r (H.set i (.box cs'))) (zipS (args i) 0) (H.set i (.box cs)) []) : FnM P f args cs r cs' := by
 intro H i hi
 have hlt := (List.getElem?_eq_some_iff.1 hi).1
 refine FnH.of0 hf hb hn (hna i) (fun hG => ?_)
 have e := set_of_get hi
 have := h H i H.length rfl hlt (by rw [e]; exact hG)
 rwa [e] at this
theorem endF.toG {P : Program} {fn : Func} {r : AV} {G G' : List AO} {e : Exit} {σ : Sl} {L : List AO} (h : G = G') (k : endF P fn r G e σ G L) : endF P fn r G' e σ G L := by subst h; exact k
section
variable {P : Program} {ops : Array Oper} {n m : Nat} {QQ : List Kd → Sl → List AO → Prop} {l : List Oper} {ks : List Kd} {σ : Sl} {G L H : List AO} {o : Oper} {gd : Bool}
theorem ARun.storeO {H0 : List AO} {x y : Operand} {t : TypeId} {i off z : Nat} {cs C cs' : List AV} {X : AV} (hi : i < H0.length) (hm : GOK m (H0.set i (.box cs))) (ho : o.op = .store t x y) (hd : o.dst = none) (hg : gdS ops σ o.guard = some true) (hz : Sz P t z)
   (hx : Ev true σ x (.box i off)) (hy : Ev true σ y X) (hX : shaped X = true) (hC : X.cells = C) (hCz : C.length = z) (hone : C.all AV.one = true)
   (hoff : off + z ≤ cs.length) (hcs : cs.take off ++ C ++ cs.drop (off + z) = cs') (hno : ∀ x, x ∈ C → NoH m x)
   (hr : GOK m (H0.set i (.box cs')) → ARun P ops n QQ l (ks ++ [.write]) σ (H0.set i (.box cs') ++ L)) (hsp : ((cs.drop off).take z).all AV.plainC = true := by first | rfl | exact plain_take rfl | exact plain_take (by simp [AV.plainC])) : ARun P ops n QQ (o :: l) ks σ (H0.set i (.box cs) ++ L) := by
 refine ARun.store ho hd hg hz hx hy (atO hi) hX hC hCz hone hoff hcs ?_ hsp
 rw [_root_.Go.Proofs.YtnlpojjfkgnhhaaGreatDoor.setO hi]
 refine hr (hm.setO fun x hx => ?_)
 have hx' : x ∈ cs' := hx
 rw [← hcs] at hx'
 have hold : ∀ y, y ∈ cs → NoH m y := fun y hy => hm.2 (.box cs) (List.mem_iff_getElem?.2 ⟨i, List.getElem?_set_self hi⟩) y hy
 rcases List.mem_append.1 hx' with h | h
 · rcases List.mem_append.1 h with h | h
   · exact hold x (List.mem_of_mem_take h)
   exact hno x h
 exact hold x (List.mem_of_mem_drop h)
theorem ARun.storeO1 {H0 : List AO} {x y : Operand} {t : TypeId} {i off : Nat} {cs cs' : List AV} {X : AV} (hi : i < H0.length) (hm : GOK m (H0.set i (.box cs))) (ho : o.op = .store t x y) (hd : o.dst = none) (hg : gdS ops σ o.guard = some true) (hz : Sz P t 1)
   (hx : Ev true σ x (.box i off)) (hy : Ev true σ y X) (hX : X.one = true)
   (hoff : off + 1 ≤ cs.length) (hcs : cs.take off ++ [X] ++ cs.drop (off + 1) = cs') (hno : NoH m X)
   (hr : GOK m (H0.set i (.box cs')) → ARun P ops n QQ l (ks ++ [.write]) σ (H0.set i (.box cs') ++ L)) (hsp : ((cs.drop off).take 1).all AV.plainC = true := by first | rfl | exact plain_take rfl | exact plain_take (by simp [AV.plainC])) : ARun P ops n QQ (o :: l) ks σ (H0.set i (.box cs) ++ L) :=
 ARun.storeO hi hm ho hd hg hz hx hy (one_shaped hX) (one_cells hX) rfl (by simp [hX]) hoff hcs (by simpa using hno) hr hsp
theorem ARun.callO {H0 : List AO} {f : Operand} {args : Array Operand} {ats : Array TypeId} {F i : Nat} {fs cs xs ax cA cB : List AV} {r Y : AV} {d : Option Tmp} (hi : i < H0.length) (hm : GOK m (H0.set i (.box cA))) (ho : o.op = .call { callee := .value f, args := args, argTypes := ats }) (hd : o.dst = d) (hn : dstLt n d = true) (hG : gdS ops σ o.guard = some true)
   (hcf : ∀ (va : Array Value) (W : World), (callFunc F va).run P W = .ok (.enter F va) W)
   (hf : Ev true σ f (.fn (.func F) fs cs)) (hx : EvL true σ args.toList xs) (has : fs ++ xs ++ cs = ax) (hF : FnH P F ax (H0.set i (.box cA) ++ L) r ((H0.set i (.box cA) ++ L).set i (.box cB))) (hno : ∀ x, x ∈ cB → NoH m x) (hY : optA o.guard true r = Y)
   (hr : GOK m (H0.set i (.box cB)) → ARun P ops n QQ l (ks ++ [.write]) (putS σ d Y) (H0.set i (.box cB) ++ L)) : ARun P ops n QQ (o :: l) ks σ (H0.set i (.box cA) ++ L) :=
 ARun.callH ho hd hn hG hcf hf hx has hF hY (by rw [_root_.Go.Proofs.YtnlpojjfkgnhhaaGreatDoor.setO hi]; exact hr (hm.setO hno))
theorem ARun.callXO {H0 : List AO} {f : Operand} {args : Array Operand} {ats : Array TypeId} {F i : Nat} {xs cA cB : List AV} {r Y : AV} {d : Option Tmp} (hi : i < H0.length) (hm : GOK m (H0.set i (.box cA))) (ho : o.op = .call { callee := .value f, args := args, argTypes := ats }) (hd : o.dst = d) (hn : dstLt n d = true) (hG : gdS ops σ o.guard = some true)
   (hf : Ev true σ f (.fn (.func F) [] [])) (hx : EvL true σ args.toList xs) (hF : FnX P F xs (H0.set i (.box cA) ++ L) r ((H0.set i (.box cA) ++ L).set i (.box cB))) (hno : ∀ x, x ∈ cB → NoH m x) (hY : optA o.guard true r = Y)
   (hr : GOK m (H0.set i (.box cB)) → ARun P ops n QQ l (ks ++ [.write]) (putS σ d Y) (H0.set i (.box cB) ++ L)) : ARun P ops n QQ (o :: l) ks σ (H0.set i (.box cA) ++ L) :=
 ARun.callX ho hd hn hG hf hx hF hY (by rw [_root_.Go.Proofs.YtnlpojjfkgnhhaaGreatDoor.setO hi]; exact hr (hm.setO hno))
theorem ARun.callR {f : Operand} {args : Array Operand} {ats : Array TypeId} {F : FuncId} {fs cs xs ax : List AV} {r Y : AV} {d : Option Tmp} (ho : o.op = .call { callee := .value f, args := args, argTypes := ats }) (hd : o.dst = d) (hn : dstLt n d = true) (hG : gdS ops σ o.guard = some gd)
   (hcf : ∀ (va : Array Value) (W : World), (callFunc F va).run P W = .ok (.enter F va) W)
   (hf : Ev gd σ f (.fn (.func F) fs cs)) (hx : EvL gd σ args.toList xs) (has : fs ++ xs ++ cs = ax) (hF : gd = true → FnH P F ax H r H) (hY : optA o.guard gd r = Y)
   (hr : ARun P ops n QQ l (ks ++ [.read]) (putS σ d Y) H) : ARun P ops n QQ (o :: l) ks σ H := by
 subst hd; subst hY; subst has
 exact ⟨.read, _, H, hn, ⟨rfl, call_step ho hG (.inr rfl) hcf hf hx hF⟩, hr⟩
theorem ARun.buildArr {t e : TypeId} {len z : Nat} {parts : Array (Nat × Operand)} {ps : List (Nat × AV)} {zv : Value} {C : List AV} {Y : AV} {d : Option Tmp} (ho : o.op = .build t parts) (hd : o.dst = d) (hn : dstLt n d = true) (hG : gdS ops σ o.guard = some gd)
   (hu : P.underlying t = some (.array len e)) (hz : Sz P e z) (hzv : Zv P t zv)
   (hx : EvP gd σ parts.toList ps) (hs : (ps.all fun p => shaped p.2) = true) (hC : fillA (fun i => some (i * z, z)) (zv.cells.toList.map cAV) ps = some C) (hY : optA o.guard gd (.agg C) = Y)
   (hr : ARun P ops n QQ l (ks ++ [.pure]) (putS σ d Y) H) : ARun P ops n QQ (o :: l) ks σ H := by
 refine ARun.same hd hn hG hY (fun hg a W β hl => ?_) hr
 obtain ⟨vs', h1, h2⟩ := fill_rep (β := β) (w := W) (a := a) (fun i => some (i * z, z)) parts.toList ps hx (EvP.looks hg hl (by simp [ho, Op.operands])) hs zv.cells _ C (CRep.zero _ _ _) hC
 refine ⟨.agg vs', ?_, .agg _ _ h2.1 h2.2⟩
 have h6 : (Instr.build t (parts.map fun (i, x) => (i, a.eval x))).run P W = .ok (.agg vs') W := by
   unfold Instr.build
   simp only [Sem.run_bind, hzv.run, run_underlying hu]
   simp [hz.run, h1]
 simp only [execOp, ho]
 simp [h6]
theorem ARun.dead {X : AV} {d : Option Tmp} {g : Nat × Bool} (hd : o.dst = d) (hn : dstLt n d = true) (hgu : o.guard = some g) (hG : gdS ops σ o.guard = some false)
   (hr : ARun P ops n QQ l (ks ++ [.pure]) (putS σ d (.opt false X)) H) : ARun P ops n QQ (o :: l) ks σ H := by
 subst hd
 refine ⟨.pure, _, H, hn, ⟨rfl, fun G => ?_⟩, hr⟩
 intro a W β hHr hl K Q hK
 rw [gd_wanted hG hl, if_neg (by simp)]
 exact hK undef W β (Ext.refl _ _) hHr (.opt _ _ _ (fun e => by cases e) (fun _ => rfl))
theorem ARun.indexBox {x y : Operand} {t e : TypeId} {len z j i off fo : Nat} {k : IntKind} {q : Int} {cs : List AV} {Y : AV} {d : Option Tmp} (ho : o.op = .indexAddr t x y) (hd : o.dst = d) (hn : dstLt n d = true) (hG : gdS ops σ o.guard = some gd)
   (hu : P.underlying t = some (.array len e)) (hz : Sz P e z)
   (hx : Ev gd σ x (.box i off)) (hH : H[i]? = some (.box cs)) (hy : Ev gd σ y (.int k q)) (hi : gd = true → q = (j : Int)) (hj : gd = true → j < len) (hfo : off + j * z = fo) (hY : optA o.guard gd (.box i fo) = Y)
   (hr : ARun P ops n QQ l (ks ++ [.pure]) (putS σ d Y) H) : ARun P ops n QQ (o :: l) ks σ H := by
 refine ARun.same hd hn hG hY (fun hg a W β hl => ?_) hr
 obtain ⟨b, h2, h3⟩ := (hx.rep hg hl (by simp [ho, Op.operands])).box_inv
 have h6 := (hy.rep hg hl (by simp [ho, Op.operands])).int_inv
 have hij := hi hg
 have hjx := hj hg
 subst hij; subst hfo
 refine ⟨.pointer (some ⟨b, off + j * z, none⟩), ?_, h3 _⟩
 simp [execOp, ho, h2, h6, Instr.indexAt, asIntOf, run_underlying hu, hz.run, hjx, Instr.sureAddr, aadd]
end
def FnNewB (P : Program) (f : FuncId) (args : List AV) (r : Nat → AV) (cs : List AV) : Prop := ∀ H : List AO, FnH P f args H (r H.length) (H ++ [.box cs])
def endN (P : Program) (fn : Func) (r : Nat → AV) (cs : List AV) (G' : List AO) : QA := fun e σ G L => (e = .normal ∨ e = .ret) ∧ G = G' ∧ (∃ J, L = .box cs :: J) ∧ NoH (G.length + 1) (r G.length) ∧ (∀ x, x ∈ cs → NoH (G.length + 1) x) ∧
 ∀ (β : List Hd) (a : Act) (W : World), HRel β (G ++ L) W → SRep β W a σ → Tells P fn β a W (r G.length)
theorem FnNewB.of {P : Program} {f : FuncId} {fn : Func} {c : Code} {args : List AV} {r : Nat → AV} {cs : List AV} {n : Nat} (hf : P.funcs[f]? = some fn) (hb : fn.body = some c) (hn : fn.ntmps = n) (hna : args.length ≤ n)
   (h : ∀ G, GOK G.length G → AWP P n G.length c (endN P fn r cs G) (zipS args 0) G []) : FnNewB P f args r cs := by
 intro G w β vs hH hv
 refine calls_of_wp hf hb (Code.wp_mono ?_ (h G hH.gok [] { tmps := vs ++ Array.replicate (fn.ntmps - vs.size) undef, defers := [] } w β hH.gok ?_ rfl (by rw [List.append_nil]; exact hH) ?_))
 · intro e a' W' ⟨β', σ', G2, L', k1, k2, k3, k4, k5, k6, k7⟩
   obtain ⟨he, rfl, ⟨J, rfl⟩, hnh, hcn, ht⟩ := k1
   obtain ⟨v, hr, hvr⟩ := ht β' a' W' k6 k7
   have hlen : (G2 ++ [AO.box cs]).length = G2.length + 1 := by simp
   have hfin : ∃ v' β'', Ending.returned v = Ending.returned v' ∧ Ext β w β'' W' ∧ HRel β'' (G2 ++ [.box cs]) W' ∧ VRep β'' W' v' (r G2.length) := by
     have k6' : HRel β' ((G2 ++ [.box cs]) ++ J) W' := by simpa using k6
     have hl2 := k6'.len
     rw [List.length_append, hlen] at hl2
     refine ⟨v, β'.take (G2.length + 1), rfl, ?_, ?_, hvr.take (by omega) hnh⟩
     · have e1 := k5
       refine ⟨e1.os, e1.tape, e1.output, e1.size, e1.block, fun k hk hs x hx => e1.apart k hk hs x (List.mem_of_mem_take hx), fun i x hx => ?_, e1.guard⟩
       have hi := (List.getElem?_eq_some_iff.1 hx).1
       have hgl : G2.length = β.length := hH.len.symm
       rw [List.getElem?_take_of_lt (by omega)]; exact e1.hd i x hx
     rw [← hlen]
     refine k6'.take fun o ho x hx => ?_
     rw [hlen]
     rcases List.mem_append.1 ho with ho | ho
     · exact (k2.2 o ho x hx).mono (by omega)
     simp at ho; subst ho; exact hcn x hx
   rcases he with rfl | rfl
   · exact ⟨k4, v, hr, hfin⟩
   exact ⟨k4, v, hr, hfin⟩
 · rw [Array.size_append, Array.size_replicate, hv.1, hn]; omega
 intro t X ht
 obtain ⟨_, h2⟩ := look_zip _ _ _ _ ht
 rw [Nat.sub_zero] at h2
 have hlt : t < vs.size := by rw [hv.1]; exact (List.getElem?_eq_some_iff.1 h2).1
 refine ⟨vs[t], ?_, hv.2 t _ _ (Array.getElem?_eq_getElem hlt) h2⟩
 show (vs ++ _)[t]? = _
 rw [Array.getElem?_append_left hlt, Array.getElem?_eq_getElem hlt]
theorem endN.many {P : Program} {fn : Func} {Xs : List AV} {r : Nat → AV} {cs : List AV} {σ : Sl} {G J : List AO} {rs : List ResultVar} {e : Exit} (he : e = .normal ∨ e = .ret) (hr : fn.results = rs.toArray) (h : RVs P σ (G ++ (.box cs :: J)) rs Xs) (h1 : Xs.length ≠ 1) (hX : .tup Xs = r G.length) (hn : NoH (G.length + 1) (r G.length)) (hc : ∀ x, x ∈ cs → NoH (G.length + 1) x) : endN P fn r cs G e σ G (.box cs :: J) :=
 ⟨he, rfl, ⟨J, rfl⟩, hn, hc, fun β a W hH hs => by rw [← hX]; exact Tells.list hH hs hr h h1⟩
theorem endN.one {P : Program} {fn : Func} {X : AV} {r : Nat → AV} {cs : List AV} {σ : Sl} {G J : List AO} {rv : ResultVar} {e : Exit} (he : e = .normal ∨ e = .ret) (hr : fn.results = #[rv]) (h : RV1 P σ (G ++ (.box cs :: J)) rv X) (hX : X = r G.length) (hn : NoH (G.length + 1) (r G.length)) (hc : ∀ x, x ∈ cs → NoH (G.length + 1) x) : endN P fn r cs G e σ G (.box cs :: J) :=
 ⟨he, rfl, ⟨J, rfl⟩, hn, hc, fun β a W hH hs => by rw [← hX]; exact Tells.single hH hs hr h⟩
theorem ARun.callNewB {P : Program} {ops : Array Oper} {n m : Nat} {QQ : List Kd → Sl → List AO → Prop} {l : List Oper} {ks : List Kd} {σ : Sl} {G L : List AO} {o : Oper} {f : Operand} {args : Array Operand} {ats : Array TypeId} {F j : Nat} {fs cs xs ax cb : List AV} {r : Nat → AV} {Y : AV} {d : Option Tmp} (hm : GOK m G) (hj : L.length = j) (ho : o.op = .call { callee := .value f, args := args, argTypes := ats }) (hd : o.dst = d) (hn : dstLt n d = true) (hG : gdS ops σ o.guard = some true)
   (hcf : ∀ (va : Array Value) (W : World), (callFunc F va).run P W = .ok (.enter F va) W)
   (hf : Ev true σ f (.fn (.func F) fs cs)) (hx : EvL true σ args.toList xs) (has : fs ++ xs ++ cs = ax) (hF : FnNewB P F ax r cb) (hY : optA o.guard true (r (m + j)) = Y)
   (hr : ARun P ops n QQ l (ks ++ [.write]) (putS σ d Y) (G ++ (L ++ [.box cb]))) : ARun P ops n QQ (o :: l) ks σ (G ++ L) := by
 have h := hF (G ++ L)
 rw [List.length_append, hm.1, hj] at h
 exact ARun.callH ho hd hn hG hcf hf hx has h hY (by rw [List.append_assoc]; exact hr)
theorem AWP.roundsO {P : Program} {n m : Nat} {c : Code} {Q : QA} {σ : Sl} {G L : List AO} {α : Type} (I : α → Prop) (lit : α → Sl) (Gf Lf : α → List AO) (μ : α → Nat) (len : Nat) (a0 : α) (h0 : I a0) (hs : SubS σ (lit a0)) (hGf : G = Gf a0) (hL : L = Lf a0)
   (hlen : ∀ a, (Lf a).length = len) (hnh : ∀ a, (∀ p, p ∈ lit a → NoH (m + len) p.2) ∧ ∀ o, o ∈ Lf a → ∀ x, x ∈ o.conts → NoH (m + len) x)
   (round : ∀ a, I a → GOK m (Gf a) → AWP P n m c (thenA (fun σ' G' L' => ∃ a' J, G' = Gf a' ∧ I a' ∧ SubS σ' (lit a') ∧ L' = Lf a' ++ J ∧ μ a' < μ a) Q) (lit a) (Gf a) (Lf a)) : AWP P n m (.loop c) Q σ G L := by
 subst hL
 subst hGf
 refine AWP.to (lit a0) hs ?_
 intro D
 have key : ∀ N a, μ a = N → I a → ∀ (act : Act) (W : World) (β : List Hd), GOK m (Gf a) → act.tmps.size = n → act.defers = D → HRel β (Gf a ++ Lf a) W → SRep β W act (lit a) → ∀ (b : Frame) (k : List Item) (cs : List Frame),
     ∃ e a' w', APost D n m β W Q e a' w' ∧ Arrives P (lone (b.at act (.code c :: .inLoop c :: k)) cs W) b k cs e a' w' := by
   intro N
   induction N using Nat.strongRecOn with
   | _ N ih =>
     intro x hN hI act W β h1 h2 h3 h4 h5 b k cs
     obtain ⟨e, a₁, w₁, hq, harr⟩ := round x hI h1 D act W β h1 h2 h3 h4 h5 b (.inLoop c :: k) cs
     obtain ⟨β', σ', G', L', k1, k2, k3, k4, k5, k6, k7⟩ := hq
     cases e with
     | normal =>
       obtain ⟨x', J, rfl, hI', hsub', rfl, hlt⟩ := k1
       have e1 : (Gf x' ++ Lf x').length = m + len := by rw [List.length_append, hlen, k2.1]
       have e2 : β.length = (Gf x' ++ Lf x').length := by rw [h4.len, e1, List.length_append, hlen, h1.1]
       rw [← List.append_assoc] at k6
       have hH := k6.take (fun o ho y hy => by
         rw [e1]
         rcases List.mem_append.1 ho with ho | ho
         · exact (k2.2 o ho y hy).mono (by omega)
         · exact (hnh x').2 o ho y hy)
       have hx := k5.take
       rw [e2] at hx
       have hl := k6.len
       have hle : (Gf x' ++ Lf x').length ≤ β'.length := by rw [hl]; simp
       have hS : SRep (β'.take (Gf x' ++ Lf x').length) w₁ a₁ (lit x') := by
         intro t X ht
         obtain ⟨u, q1, q2⟩ := k7 t X (hsub'.look t X ht)
         refine ⟨u, q1, q2.take hle ?_⟩
         rw [e1]
         have : ∀ (l : Sl), look l t = some X → ∃ p, p ∈ l ∧ p.2 = X := by
           intro l
           induction l with
           | nil => intro h; cases h
           | cons p l ihl =>
             intro h
             obtain ⟨k0, Y⟩ := p
             change (bif Nat.beq k0 t then some Y else look l t) = some X at h
             cases hb : Nat.beq k0 t with
             | true => rw [hb] at h; cases h; exact ⟨_, List.mem_cons_self, rfl⟩
             | false => rw [hb] at h; obtain ⟨p, m1, m2⟩ := ihl h; exact ⟨p, List.mem_cons_of_mem _ m1, m2⟩
         obtain ⟨p, m1, m2⟩ := this _ ht
         rw [← m2]; exact (hnh x').1 p m1
       obtain ⟨e₂, a₂, w₂, hq₂, harr₂⟩ := ih _ (hN ▸ hlt) x' rfl hI' a₁ w₁ _ k2 k3 k4 hH hS b k cs
       exact ⟨e₂, a₂, w₂, hq₂.ext hx, .of_steps (Steps.trans harr (.one step_inLoop)) harr₂⟩
     | exit id => exact ⟨_, a₁, w₁, ⟨β', σ', G', L', k1, k2, k3, k4, k5, k6, k7⟩, .pass (x := .inLoop c) rfl (fun _ _ => .inl (by simp)) harr⟩
     | goto l => exact ⟨_, a₁, w₁, ⟨β', σ', G', L', k1, k2, k3, k4, k5, k6, k7⟩, .pass (x := .inLoop c) rfl (fun _ _ => .inl (by simp)) harr⟩
     | ret => exact ⟨_, a₁, w₁, ⟨β', σ', G', L', k1, k2, k3, k4, k5, k6, k7⟩, .pass (x := .inLoop c) rfl (fun _ _ => .inl (by simp)) harr⟩
     | panic ch => exact ⟨_, a₁, w₁, ⟨β', σ', G', L', k1, k2, k3, k4, k5, k6, k7⟩, .pass (x := .inLoop c) rfl (fun _ _ => .inl (by simp)) harr⟩
     | outgrown => exact ⟨_, a₁, w₁, ⟨β', σ', G', L', k1, k2, k3, k4, k5, k6, k7⟩, .pass (x := .inLoop c) rfl (fun _ _ => .inl (by simp)) harr⟩
 intro act W β h1 h2 h3 h4 h5 b k cs
 obtain ⟨e, a', w', hq, harr⟩ := key _ a0 rfl h0 act W β h1 h2 h3 h4 h5 b k cs
 exact ⟨e, a', w', hq, .of_steps (.one step_loop) harr⟩
end Go.Proofs.YtnlpojjfkgnhhaaGreatDoor
namespace Go.Proofs.YtnlpojjfkgnhhaaGreatDoor
open Go.RowKit
theorem mixed : Tryz.prog.follows .mixedOrders = true := by kernel_rfl
theorem ti3 : Ti Tryz.prog 3 (.int .i64 0) 1 8 := by unfold Ti; kernel_rfl
theorem sz3 : Sz Tryz.prog 3 1 := ti3.sz
theorem zv3 : Zv Tryz.prog 3 (.int .i64 0) := ti3.zv
theorem ti4 : Ti Tryz.prog 4 (.bool false) 1 1 := by unfold Ti; kernel_rfl
theorem sz4 : Sz Tryz.prog 4 1 := ti4.sz
theorem zv4 : Zv Tryz.prog 4 (.bool false) := ti4.zv
theorem ti9 : Ti Tryz.prog 9 (.string ⟨#[]⟩) 1 16 := by unfold Ti; kernel_rfl
theorem sz9 : Sz Tryz.prog 9 1 := ti9.sz
theorem ti23 : Ti Tryz.prog 23 (.slice none 0 0) 1 24 := by unfold Ti; kernel_rfl
theorem sz23 : Sz Tryz.prog 23 1 := ti23.sz
theorem ti24 : Ti Tryz.prog 24 (.slice none 0 0) 1 24 := by unfold Ti; kernel_rfl
theorem sz24 : Sz Tryz.prog 24 1 := ti24.sz
theorem zv24 : Zv Tryz.prog 24 (.slice none 0 0) := ti24.zv
theorem ti26 : Ti Tryz.prog 26 (.agg #[.int .i64 0, .int .i64 0, .int .i64 0, .int .i64 0, .int .i64 0, .int .i64 0, .int .i64 0, .int .i64 0, .string ⟨#[]⟩, .int .i64 0, .int .i64 0, .slice none 0 0, .slice none 0 0, .int .i64 0]) 14 152 := by unfold Ti; kernel_rfl
theorem sz26 : Sz Tryz.prog 26 14 := ti26.sz
theorem zv26 : Zv Tryz.prog 26 (.agg #[.int .i64 0, .int .i64 0, .int .i64 0, .int .i64 0, .int .i64 0, .int .i64 0, .int .i64 0, .int .i64 0, .string ⟨#[]⟩, .int .i64 0, .int .i64 0, .slice none 0 0, .slice none 0 0, .int .i64 0]) := ti26.zv
theorem ti28 : Ti Tryz.prog 28 (.nilIface) 1 16 := by unfold Ti; kernel_rfl
theorem sz28 : Sz Tryz.prog 28 1 := ti28.sz
theorem ti31 : Ti Tryz.prog 31 (.int .i64 0) 1 8 := by unfold Ti; kernel_rfl
theorem sz31 : Sz Tryz.prog 31 1 := ti31.sz
theorem zv31 : Zv Tryz.prog 31 (.int .i64 0) := ti31.zv
theorem ti42 : Ti Tryz.prog 42 (.slice none 0 0) 1 24 := by unfold Ti; kernel_rfl
theorem sz42 : Sz Tryz.prog 42 1 := ti42.sz
theorem ti44 : Ti Tryz.prog 44 (.agg #[.int .i64 0, .int .i64 0, .int .i64 0, .int .i64 0, .int .i64 0, .int .i64 0, .slice none 0 0]) 7 72 := by unfold Ti; kernel_rfl
theorem sz44 : Sz Tryz.prog 44 7 := ti44.sz
theorem zv44 : Zv Tryz.prog 44 (.agg #[.int .i64 0, .int .i64 0, .int .i64 0, .int .i64 0, .int .i64 0, .int .i64 0, .slice none 0 0]) := ti44.zv
theorem ti49 : Ti Tryz.prog 49 (.agg #[.int .i64 0, .slice none 0 0]) 2 32 := by unfold Ti; kernel_rfl
theorem sz49 : Sz Tryz.prog 49 2 := ti49.sz
theorem zv49 : Zv Tryz.prog 49 (.agg #[.int .i64 0, .slice none 0 0]) := ti49.zv
theorem ti58 : Ti Tryz.prog 58 (.agg #[.int .i64 0, .int .i64 0]) 2 16 := by unfold Ti; kernel_rfl
theorem sz58 : Sz Tryz.prog 58 2 := ti58.sz
theorem zv58 : Zv Tryz.prog 58 (.agg #[.int .i64 0, .int .i64 0]) := ti58.zv
theorem ti88 : Ti Tryz.prog 88 (.agg #[.pointer none, .slice none 0 0]) 2 32 := by unfold Ti; kernel_rfl
theorem sz88 : Sz Tryz.prog 88 2 := ti88.sz
theorem zv88 : Zv Tryz.prog 88 (.agg #[.pointer none, .slice none 0 0]) := ti88.zv
theorem ti90 : Ti Tryz.prog 90 (.agg #[.pointer none, .slice none 0 0, .nilIface]) 3 48 := by unfold Ti; kernel_rfl
theorem zv90 : Zv Tryz.prog 90 (.agg #[.pointer none, .slice none 0 0, .nilIface]) := ti90.zv
theorem ti101 : Ti Tryz.prog 101 (.agg #[.int .i64 0, .int .i64 0]) 2 16 := by unfold Ti; kernel_rfl
theorem sz101 : Sz Tryz.prog 101 2 := ti101.sz
theorem zv101 : Zv Tryz.prog 101 (.agg #[.int .i64 0, .int .i64 0]) := ti101.zv
theorem ti125 : Ti Tryz.prog 125 (.agg #[.string ⟨#[]⟩, .int .i64 0, .nilIface, .bool false]) 4 48 := by unfold Ti; kernel_rfl
theorem zv125 : Zv Tryz.prog 125 (.agg #[.string ⟨#[]⟩, .int .i64 0, .nilIface, .bool false]) := ti125.zv
theorem ti127 : Ti Tryz.prog 127 (.pointer none) 1 8 := by unfold Ti; kernel_rfl
theorem zv127 : Zv Tryz.prog 127 (.pointer none) := ti127.zv
theorem ti129 : Ti Tryz.prog 129 (.agg #[.string ⟨#[]⟩, .nilIface]) 2 32 := by unfold Ti; kernel_rfl
theorem zv129 : Zv Tryz.prog 129 (.agg #[.string ⟨#[]⟩, .nilIface]) := ti129.zv
theorem ti136 : Ti Tryz.prog 136 (.agg #[.pointer none, .pointer none, .int .u64 0]) 3 24 := by unfold Ti; kernel_rfl
theorem sz136 : Sz Tryz.prog 136 3 := ti136.sz
theorem zv136 : Zv Tryz.prog 136 (.agg #[.pointer none, .pointer none, .int .u64 0]) := ti136.zv
theorem ti194 : Ti Tryz.prog 194 (.agg #[.string ⟨#[]⟩, .string ⟨#[]⟩, .string ⟨#[]⟩, .string ⟨#[]⟩, .string ⟨#[]⟩, .string ⟨#[]⟩, .string ⟨#[]⟩, .string ⟨#[]⟩, .string ⟨#[]⟩, .string ⟨#[]⟩, .string ⟨#[]⟩]) 11 176 := by unfold Ti; kernel_rfl
theorem sz194 : Sz Tryz.prog 194 11 := ti194.sz
theorem zv194 : Zv Tryz.prog 194 (.agg #[.string ⟨#[]⟩, .string ⟨#[]⟩, .string ⟨#[]⟩, .string ⟨#[]⟩, .string ⟨#[]⟩, .string ⟨#[]⟩, .string ⟨#[]⟩, .string ⟨#[]⟩, .string ⟨#[]⟩, .string ⟨#[]⟩, .string ⟨#[]⟩]) := ti194.zv
theorem so26 : StOk Tryz.prog 26 (.agg #[.int .i64 0, .int .i64 0, .int .i64 0, .int .i64 0, .int .i64 0, .int .i64 0, .int .i64 0, .int .i64 0, .string ⟨#[]⟩, .int .i64 0, .int .i64 0, .slice none 0 0, .slice none 0 0, .int .i64 0]) [(0, 1), (1, 1), (2, 1), (3, 1), (4, 1), (5, 1), (6, 1), (7, 1), (8, 1), (9, 1), (10, 1), (11, 1), (12, 1), (13, 1)] := ⟨_, U26, zv26, by kernel_rfl, by kernel_rfl⟩
theorem so44 : StOk Tryz.prog 44 (.agg #[.int .i64 0, .int .i64 0, .int .i64 0, .int .i64 0, .int .i64 0, .int .i64 0, .slice none 0 0]) [(0, 1), (1, 1), (2, 1), (3, 1), (4, 1), (5, 1), (6, 1)] := ⟨_, U44, zv44, by kernel_rfl, by kernel_rfl⟩
theorem so49 : StOk Tryz.prog 49 (.agg #[.int .i64 0, .slice none 0 0]) [(0, 1), (1, 1)] := ⟨_, U49, zv49, by kernel_rfl, by kernel_rfl⟩
theorem so101 : StOk Tryz.prog 101 (.agg #[.int .i64 0, .int .i64 0]) [(0, 1), (1, 1)] := ⟨_, U101, zv101, by kernel_rfl, by kernel_rfl⟩
theorem so125 : StOk Tryz.prog 125 (.agg #[.string ⟨#[]⟩, .int .i64 0, .nilIface, .bool false]) [(0, 1), (1, 1), (2, 1), (3, 1)] := ⟨_, U125, zv125, by kernel_rfl, by kernel_rfl⟩
theorem so129 : StOk Tryz.prog 129 (.agg #[.string ⟨#[]⟩, .nilIface]) [(0, 1), (1, 1)] := ⟨_, U129, zv129, by kernel_rfl, by kernel_rfl⟩
theorem cf18 : ∀ (vs : Array Value) (W : World), (callFunc 18 vs).run Tryz.prog W = .ok (.enter 18 vs) W := fun _ _ => by rfl
theorem cf20 : ∀ (vs : Array Value) (W : World), (callFunc 20 vs).run Tryz.prog W = .ok (.enter 20 vs) W := fun _ _ => by rfl
theorem cf21 : ∀ (vs : Array Value) (W : World), (callFunc 21 vs).run Tryz.prog W = .ok (.enter 21 vs) W := fun _ _ => by rfl
theorem cf22 : ∀ (vs : Array Value) (W : World), (callFunc 22 vs).run Tryz.prog W = .ok (.enter 22 vs) W := fun _ _ => by rfl
theorem cf24 : ∀ (vs : Array Value) (W : World), (callFunc 24 vs).run Tryz.prog W = .ok (.enter 24 vs) W := fun _ _ => by rfl
theorem cf26 : ∀ (vs : Array Value) (W : World), (callFunc 26 vs).run Tryz.prog W = .ok (.enter 26 vs) W := fun _ _ => by rfl
theorem cf28 : ∀ (vs : Array Value) (W : World), (callFunc 28 vs).run Tryz.prog W = .ok (.enter 28 vs) W := fun _ _ => by rfl
theorem cf29 : ∀ (vs : Array Value) (W : World), (callFunc 29 vs).run Tryz.prog W = .ok (.enter 29 vs) W := fun _ _ => by rfl
theorem cf30 : ∀ (vs : Array Value) (W : World), (callFunc 30 vs).run Tryz.prog W = .ok (.enter 30 vs) W := fun _ _ => by rfl
theorem cf33 : ∀ (vs : Array Value) (W : World), (callFunc 33 vs).run Tryz.prog W = .ok (.enter 33 vs) W := fun _ _ => by rfl
theorem cf36 : ∀ (vs : Array Value) (W : World), (callFunc 36 vs).run Tryz.prog W = .ok (.enter 36 vs) W := fun _ _ => by rfl
theorem cf37 : ∀ (vs : Array Value) (W : World), (callFunc 37 vs).run Tryz.prog W = .ok (.enter 37 vs) W := fun _ _ => by rfl
theorem cf38 : ∀ (vs : Array Value) (W : World), (callFunc 38 vs).run Tryz.prog W = .ok (.enter 38 vs) W := fun _ _ => by rfl
theorem cf39 : ∀ (vs : Array Value) (W : World), (callFunc 39 vs).run Tryz.prog W = .ok (.enter 39 vs) W := fun _ _ => by rfl
theorem cf50 : ∀ (vs : Array Value) (W : World), (callFunc 50 vs).run Tryz.prog W = .ok (.enter 50 vs) W := fun _ _ => by rfl
theorem cf51 : ∀ (vs : Array Value) (W : World), (callFunc 51 vs).run Tryz.prog W = .ok (.enter 51 vs) W := fun _ _ => by rfl
theorem cf60 : ∀ (vs : Array Value) (W : World), (callFunc 60 vs).run Tryz.prog W = .ok (.enter 60 vs) W := fun _ _ => by rfl
theorem cf62 : ∀ (vs : Array Value) (W : World), (callFunc 62 vs).run Tryz.prog W = .ok (.enter 62 vs) W := fun _ _ => by rfl
theorem cf63 : ∀ (vs : Array Value) (W : World), (callFunc 63 vs).run Tryz.prog W = .ok (.enter 63 vs) W := fun _ _ => by rfl
theorem cf64 : ∀ (vs : Array Value) (W : World), (callFunc 64 vs).run Tryz.prog W = .ok (.enter 64 vs) W := fun _ _ => by rfl
theorem cf65 : ∀ (vs : Array Value) (W : World), (callFunc 65 vs).run Tryz.prog W = .ok (.enter 65 vs) W := fun _ _ => by rfl
theorem cf66 : ∀ (vs : Array Value) (W : World), (callFunc 66 vs).run Tryz.prog W = .ok (.enter 66 vs) W := fun _ _ => by rfl
theorem cf67 : ∀ (vs : Array Value) (W : World), (callFunc 67 vs).run Tryz.prog W = .ok (.enter 67 vs) W := fun _ _ => by rfl
theorem cf68 : ∀ (vs : Array Value) (W : World), (callFunc 68 vs).run Tryz.prog W = .ok (.enter 68 vs) W := fun _ _ => by rfl
theorem cf70 : ∀ (vs : Array Value) (W : World), (callFunc 70 vs).run Tryz.prog W = .ok (.enter 70 vs) W := fun _ _ => by rfl
theorem cf71 : ∀ (vs : Array Value) (W : World), (callFunc 71 vs).run Tryz.prog W = .ok (.enter 71 vs) W := fun _ _ => by rfl
theorem cf72 : ∀ (vs : Array Value) (W : World), (callFunc 72 vs).run Tryz.prog W = .ok (.enter 72 vs) W := fun _ _ => by rfl
theorem cf73 : ∀ (vs : Array Value) (W : World), (callFunc 73 vs).run Tryz.prog W = .ok (.enter 73 vs) W := fun _ _ => by rfl
theorem cf100 : ∀ (vs : Array Value) (W : World), (callFunc 100 vs).run Tryz.prog W = .ok (.enter 100 vs) W := fun _ _ => by rfl
theorem cf101 : ∀ (vs : Array Value) (W : World), (callFunc 101 vs).run Tryz.prog W = .ok (.enter 101 vs) W := fun _ _ => by rfl
theorem cf108 : ∀ (vs : Array Value) (W : World), (callFunc 108 vs).run Tryz.prog W = .ok (.enter 108 vs) W := fun _ _ => by rfl
theorem cf110 : ∀ (vs : Array Value) (W : World), (callFunc 110 vs).run Tryz.prog W = .ok (.enter 110 vs) W := fun _ _ => by rfl
theorem cf111 : ∀ (vs : Array Value) (W : World), (callFunc 111 vs).run Tryz.prog W = .ok (.enter 111 vs) W := fun _ _ => by rfl
theorem cf112 : ∀ (vs : Array Value) (W : World), (callFunc 112 vs).run Tryz.prog W = .ok (.enter 112 vs) W := fun _ _ => by rfl
theorem cf134 : ∀ (vs : Array Value) (W : World), (callFunc 134 vs).run Tryz.prog W = .ok (.enter 134 vs) W := fun _ _ => by rfl
theorem cf154 : ∀ (vs : Array Value) (W : World), (callFunc 154 vs).run Tryz.prog W = .ok (.enter 154 vs) W := fun _ _ => by rfl
theorem cf155 : ∀ (vs : Array Value) (W : World), (callFunc 155 vs).run Tryz.prog W = .ok (.enter 155 vs) W := fun _ _ => by rfl
theorem cf172 : ∀ (vs : Array Value) (W : World), (callFunc 172 vs).run Tryz.prog W = .ok (.enter 172 vs) W := fun _ _ => by rfl
theorem cf211 : ∀ (vs : Array Value) (W : World), (callFunc 211 vs).run Tryz.prog W = .ok (.enter 211 vs) W := fun _ _ => by rfl
end Go.Proofs.YtnlpojjfkgnhhaaGreatDoor
namespace Go.Proofs.YtnlpojjfkgnhhaaGreatDoor
set_option linter.unusedVariables false
section
variable {P : Program} {ops : Array Oper} {n : Nat} {QQ : List Kd → Sl → List AO → Prop} {l : List Oper} {ks : List Kd} {σ : Sl} {H : List AO} {o : Oper} {gd : Bool}
theorem ρ0 {x : Operand} {s : TypeId} {f fo fs : Nat} {fields : Array Field} {fld : Field} {cs C : List AV} {Y : AV} {d : Option Tmp} {tf : TypeId} (hu : P.underlying s = some (.struct fields)) (hz : Sz P tf fs) (hr : ARun P ops n QQ l (ks ++ [.pure]) (putS σ d Y) H) (ho : o.op = .fieldAddr s x f := by exact rfl) (hd : o.dst = d := by exact rfl) (hn : dstLt n d = true := by exact rfl) (hG : gdS ops σ o.guard = some gd := by exact rfl) (hf : fields[f]? = some fld := by exact rfl) (hfo : fld.offset = fo := by exact rfl) (hft : fld.type = tf := by exact rfl) (hfs : fs ≠ 0 := by decide) (hx : Ev gd σ x (.pe cs) := by exact ep rfl) (hC : (cs.drop fo).take fs = C := by exact rfl) (hY : optA o.guard gd (.pe C) = Y := by exact optN) : ARun P ops n QQ (o :: l) ks σ H := ARun.fieldPe ho hd hn hG hu hf hfo (by rw [hft]; exact hz) hfs hx hC hY hr
theorem ρ1 {c x y : Operand} {cb u v r : Bool} {Y : AV} {d : Option Tmp} (hr : ARun P ops n QQ l (ks ++ [.pure]) (putS σ d Y) H) (ho : o.op = .pick c x y := by exact rfl) (hd : o.dst = d := by exact rfl) (hn : dstLt n d = true := by exact rfl) (hG : gdS ops σ o.guard = some gd := by exact rfl) (hc : Ev gd σ c (.bool cb) := by exact ep rfl) (hx : Ev (gd && cb) σ x (.bool u) := by exact Ev.opt rfl (by first | exact pkT | exact pkT2 | simp +contextual)) (hy : Ev (gd && !cb) σ y (.bool v) := by exact ep rfl) (hb : (bif cb then u else v) = r := by exact andB _ _) (hY : optA o.guard gd (.bool r) = Y := by exact optN) : ARun P ops n QQ (o :: l) ks σ H := ARun.pick ho hd hn hG hc hx hy hb hY hr
theorem ρ2 {x : Operand} {t : TypeId} {u : TypeDesc} {cs : List AV} {X Y : AV} {d : Option Tmp} (hu : P.underlying t = some u) (hr : ARun P ops n QQ l (ks ++ [.pure]) (putS σ d Y) H) (ho : o.op = .load t x := by exact rfl) (hd : o.dst = d := by exact rfl) (hn : dstLt n d = true := by exact rfl) (hG : gdS ops σ o.guard = some gd := by exact rfl) (hA : isA u = false := by exact rfl) (hx : Ev gd σ x (.pe cs) := by exact ep rfl) (hC : cs[0]? = some X := by exact rfl) (hY : optA o.guard gd X = Y := by exact optN) : ARun P ops n QQ (o :: l) ks σ H := ARun.loadPe ho hd hn hG hu hA hx hC hY hr
theorem ρ3 {c x y : Operand} {cb u v r : Bool} {Y : AV} {d : Option Tmp} (hr : ARun P ops n QQ l (ks ++ [.pure]) (putS σ d Y) H) (ho : o.op = .pick c x y := by exact rfl) (hd : o.dst = d := by exact rfl) (hn : dstLt n d = true := by exact rfl) (hG : gdS ops σ o.guard = some gd := by exact rfl) (hc : Ev gd σ c (.bool cb) := by exact ep rfl) (hx : Ev (gd && cb) σ x (.bool u) := by exact ep rfl) (hy : Ev (gd && !cb) σ y (.bool v) := by exact Ev.opt rfl (by first | exact pkF | exact pkF2 | simp +contextual)) (hb : (bif cb then u else v) = r := by exact orB _ _) (hY : optA o.guard gd (.bool r) = Y := by exact optN) : ARun P ops n QQ (o :: l) ks σ H := ARun.pick ho hd hn hG hc hx hy hb hY hr
theorem ρ4 {x : Operand} {t : TypeId} {u : TypeDesc} {cs : List AV} {X Y : AV} {d : Option Tmp} (hu : P.underlying t = some u) (hr : ARun P ops n QQ l (ks ++ [.pure]) (putS σ d Y) H) (ho : o.op = .load t x := by exact rfl) (hd : o.dst = d := by exact rfl) (hn : dstLt n d = true := by exact rfl) (hG : gdS ops σ o.guard = some gd := by exact rfl) (hA : isA u = false := by exact rfl) (hx : Ev gd σ x (.pe cs) := by exact Ev.opt rfl fun h => h) (hC : cs[0]? = some X := by exact rfl) (hY : optA o.guard gd X = Y := by exact optS) : ARun P ops n QQ (o :: l) ks σ H := ARun.loadPe ho hd hn hG hu hA hx hC hY hr
theorem ρ5 {x : Operand} {s : TypeId} {f fo fs : Nat} {fields : Array Field} {fld : Field} {cs C : List AV} {Y : AV} {d : Option Tmp} {tf : TypeId} (hu : P.underlying s = some (.struct fields)) (hz : Sz P tf fs) (hr : ARun P ops n QQ l (ks ++ [.pure]) (putS σ d Y) H) (ho : o.op = .fieldAddr s x f := by exact rfl) (hd : o.dst = d := by exact rfl) (hn : dstLt n d = true := by exact rfl) (hG : gdS ops σ o.guard = some gd := by exact rfl) (hf : fields[f]? = some fld := by exact rfl) (hfo : fld.offset = fo := by exact rfl) (hft : fld.type = tf := by exact rfl) (hfs : fs ≠ 0 := by decide) (hx : Ev gd σ x (.pe cs) := by exact ep rfl) (hC : (cs.drop fo).take fs = C := by exact rfl) (hY : optA o.guard gd (.pe C) = Y := by exact optS) : ARun P ops n QQ (o :: l) ks σ H := ARun.fieldPe ho hd hn hG hu hf hfo (by rw [hft]; exact hz) hfs hx hC hY hr
theorem ρ6 {bo : BinOp} {x y : Operand} {t1 t2 : TypeId} {k : IntKind} {i j : Int} {r : Bool} {Y : AV} {d : Option Tmp} (hr : ARun P ops n QQ l (ks ++ [.pure]) (putS σ d Y) H) (ho : o.op = .binOp bo t1 x y t2 := by exact rfl) (hd : o.dst = d := by exact rfl) (hn : dstLt n d = true := by exact rfl) (hG : gdS ops σ o.guard = some gd := by exact rfl) (hx : Ev gd σ x (.int k i) := by exact ep rfl) (hy : Ev gd σ y (.int k j) := by exact ep rfl) (he : cmpI bo i j = some r := by exact rfl) (hY : optA o.guard gd (.bool r) = Y := by exact optN) : ARun P ops n QQ (o :: l) ks σ H := ARun.cmp ho hd hn hG hx hy he hY hr
theorem ρ7 {x y : Operand} {t e : TypeId} {z j : Nat} {k : IntKind} {i : Int} {xs : List AV} {X : AV} {C : List AV} {Y : AV} {d : Option Tmp} (hu : P.underlying t = some (.slice e)) (hz : Sz P e z) (hr : ARun P ops n QQ l (ks ++ [.pure]) (putS σ d Y) H) (ho : o.op = .indexAddr t x y := by exact rfl) (hd : o.dst = d := by exact rfl) (hn : dstLt n d = true := by exact rfl) (hG : gdS ops σ o.guard = some gd := by exact rfl) (hx : Ev gd σ x (.sl xs) := by exact ep rfl) (hy : Ev gd σ y (.int k i) := by exact ep rfl) (hi : gd = true → i = (j : Int) := by exact fun hg => ofNonneg (by (try simp at hg); omega)) (hj : gd = true → xs[j]? = some X := by exact fun hg => getMap _ _ _ (by (try simp at hg); omega)) (hX : X.cells = C := by exact rfl) (hC : C.length = z := by exact rfl) (hY : optA o.guard gd (.pe C) = Y := by exact optN) : ARun P ops n QQ (o :: l) ks σ H := ARun.indexSl ho hd hn hG hu hz hx hy hi hj hX hC hY hr
theorem ρa {x y : Operand} {t e : TypeId} {z j : Nat} {k : IntKind} {i : Int} {xs : List AV} {X : AV} {C : List AV} {Y : AV} {d : Option Tmp} (hu : P.underlying t = some (.slice e)) (hz : Sz P e z) (hr : ARun P ops n QQ l (ks ++ [.pure]) (putS σ d Y) H) (ho : o.op = .indexAddr t x y := by exact rfl) (hd : o.dst = d := by exact rfl) (hn : dstLt n d = true := by exact rfl) (hG : gdS ops σ o.guard = some gd := by exact rfl) (hx : Ev gd σ x (.sl xs) := by exact ep rfl) (hy : Ev gd σ y (.int k i) := by exact ep rfl) (hi : gd = true → i = (j : Int) := by exact fun _ => rfl) (hj : gd = true → xs[j]? = some X := by exact fun hg => getMap _ _ _ (by (try simp at hg); omega)) (hX : X.cells = C := by exact rfl) (hC : C.length = z := by exact rfl) (hY : optA o.guard gd (.pe C) = Y := by exact optN) : ARun P ops n QQ (o :: l) ks σ H := ARun.indexSl ho hd hn hG hu hz hx hy hi hj hX hC hY hr
theorem ρb {bo : BinOp} {x y : Operand} {t1 t2 : TypeId} {k : IntKind} {i j : Int} {r : Bool} {Y : AV} {d : Option Tmp} (hr : ARun P ops n QQ l (ks ++ [.pure]) (putS σ d Y) H) (ho : o.op = .binOp bo t1 x y t2 := by exact rfl) (hd : o.dst = d := by exact rfl) (hn : dstLt n d = true := by exact rfl) (hG : gdS ops σ o.guard = some gd := by exact rfl) (hx : Ev gd σ x (.int k i) := by exact Ev.opt rfl fun h => h) (hy : Ev gd σ y (.int k j) := by exact ep rfl) (he : cmpI bo i j = some r := by exact rfl) (hY : optA o.guard gd (.bool r) = Y := by exact optS) : ARun P ops n QQ (o :: l) ks σ H := ARun.cmp ho hd hn hG hx hy he hY hr
theorem ρd {bo : BinOp} {x y : Operand} {t1 t2 : TypeId} {k : IntKind} {i j e r : Int} {Y : AV} {d : Option Tmp} (hr : ARun P ops n QQ l (ks ++ [.pure]) (putS σ d Y) H) (ho : o.op = .binOp bo t1 x y t2 := by exact rfl) (hd : o.dst = d := by exact rfl) (hn : dstLt n d = true := by exact rfl) (hG : gdS ops σ o.guard = some gd := by exact rfl) (hx : Ev gd σ x (.int k i) := by exact ep rfl) (hy : Ev gd σ y (.int k j) := by exact ep rfl) (he : arithI bo i j = some e := by exact rfl) (hw : gd = true → k.wrap e = r := by exact fun hg => i64w (by (try simp at hg); omega)) (hY : optA o.guard gd (.int k r) = Y := by exact optN) : ARun P ops n QQ (o :: l) ks σ H := ARun.arith ho hd hn hG hx hy he hw hY hr
theorem ρg {bo : BinOp} {x y : Operand} {t1 t2 : TypeId} {k : IntKind} {i j e r : Int} {Y : AV} {d : Option Tmp} (hr : ARun P ops n QQ l (ks ++ [.pure]) (putS σ d Y) H) (ho : o.op = .binOp bo t1 x y t2 := by exact rfl) (hd : o.dst = d := by exact rfl) (hn : dstLt n d = true := by exact rfl) (hG : gdS ops σ o.guard = some gd := by exact rfl) (hx : Ev gd σ x (.int k i) := by exact ep rfl) (hy : Ev gd σ y (.int k j) := by exact ep rfl) (he : arithI bo i j = some e := by exact rfl) (hw : gd = true → k.wrap e = r := by exact fun _ => rfl) (hY : optA o.guard gd (.int k r) = Y := by exact optN) : ARun P ops n QQ (o :: l) ks σ H := ARun.arith ho hd hn hG hx hy he hw hY hr
theorem ρh {x : Operand} {X Y : AV} {d : Option Tmp} (hr : ARun P ops n QQ l (ks ++ [.pure]) (putS σ d Y) H) (ho : o.op = .move x ∨ o.op = .assign x := by exact .inl rfl) (hd : o.dst = d := by exact rfl) (hn : dstLt n d = true := by exact rfl) (hG : gdS ops σ o.guard = some gd := by exact rfl) (hx : Ev gd σ x X := by exact ep rfl) (hY : optA o.guard gd X = Y := by exact optS) : ARun P ops n QQ (o :: l) ks σ H := ARun.move ho hd hn hG hx hY hr
theorem ρj {x : Operand} {xs : List AV} {i : Nat} {X Y : AV} {d : Option Tmp} (hr : ARun P ops n QQ l (ks ++ [.pure]) (putS σ d Y) H) (ho : o.op = .extract x i := by exact rfl) (hd : o.dst = d := by exact rfl) (hn : dstLt n d = true := by exact rfl) (hG : gdS ops σ o.guard = some gd := by exact rfl) (hx : Ev gd σ x (.tup xs) := by exact ep rfl) (hi : xs[i]? = some X := by exact rfl) (hY : optA o.guard gd X = Y := by exact optN) : ARun P ops n QQ (o :: l) ks σ H := ARun.extract ho hd hn hG hx hi hY hr
theorem ρl {x : Operand} {t : TypeId} {u : TypeDesc} {cs : List AV} {z : Nat} {Y : AV} {d : Option Tmp} (hu : P.underlying t = some u) (hz : Sz P t z) (hr : ARun P ops n QQ l (ks ++ [.pure]) (putS σ d Y) H) (ho : o.op = .load t x := by exact rfl) (hd : o.dst = d := by exact rfl) (hn : dstLt n d = true := by exact rfl) (hG : gdS ops σ o.guard = some gd := by exact rfl) (hA : isA u = true := by exact rfl) (hx : Ev gd σ x (.pe cs) := by exact ep rfl) (hC : cs.length = z := by exact rfl) (hY : optA o.guard gd (.agg cs) = Y := by exact optN) : ARun P ops n QQ (o :: l) ks σ H := ARun.loadPeA ho hd hn hG hu hA hz hx hC hY hr
theorem ρm {bo : BinOp} {x y : Operand} {t1 t2 : TypeId} {k : IntKind} {i j : Int} {r : Bool} {Y : AV} {d : Option Tmp} (hr : ARun P ops n QQ l (ks ++ [.pure]) (putS σ d Y) H) (ho : o.op = .binOp bo t1 x y t2 := by exact rfl) (hd : o.dst = d := by exact rfl) (hn : dstLt n d = true := by exact rfl) (hG : gdS ops σ o.guard = some gd := by exact rfl) (hx : Ev gd σ x (.int k i) := by exact Ev.opt rfl fun h => h) (hy : Ev gd σ y (.int k j) := by exact Ev.opt rfl fun h => h) (he : cmpI bo i j = some r := by exact rfl) (hY : optA o.guard gd (.bool r) = Y := by exact optS) : ARun P ops n QQ (o :: l) ks σ H := ARun.cmp ho hd hn hG hx hy he hY hr
theorem ρq {x : Operand} {t e : TypeId} {xs : List AV} {Y : AV} {d : Option Tmp} (hu : P.underlying t = some (.slice e)) (hr : ARun P ops n QQ l (ks ++ [.pure]) (putS σ d Y) H) (ho : o.op = .call { callee := .builtin .len, args := #[x], argTypes := #[t] } := by exact rfl) (hd : o.dst = d := by exact rfl) (hn : dstLt n d = true := by exact rfl) (hG : gdS ops σ o.guard = some gd := by exact rfl) (hx : Ev gd σ x (.sl xs) := by exact ep rfl) (hY : optA o.guard gd (.int .i64 (xs.length : Int)) = Y := by exact optN) : ARun P ops n QQ (o :: l) ks σ H := ARun.lenSl ho hd hn hG hu hx hY hr
theorem ρu {x : Operand} {s : TypeId} {f fo fs : Nat} {fields : Array Field} {fld : Field} {cs C : List AV} {Y : AV} {d : Option Tmp} {tf : TypeId} (hu : P.underlying s = some (.struct fields)) (hz : Sz P tf fs) (hr : ARun P ops n QQ l (ks ++ [.pure]) (putS σ d Y) H) (ho : o.op = .fieldAddr s x f := by exact rfl) (hd : o.dst = d := by exact rfl) (hn : dstLt n d = true := by exact rfl) (hG : gdS ops σ o.guard = some gd := by exact rfl) (hf : fields[f]? = some fld := by exact rfl) (hfo : fld.offset = fo := by exact rfl) (hft : fld.type = tf := by exact rfl) (hfs : fs ≠ 0 := by decide) (hx : Ev gd σ x (.pe cs) := by exact Ev.opt rfl fun h => h) (hC : (cs.drop fo).take fs = C := by exact rfl) (hY : optA o.guard gd (.pe C) = Y := by exact optS) : ARun P ops n QQ (o :: l) ks σ H := ARun.fieldPe ho hd hn hG hu hf hfo (by rw [hft]; exact hz) hfs hx hC hY hr
end
section
variable {P : Program} {ops : Array Oper} {n m : Nat} {QQ : List Kd → Sl → List AO → Prop} {l : List Oper} {ks : List Kd} {σ : Sl} {G L : List AO} {o : Oper} {gd : Bool}
theorem ρ8 {x y : Operand} {t : TypeId} {j off z : Nat} {cs C cs' : List AV} {X : AV} {L' : List AO} (hz : Sz P t z) (hr : ARun P ops n QQ l (ks ++ [.write]) σ (G ++ L')) (hm : GOK m G := by assumption) (ho : o.op = .store t x y := by exact rfl) (hd : o.dst = none := by exact rfl) (hg : gdS ops σ o.guard = some true := by exact rfl) (hx : Ev true σ x (.box (m + j) off) := by exact ep rfl) (hy : Ev true σ y X := by exact ep rfl) (hH : L[j]? = some (.box cs) := by exact rfl) (hX : shaped X = true := by exact rfl) (hC : X.cells = C := by exact rfl) (hCz : C.length = z := by exact rfl) (hone : C.all AV.one = true := by exact rfl) (hoff : off + z ≤ cs.length := by exact Nat.le_of_ble_eq_true rfl) (hcs : cs.take off ++ C ++ cs.drop (off + z) = cs' := by exact rfl) (hL : L.set j (.box cs') = L' := by exact rfl) (hsp : ((cs.drop off).take z).all AV.plainC = true := by first | rfl | exact plain_take rfl | exact plain_take (by simp [AV.plainC])) : ARun P ops n QQ (o :: l) ks σ (G ++ L) := ARun.storeL hm ho hd hg hz hx hy hH hX hC hCz hone hoff hcs hL hr hsp
theorem ρe {H : List AO} {x : Operand} {s : TypeId} {f fo fs i off : Nat} {fields : Array Field} {fld : Field} {Y : AV} {d : Option Tmp} {cs : List AV} {tf : TypeId} (hu : P.underlying s = some (.struct fields)) (hz : Sz P tf fs) (hr : ARun P ops n QQ l (ks ++ [.pure]) (putS σ d Y) H) (ho : o.op = .fieldAddr s x f := by exact rfl) (hd : o.dst = d := by exact rfl) (hn : dstLt n d = true := by exact rfl) (hG : gdS ops σ o.guard = some gd := by exact rfl) (hf : fields[f]? = some fld := by exact rfl) (hfo : off + fld.offset = fo := by exact rfl) (hft : fld.type = tf := by exact rfl) (hfs : fs ≠ 0 := by decide) (hx : Ev gd σ x (.box i off) := by exact ep rfl) (hH : H[i]? = some (.box cs) := by exact (GOK.at (by assumption) _ _).trans rfl) (hY : optA o.guard gd (.box i fo) = Y := by exact optN) : ARun P ops n QQ (o :: l) ks σ H := ARun.fieldBox ho hd hn hG hu hf hfo (by rw [hft]; exact hz) hfs hx hH hY hr
theorem ρn {H : List AO} {x : Operand} {s : TypeId} {f fo fs i off : Nat} {fields : Array Field} {fld : Field} {Y : AV} {d : Option Tmp} {cs : List AV} {tf : TypeId} (hu : P.underlying s = some (.struct fields)) (hz : Sz P tf fs) (hH : H[i]? = some (.box cs)) (hr : ARun P ops n QQ l (ks ++ [.pure]) (putS σ d Y) H) (ho : o.op = .fieldAddr s x f := by exact rfl) (hd : o.dst = d := by exact rfl) (hn : dstLt n d = true := by exact rfl) (hG : gdS ops σ o.guard = some gd := by exact rfl) (hf : fields[f]? = some fld := by exact rfl) (hfo : off + fld.offset = fo := by exact rfl) (hft : fld.type = tf := by exact rfl) (hfs : fs ≠ 0 := by decide) (hx : Ev gd σ x (.box i off) := by exact ep rfl) (hY : optA o.guard gd (.box i fo) = Y := by exact optN) : ARun P ops n QQ (o :: l) ks σ H := ARun.fieldBox ho hd hn hG hu hf hfo (by rw [hft]; exact hz) hfs hx hH hY hr
theorem ρs {H : List AO} {x : Operand} {t : TypeId} {u : TypeDesc} {i off z : Nat} {cs C : List AV} {Y : AV} {d : Option Tmp} (hu : P.underlying t = some u) (hz : Sz P t z) (hr : ARun P ops n QQ l (ks ++ [.rd]) (putS σ d Y) H) (ho : o.op = .load t x := by exact rfl) (hd : o.dst = d := by exact rfl) (hn : dstLt n d = true := by exact rfl) (hG : gdS ops σ o.guard = some gd := by exact rfl) (hA : isA u = true := by exact rfl) (hx : Ev gd σ x (.box i off) := by exact ep rfl) (hH : H[i]? = some (.box cs) := by exact (GOK.at (by assumption) _ _).trans rfl) (hC : (cs.drop off).take z = C := by exact rfl) (hCz : C.length = z := by exact rfl) (hY : optA o.guard gd (.agg C) = Y := by exact optN) : ARun P ops n QQ (o :: l) ks σ H := ARun.loadBoxA ho hd hn hG hu hA hz hx hH hC hCz hY hr
theorem ρA {H : List AO} {x : Operand} {t : TypeId} {u : TypeDesc} {i off : Nat} {cs : List AV} {X Y : AV} {d : Option Tmp} (hu : P.underlying t = some u) (hH : H[i]? = some (.box cs)) (hr : ARun P ops n QQ l (ks ++ [.rd]) (putS σ d Y) H) (ho : o.op = .load t x := by exact rfl) (hd : o.dst = d := by exact rfl) (hn : dstLt n d = true := by exact rfl) (hG : gdS ops σ o.guard = some gd := by exact rfl) (hA : isA u = false := by exact rfl) (hx : Ev gd σ x (.box i off) := by exact ep rfl) (hC : cs[off]? = some X := by exact rfl) (hY : optA o.guard gd X = Y := by exact optN) : ARun P ops n QQ (o :: l) ks σ H := ARun.loadBox ho hd hn hG hu hA hx hH hC hY hr
end
section
theorem ρ9 {P : Program} {fn : Func} {X X' : AV} {σ : Sl} {G L : List AO} {r : ResultVar} {e : Exit} (hX : X = X') (he : e = .normal ∨ e = .ret := by exact .inr rfl) (hr : fn.results = #[r] := by exact rfl) (h : RV1 P σ (G ++ L) r X := by exact .tmp rfl) (hn : NoH G.length X' := by assumption) : endF P fn X' G e σ G L := endF.one he hr h hX hn
theorem ρB {P : Program} {fn : Func} {Xs Xs' : List AV} {σ : Sl} {G L : List AO} {rs : List ResultVar} {e : Exit} (h : RVs P σ (G ++ L) rs Xs) (hX : Xs = Xs') (he : e = .normal ∨ e = .ret := by exact .inr rfl) (hr : fn.results = rs.toArray := by exact rfl) (h1 : Xs.length ≠ 1 := by simp) (hn : NoH G.length (.tup Xs') := by assumption) : endF P fn (.tup Xs') G e σ G L := endF.many he hr h h1 hX hn
theorem ρC {P : Program} {fn : Func} {X X' : AV} {σ : Sl} {G L : List AO} {r : ResultVar} {e : Exit} (hX : X = X') (he : e = .normal ∨ e = .ret := by exact .inr rfl) (hr : fn.results = #[r] := by exact rfl) (h : RV1 P σ (G ++ L) r X := by exact .tmp rfl) (hn : NoH G.length X') : endF P fn X' G e σ G L := endF.one he hr h hX hn
end
section
variable {P : Program} {ops : Array Oper} {n m : Nat} {QQ : List Kd → Sl → List AO → Prop} {l : List Oper} {ks : List Kd} {σ : Sl} {G L H : List AO} {o : Oper} {gd : Bool}
theorem ρf {f : Operand} {args : Array Operand} {ats : Array TypeId} {F : FuncId} {fs cs xs as_ : List AV} {r Y : AV} {d : Option Tmp} (hcf : ∀ (as_ : Array Value) (W : World), (callFunc F as_).run P W = .ok (.enter F as_) W) (hF : gd = true → FnP P F as_ r) (hr : ARun P ops n QQ l (ks ++ [.pure]) (putS σ d Y) H) (ho : o.op = .call { callee := .value f, args := args, argTypes := ats } := by exact rfl) (hd : o.dst = d := by exact rfl) (hn : dstLt n d = true := by exact rfl) (hG : gdS ops σ o.guard = some gd := by exact rfl) (hf : Ev gd σ f (.fn (.func F) fs cs) := by exact ep rfl) (hx : EvL gd σ args.toList xs := by exact .cons (ep rfl) .nil) (has : fs ++ xs ++ cs = as_ := by exact rfl) (hY : optA o.guard gd r = Y := by exact optN) : ARun P ops n QQ (o :: l) ks σ H := ARun.call ho hd hn hG hcf hf hx has hF hY hr
theorem ρi {f : Operand} {args : Array Operand} {ats : Array TypeId} {F : FuncId} {fs cs xs as_ : List AV} {r Y : AV} {d : Option Tmp} (hcf : ∀ (as_ : Array Value) (W : World), (callFunc F as_).run P W = .ok (.enter F as_) W) (hF : gd = true → FnP P F as_ r) (hr : ARun P ops n QQ l (ks ++ [.pure]) (putS σ d Y) H) (ho : o.op = .call { callee := .value f, args := args, argTypes := ats } := by exact rfl) (hd : o.dst = d := by exact rfl) (hn : dstLt n d = true := by exact rfl) (hG : gdS ops σ o.guard = some gd := by exact rfl) (hf : Ev gd σ f (.fn (.func F) fs cs) := by exact ep rfl) (hx : EvL gd σ args.toList xs := by exact .cons (Ev.opt rfl (fun h => h)) .nil) (has : fs ++ xs ++ cs = as_ := by exact rfl) (hY : optA o.guard gd r = Y := by exact optS) : ARun P ops n QQ (o :: l) ks σ H := ARun.call ho hd hn hG hcf hf hx has hF hY hr
theorem ρk {f : Operand} {args : Array Operand} {ats : Array TypeId} {F : FuncId} {fs cs xs as_ : List AV} {r Y : AV} {d : Option Tmp} (hcf : ∀ (as_ : Array Value) (W : World), (callFunc F as_).run P W = .ok (.enter F as_) W) (hF : gd = true → FnP P F as_ r) (hr : ARun P ops n QQ l (ks ++ [.pure]) (putS σ d Y) H) (ho : o.op = .call { callee := .value f, args := args, argTypes := ats } := by exact rfl) (hd : o.dst = d := by exact rfl) (hn : dstLt n d = true := by exact rfl) (hG : gdS ops σ o.guard = some gd := by exact rfl) (hf : Ev gd σ f (.fn (.func F) fs cs) := by exact ep rfl) (hx : EvL gd σ args.toList xs := by exact .cons (ep rfl) (.cons (ep rfl) .nil)) (has : fs ++ xs ++ cs = as_ := by exact rfl) (hY : optA o.guard gd r = Y := by exact optN) : ARun P ops n QQ (o :: l) ks σ H := ARun.call ho hd hn hG hcf hf hx has hF hY hr
theorem ρp {t : TypeId} {j : Nat} {zv : Value} {C : List AV} {Y : AV} {d : Option Tmp} (hz : Zv P t zv) (hr : ARun P ops n QQ l (ks ++ [.new]) (putS σ d Y) (G ++ (L ++ [.box C]))) (hm : GOK m G := by assumption) (hj : L.length = j := by exact rfl) (ho : o.op = .alloc t := by exact rfl) (hd : o.dst = d := by exact rfl) (hn : dstLt n d = true := by exact rfl) (hg : gdS ops σ o.guard = some true := by exact rfl) (hC : zv.cells.toList.map cAV = C := by exact rfl) (hY : optA o.guard true (.box (m + j) 0) = Y := by exact optN) : ARun P ops n QQ (o :: l) ks σ (G ++ L) := ARun.alloc hm hj ho hd hn hg hz hC hY hr
theorem ρt {x : Operand} {t : TypeId} {X : AV} {C : List AV} {Y : AV} {d : Option Tmp} (hr : ARun P ops n QQ l (ks ++ [.pure]) (putS σ d Y) H) (ho : o.op = .box t x := by exact rfl) (hd : o.dst = d := by exact rfl) (hn : dstLt n d = true := by exact rfl) (hG : gdS ops σ o.guard = some gd := by exact rfl) (hx : Ev gd σ x X := by exact ep rfl) (hC : X.cells = C := by exact rfl) (hp : shaped X = true := by exact rfl) (hY : optA o.guard gd (.pe C) = Y := by exact optN) : ARun P ops n QQ (o :: l) ks σ H := ARun.boxPe ho hd hn hG hx hC hp hY hr
theorem ρv {f : Operand} {args : Array Operand} {ats : Array TypeId} {F j : Nat} {fs cs xs ax : List AV} {r Y : AV} {d : Option Tmp} {ob : AO} {L' : List AO} (hcf : ∀ (va : Array Value) (W : World), (callFunc F va).run P W = .ok (.enter F va) W) (hF : FnH P F ax (G ++ L) r ((G ++ L).set (m + j) ob)) (hr : ARun P ops n QQ l (ks ++ [.write]) (putS σ d Y) (G ++ L')) (hm : GOK m G := by assumption) (ho : o.op = .call { callee := .value f, args := args, argTypes := ats } := by exact rfl) (hd : o.dst = d := by exact rfl) (hn : dstLt n d = true := by exact rfl) (hG : gdS ops σ o.guard = some true := by exact rfl) (hf : Ev true σ f (.fn (.func F) fs cs) := by exact ep rfl) (hx : EvL true σ args.toList xs := by exact .cons (ep rfl) .nil) (has : fs ++ xs ++ cs = ax := by exact rfl) (hL : L.set j ob = L' := by exact rfl) (hY : optA o.guard true r = Y := by exact optN) : ARun P ops n QQ (o :: l) ks σ (G ++ L) := ARun.callSet hm ho hd hn hG hcf hf hx has hF hL hY hr
theorem ρw {x : Operand} {cs : List AV} {Y : AV} {d : Option Tmp} (hr : ARun P ops n QQ l (ks ++ [.pure]) (putS σ d Y) H) (ho : o.op = .nilCheck x := by exact rfl) (hd : o.dst = d := by exact rfl) (hn : dstLt n d = true := by exact rfl) (hG : gdS ops σ o.guard = some gd := by exact rfl) (hx : Ev gd σ x (.pe cs) := by exact ep rfl) (hY : optA o.guard gd (.pe cs) = Y := by exact optN) : ARun P ops n QQ (o :: l) ks σ H := ARun.nilPe ho hd hn hG hx hY hr
theorem ρx {x : Operand} {f : FuncId} {fs cs : List AV} {Y : AV} {d : Option Tmp} (hr : ARun P ops n QQ l (ks ++ [.pure]) (putS σ d Y) H) (ho : o.op = .nilCheck x := by exact rfl) (hd : o.dst = d := by exact rfl) (hn : dstLt n d = true := by exact rfl) (hG : gdS ops σ o.guard = some gd := by exact rfl) (hx : Ev gd σ x (.fn (.func f) fs cs) := by exact ep rfl) (hY : optA o.guard gd (.fn (.func f) fs cs) = Y := by exact optN) : ARun P ops n QQ (o :: l) ks σ H := ARun.nilFn ho hd hn hG hx hY hr
theorem ρy {t e : TypeId} {len : Nat} {parts : Array (Nat × Operand)} {ps : List (Nat × AV)} {z : Nat} {zv : Value} {C xs : List AV} {Y : AV} {d : Option Tmp} (hu : P.underlying t = some (.slice e)) (hz : Sz P e z) (hzv : Zv P e zv) (hr : ARun P ops n QQ l (ks ++ [.pure]) (putS σ d Y) H) (ho : o.op = .buildSlice t len parts := by exact rfl) (hd : o.dst = d := by exact rfl) (hn : dstLt n d = true := by exact rfl) (hG : gdS ops σ o.guard = some gd := by exact rfl) (hzs : zv.cells.size = z := by exact rfl) (hbig : len * z ≤ 2 ^ 24 := by decide) (hx : EvP gd σ parts.toList ps := by exact .cons (ep rfl) .nil) (hs : (ps.all fun p => shaped p.2) = true := by exact rfl) (hxs : ps.map (·.2) = xs := by exact rfl) (hlen : xs.length = len := by exact rfl) (hall : (xs.all fun x => Nat.beq x.cells.length z) = true := by exact rfl) (hm : len ≤ maxLen := by decide) (hC : fillA (fun i => some (i * z, z)) ((List.range (len * z)).map fun j => cAV (zv.cells.toList.getD (j % zv.cells.size) default)) ps = some C := by exact rfl) (hCx : C = xs.flatMap AV.cells := by exact rfl) (hY : optA o.guard gd (.sl xs) = Y := by exact optN) : ARun P ops n QQ (o :: l) ks σ H := ARun.buildSl ho hd hn hG hu hz hzv hzs hbig hx hs hxs hlen hall hm hC hCx hY hr
theorem ρz {x : Operand} {i off : Nat} {cs : List AV} {Y : AV} {d : Option Tmp} (hH : H[i]? = some (.box cs)) (hr : ARun P ops n QQ l (ks ++ [.pure]) (putS σ d Y) H) (ho : o.op = .nilCheck x := by exact rfl) (hd : o.dst = d := by exact rfl) (hn : dstLt n d = true := by exact rfl) (hG : gdS ops σ o.guard = some gd := by exact rfl) (hx : Ev gd σ x (.box i off) := by exact ep rfl) (hY : optA o.guard gd (.box i off) = Y := by exact optN) : ARun P ops n QQ (o :: l) ks σ H := ARun.nilBox ho hd hn hG hx hH hY hr
end
section
variable {P : Program} {n m : Nat} {Q : QA} {σ : Sl} {G L : List AO}
theorem ρo {c : Operand} {x y : Code} {b : Bool} (ht : b = true → AWP P n m x Q σ G L) (hf : b = false → AWP P n m y Q σ G L) (hc : evS σ c = some (.bool b) := by exact rfl) : AWP P n m (.cond c x y) Q σ G L := AWP.cond hc ht hf
end
end Go.Proofs.YtnlpojjfkgnhhaaGreatDoor
namespace Go.Proofs.YtnlpojjfkgnhhaaGreatDoor
open Go.RowKit Go.Extern.Stop Go.Stop Go.Extern
inductive Er where
 | none
 | no (c : Int)
 | wr (op : ByteArray) (e : Er)
deriving Inhabited
def aEr : Er → AV
 | .none => .raw .nilIface
 | .no c => .ifc 31 (.int .i64 c)
 | .wr op e => .ifc 127 (.pe [.str op, aEr e])
def aFl : Er → AV
 | .wr op e => .pe [.str op, aEr e]
 | _ => .raw (.pointer none)
def Er.isNone : Er → Bool | .none => true | _ => false
def Er.isWr : Er → Bool | .wr _ _ => true | _ => false
def Er.isIt (e : Er) (c : Int) : Bool := match e with | .no d => decide (d = c) | _ => false
def Er.inner : Er → Er | .wr _ e => e.inner | e => e
def Er.depth : Er → Nat | .wr _ e => e.depth + 1 | _ => 0
def Er.new (op : ByteArray) (c : Int) : Er := if c = 0 then .none else .wr op (.no c)
def Er.wrap (op : ByteArray) (e : Er) : Er := if e.isNone then .none else .wr op e
def Er.found (e : Er) : Option Int := match e.inner with | .no c => some c | _ => Option.none
def Er.code (e : Er) : Int := match e with | .none => 0 | e => match e.found with | some c => if c = 0 then 2 else c | Option.none => 2
theorem nilA_aEr (e : Er) : nilA (aEr e) = some e.isNone := by cases e <;> rfl
theorem nilP_aFl (e : Er) : nilP (aFl e) = some (!e.isWr) := by cases e <;> rfl
@[simp] theorem noH_aEr (m : Nat) (e : Er) : NoH m (aEr e) := by
 induction e with
 | none => exact .raw _
 | no c => exact .ifc _ _ (.int _ _)
 | wr op e ih => exact .ifc _ _ (.pe _ (by simp [ih]))
@[simp] theorem noH_aFl (m : Nat) (e : Er) : NoH m (aFl e) := by
 cases e <;> simp [aFl]
theorem aEr_one (e : Er) : (aEr e).one = true := by cases e <;> rfl
theorem aFl_one (e : Er) : (aFl e).one = true := by cases e <;> rfl
@[simp] theorem aEr_cells (e : Er) : (aEr e).cells = [aEr e] := by cases e <;> rfl
@[simp] theorem aFl_cells (e : Er) : (aFl e).cells = [aFl e] := by cases e <;> rfl
def Er.ty : Er → TypeId | .wr _ _ => 127 | _ => 31
def Er.held : Er → AV | .wr op e => .pe [.str op, aEr e] | .no c => .int .i64 c | .none => .raw .nilIface
theorem aEr_ifc {e : Er} (h : e.isNone = false) : aEr e = .ifc e.ty e.held := by cases e <;> first | rfl | cases h
def hT (t : TypeId) : AV := .raw (.pointer (some ⟨1, t, none⟩))
def rT (t : TypeId) : AV := .ifc 199 (.agg [hT t])
@[simp] theorem noH_hT (m : Nat) (t : TypeId) : NoH m (hT t) := .raw _
@[simp] theorem noH_rT (m : Nat) (t : TypeId) : NoH m (rT t) := .ifc _ _ (.agg _ (by simp))
theorem hT_inv {β : List Hd} {w : World} {v : Value} {t : TypeId} (h : VRep β w v (hT t)) : v = .pointer (some ⟨1, t, none⟩) := h.raw_inv
theorem rT_inv {β : List Hd} {w : World} {v : Value} {t : TypeId} (h : VRep β w v (rT t)) : v = .iface 199 (.agg #[.pointer (some ⟨1, t, none⟩)]) := by
 obtain ⟨u, rfl, h'⟩ := h.ifc_inv
 obtain ⟨x, rfl, h''⟩ := h'.agg1
 rw [hT_inv h'']
theorem rT_mk (β : List Hd) (w : World) (t : TypeId) : VRep β w (.iface 199 (.agg #[.pointer (some ⟨1, t, none⟩)])) (rT t) := .ifc _ _ _ (VRep.mk1 (.raw _))
theorem glob_mem : (0, .iface 199 (.agg #[.pointer (some ⟨1, 28, none⟩)])) ∈ globs := by simp [globs]
theorem invM {name : String} {F : FuncId} {t : TypeId} {X' : AV} {v' : Value} (h : ∀ w, (Go.method (Tryz.prog.types.size + Made.depth) 199 (.agg #[.pointer (some ⟨1, t, none⟩)]) name).run Tryz.prog w = .ok (F, v') w) (hv : ∀ β w, VRep β w v' X') : Inv Tryz.prog (rT t) name F X' := by
 intro W β u hu
 rw [rT_inv hu]
 exact ⟨_, _, _, rfl, h W, hv β W⟩
theorem inv_kind (t : TypeId) : Inv Tryz.prog (rT t) "Kind" 205 (hT t) := invM (fun w => by kernel_rfl) (fun _ _ => .raw _)
theorem inv_elem (t : TypeId) : Inv Tryz.prog (rT t) "Elem" 218 (.agg [hT t]) := invM (fun w => by kernel_rfl) (fun _ _ => VRep.mk1 (.raw _))
theorem inv_impl (t : TypeId) : Inv Tryz.prog (rT t) "Implements" 219 (.agg [hT t]) := invM (fun w => by kernel_rfl) (fun _ _ => VRep.mk1 (.raw _))
theorem inv_asg (t : TypeId) : Inv Tryz.prog (rT t) "AssignableTo" 216 (.agg [hT t]) := invM (fun w => by kernel_rfl) (fun _ _ => VRep.mk1 (.raw _))
theorem inv_comp (t : TypeId) : Inv Tryz.prog (rT t) "Comparable" 217 (.agg [hT t]) := invM (fun w => by kernel_rfl) (fun _ _ => VRep.mk1 (.raw _))
theorem rlm (z : Sem Value) (f : TypeId → Addr → Nat → Nat → Sem Value) (v : Value) :
   ReflectliteValue.method z f #[v] = (do match ← ReflectliteValue.parts v with | Option.none => z | some (t, a, fl) => f t a fl (fl % 32)) := rfl
theorem rls (v x : Value) : ReflectliteValue.set #[v, x] = (do
   let (some (dst, a, fl), some (src, b, _)) := (← ReflectliteValue.parts v, ← ReflectliteValue.parts x)
     | unsupported (.noEntry "extern/(internal/reflectlite.Value).Set.zeroValue")
   if fl / ReflectliteValue.flagAddr % 2 == 0 then unsupported (.noEntry "extern/(internal/reflectlite.Value).Set.unaddressable")
   let val ← loadVar src b
   if ← Rtype.directlyAssignable dst src then storeVar dst a val
   else if ← Rtype.implements dst src then
     if (← Rtype.kind src) == 20 then
       match val with
       | .nilIface => unsupported (.noEntry "extern/reflectlite: a nil value of one interface type handed on as a value of another")
       | _ => storeVar dst a val
     else storeVar dst a (.iface src val)
   else panicString ("reflectlite.Set: value of type " ++ (← Rtype.spelt src) ++ " is not assignable to type " ++ (← Rtype.spelt dst))
   pure (.tuple #[])) := rfl
theorem ext_valueOf (args : Array Value) (w : World) : (callFunc 57 args).run Tryz.prog w = ((((fun args => ReflectliteValue.unpack (args.getD 0 (.tuple #[]))) : Array Value → Sem Value) args).run Tryz.prog w).andThen fun v w' => .ok (.value v) w' :=
 run_callFunc_extern (e := fun args => ReflectliteValue.unpack (args.getD 0 (.tuple #[]))) Tryz.func57 (by kernel_rfl) (by kernel_rfl) (by kernel_rfl) (by kernel_rfl) args w
theorem ext_type (args : Array Value) (w : World) : (callFunc 58 args).run Tryz.prog w = ((((ReflectliteValue.methodAny (ReflectliteValue.valueError "reflectlite.Value.Type" 0) (fun t _ _ _ => ReflectliteType.toType t)) : Array Value → Sem Value) args).run Tryz.prog w).andThen fun v w' => .ok (.value v) w' :=
 run_callFunc_extern (e := ReflectliteValue.methodAny (ReflectliteValue.valueError "reflectlite.Value.Type" 0) (fun t _ _ _ => ReflectliteType.toType t)) Tryz.func58 (by kernel_rfl) (by kernel_rfl) (by kernel_rfl) (by kernel_rfl) args w
theorem ext_isNil (args : Array Value) (w : World) : (callFunc 59 args).run Tryz.prog w = ((((ReflectliteValue.method (ReflectliteValue.valueError "reflectlite.Value.IsNil" 0) ReflectliteValue.isNil) : Array Value → Sem Value) args).run Tryz.prog w).andThen fun v w' => .ok (.value v) w' :=
 run_callFunc_extern (e := ReflectliteValue.method (ReflectliteValue.valueError "reflectlite.Value.IsNil" 0) ReflectliteValue.isNil) Tryz.func59 (by kernel_rfl) (by kernel_rfl) (by kernel_rfl) (by kernel_rfl) args w
theorem ext_kind (args : Array Value) (w : World) : (callFunc 205 args).run Tryz.prog w = ((((ReflectliteType.abiMethod fun t => do pure (.int .u8 (← Rtype.kind t))) : Array Value → Sem Value) args).run Tryz.prog w).andThen fun v w' => .ok (.value v) w' :=
 run_callFunc_extern (e := ReflectliteType.abiMethod fun t => do pure (.int .u8 (← Rtype.kind t))) Tryz.func205 (by kernel_rfl) (by kernel_rfl) (by kernel_rfl) (by kernel_rfl) args w
theorem ext_elem (args : Array Value) (w : World) : (callFunc 218 args).run Tryz.prog w = ((((ReflectliteType.method ReflectliteType.elem) : Array Value → Sem Value) args).run Tryz.prog w).andThen fun v w' => .ok (.value v) w' :=
 run_callFunc_extern (e := ReflectliteType.method ReflectliteType.elem) Tryz.func218 (by kernel_rfl) (by kernel_rfl) (by kernel_rfl) (by kernel_rfl) args w
theorem ext_impl (args : Array Value) (w : World) : (callFunc 219 args).run Tryz.prog w = ((((ReflectliteType.relation "Implements" ReflectliteType.implements_) : Array Value → Sem Value) args).run Tryz.prog w).andThen fun v w' => .ok (.value v) w' :=
 run_callFunc_extern (e := ReflectliteType.relation "Implements" ReflectliteType.implements_) Tryz.func219 (by kernel_rfl) (by kernel_rfl) (by kernel_rfl) (by kernel_rfl) args w
theorem ext_typeOf (args : Array Value) (w : World) : (callFunc 61 args).run Tryz.prog w = ((((ReflectliteType.typeOf) : Array Value → Sem Value) args).run Tryz.prog w).andThen fun v w' => .ok (.value v) w' :=
 run_callFunc_extern (e := ReflectliteType.typeOf) Tryz.func61 (by kernel_rfl) (by kernel_rfl) (by kernel_rfl) (by kernel_rfl) args w
theorem ext_asg (args : Array Value) (w : World) : (callFunc 216 args).run Tryz.prog w = ((((ReflectliteType.relation "AssignableTo" ReflectliteType.assignableTo) : Array Value → Sem Value) args).run Tryz.prog w).andThen fun v w' => .ok (.value v) w' :=
 run_callFunc_extern (e := ReflectliteType.relation "AssignableTo" ReflectliteType.assignableTo) Tryz.func216 (by kernel_rfl) (by kernel_rfl) (by kernel_rfl) (by kernel_rfl) args w
theorem ext_comp (args : Array Value) (w : World) : (callFunc 217 args).run Tryz.prog w = ((((ReflectliteType.method fun t => do Rtype.noPackHeld "Comparable" t; pure (.bool (← typeInfo t).comparable)) : Array Value → Sem Value) args).run Tryz.prog w).andThen fun v w' => .ok (.value v) w' :=
 run_callFunc_extern (e := ReflectliteType.method fun t => do Rtype.noPackHeld "Comparable" t; pure (.bool (← typeInfo t).comparable)) Tryz.func217 (by kernel_rfl) (by kernel_rfl) (by kernel_rfl) (by kernel_rfl) args w
theorem ext_elemV (args : Array Value) (w : World) : (callFunc 105 args).run Tryz.prog w = ((((ReflectliteValue.method (ReflectliteValue.valueError "reflectlite.Value.Elem" 0) ReflectliteValue.elem) : Array Value → Sem Value) args).run Tryz.prog w).andThen fun v w' => .ok (.value v) w' :=
 run_callFunc_extern (e := ReflectliteValue.method (ReflectliteValue.valueError "reflectlite.Value.Elem" 0) ReflectliteValue.elem) Tryz.func105 (by kernel_rfl) (by kernel_rfl) (by kernel_rfl) (by kernel_rfl) args w
theorem ext_set (args : Array Value) (w : World) : (callFunc 106 args).run Tryz.prog w = ((((ReflectliteValue.set) : Array Value → Sem Value) args).run Tryz.prog w).andThen fun v w' => .ok (.value v) w' :=
 run_callFunc_extern (e := ReflectliteValue.set) Tryz.func106 (by kernel_rfl) (by kernel_rfl) (by kernel_rfl) (by kernel_rfl) args w
/-! ### E -/
theorem rf_kindPE (w : World) : ((ReflectliteType.abiMethod fun t => do pure (.int .u8 (← Rtype.kind t))) #[.pointer (some ⟨1, 83, none⟩)]).run Tryz.prog w = .ok (.int .u8 22) w := by kernel_rfl
theorem rf_kindE (w : World) : ((ReflectliteType.abiMethod fun t => do pure (.int .u8 (← Rtype.kind t))) #[.pointer (some ⟨1, 31, none⟩)]).run Tryz.prog w = .ok (.int .u8 2) w := by kernel_rfl
theorem rf_typeE (a : Addr) (w : World) : (ReflectliteValue.methodAny (ReflectliteValue.valueError "reflectlite.Value.Type" 0) (fun t _ _ _ => ReflectliteType.toType t) #[.agg #[.pointer (some ⟨1, 83, none⟩), .pointer (some a), .int .u64 150]]).run Tryz.prog w = .ok (.iface 199 (.agg #[.pointer (some ⟨1, 83, none⟩)])) w := by kernel_rfl
theorem rf_valueOfPE (t : Addr) (w : World) : (ReflectliteValue.unpack (.iface 83 (.pointer (some t)))).run Tryz.prog w = .ok (.agg #[.pointer (some ⟨1, 83, none⟩), .pointer (some ⟨w.heap.size, 0, none⟩), .int .u64 150]) (w.alloc (.cells #[.pointer (some t)] 83)) := by kernel_rfl
theorem rf_partsE (a : Addr) (w : World) : (ReflectliteValue.parts (.agg #[.pointer (some ⟨1, 83, none⟩), .pointer (some a), .int .u64 150])).run Tryz.prog w = .ok (some (83, a, 150)) w := by kernel_rfl
theorem rf_partsDE (a : Addr) (w : World) : (ReflectliteValue.parts (.agg #[.pointer (some ⟨1, 31, none⟩), .pointer (some a), .int .u64 386])).run Tryz.prog w = .ok (some (31, a, 386)) w := by kernel_rfl
theorem rf_partsSE (a : Addr) (w : World) : (ReflectliteValue.parts (.agg #[.pointer (some ⟨1, 31, none⟩), .pointer (some a), .int .u64 130])).run Tryz.prog w = .ok (some (31, a, 130)) w := by kernel_rfl
theorem rf_elemE (w : World) : (ReflectliteType.method ReflectliteType.elem #[.agg #[.pointer (some ⟨1, 83, none⟩)]]).run Tryz.prog w = .ok (.iface 199 (.agg #[.pointer (some ⟨1, 31, none⟩)])) w := by kernel_rfl
theorem rf_implE (w : World) : (ReflectliteType.relation "Implements" ReflectliteType.implements_ #[.agg #[.pointer (some ⟨1, 31, none⟩)], .iface 199 (.agg #[.pointer (some ⟨1, 28, none⟩)])]).run Tryz.prog w = .ok (.bool true) w := by kernel_rfl
theorem rf_elemOfE (w : World) : (Rtype.elem? 83).run Tryz.prog w = .ok (some 31) w := by kernel_rfl
theorem rf_mkE (p : Addr) (w : World) : (ReflectliteValue.mk 31 p ReflectliteValue.flagAddr).run Tryz.prog w = .ok (.agg #[.pointer (some ⟨1, 31, none⟩), .pointer (some p), .int .u64 386]) w := by kernel_rfl
theorem rf_directE (w : World) : (Rtype.directlyAssignable 31 31).run Tryz.prog w = .ok true w := by kernel_rfl
theorem rf_sizeE (w : World) : (sizeOf 31).run Tryz.prog w = .ok 1 w := by kernel_rfl
theorem x_kindPE : FnXP Tryz.prog 205 [hT 83] (.int .u8 22) := by
 intro w β vs hβ hv
 obtain ⟨a, rfl, h⟩ := hv.single
 rw [hT_inv h]
 exact ⟨_, w, by rw [ext_kind, rf_kindPE]; rfl, Below.refl _ _, .int _ _⟩
theorem x_kindE : FnXP Tryz.prog 205 [hT 31] (.int .u8 2) := by
 intro w β vs hβ hv
 obtain ⟨a, rfl, h⟩ := hv.single
 rw [hT_inv h]
 exact ⟨_, w, by rw [ext_kind, rf_kindE]; rfl, Below.refl _ _, .int _ _⟩
theorem x_elemE : FnXP Tryz.prog 218 [.agg [hT 83]] (rT 31) := by
 intro w β vs hβ hv
 obtain ⟨a, rfl, h⟩ := hv.single
 obtain ⟨b, rfl, h'⟩ := h.agg1
 rw [hT_inv h']
 exact ⟨_, w, by rw [ext_elem, rf_elemE]; rfl, Below.refl _ _, rT_mk _ _ _⟩
theorem x_implE : FnXP Tryz.prog 219 [.agg [hT 31], rT 28] (.bool true) := by
 intro w β vs hβ hv
 obtain ⟨a, c, rfl, h, k⟩ := hv.two
 obtain ⟨b, rfl, h'⟩ := h.agg1
 rw [hT_inv h', rT_inv k]
 exact ⟨_, w, by rw [ext_impl, rf_implE]; rfl, Below.refl _ _, .bool _⟩
theorem x_valueOfPE {H : List AO} {i off : Nat} {cs : List AV} (hi : H[i]? = some (.box cs)) : FnX Tryz.prog 57 [.ifc 83 (.box i off)] H (.agg [hT 83, .pe [.box i off], .int .u64 150]) H := by
 intro w β vs hH hv
 obtain ⟨a, rfl, h⟩ := hv.single
 obtain ⟨u, rfl, h0⟩ := h.ifc_inv
 obtain ⟨b, arr, T, h1, rfl, h3, h4, h5⟩ := h0.box_at hH hi
 have hb : Below w.heap.size w (w.alloc (.cells #[.pointer (some ⟨b, off, Option.none⟩)] 83)) := (Below.refl _ _).alloc (Nat.le_refl _) _
 refine ⟨.agg #[.pointer (some ⟨1, 83, none⟩), .pointer (some ⟨w.heap.size, 0, Option.none⟩), .int .u64 150], w.alloc (.cells #[.pointer (some ⟨b, off, Option.none⟩)] 83), β, ?_, Ext.of_below β hb, hH.below hb, ?_⟩
 · have hk := rf_valueOfPE ⟨b, off, Option.none⟩ w
   rw [ext_valueOf]
   show Result.andThen ((ReflectliteValue.unpack (Value.iface 83 (.pointer (some ⟨b, off, Option.none⟩)))).run Tryz.prog w) _ = _
   rw [hk]; rfl
 · refine VRep.mk3 (.raw _) (CRep.pe (vs := #[.pointer (some ⟨b, off, Option.none⟩)]) (fun y hy b' hb' => ?_) ⟨rfl, fun q u y e1 e2 => ?_⟩) (.int _ _)
   · obtain ⟨j, hj, rfl⟩ := List.mem_iff_getElem.1 hy
     exact hH.lt (List.getElem?_eq_getElem hj) hb'
   · cases q with
     | zero => simp at e1 e2; subst e1 e2; exact h0
     | succ q => simp at e1
theorem x_typeE (X : List AV) : FnXP Tryz.prog 58 [.agg [hT 83, .pe X, .int .u64 150]] (rT 83) := by
 intro w β vs hβ hv
 obtain ⟨a, rfl, h⟩ := hv.single
 obtain ⟨x, y, z, rfl, h1, h2, h3⟩ := h.agg3
 rw [hT_inv h1, h3.int_inv]
 obtain ⟨b, off, rfl, _⟩ := h2.pe_inv
 exact ⟨_, w, by rw [ext_type, rf_typeE]; rfl, Below.refl _ _, rT_mk _ _ _⟩
theorem x_isNilE {H : List AO} {i off : Nat} {cs : List AV} (hi : H[i]? = some (.box cs)) : FnX Tryz.prog 59 [.agg [hT 83, .pe [.box i off], .int .u64 150]] H (.bool false) H := by
 intro w β vs hH hv
 obtain ⟨a, rfl, h⟩ := hv.single
 obtain ⟨x, y, z, rfl, h1, h2, h3⟩ := h.agg3
 rw [hT_inv h1, h3.int_inv]
 obtain ⟨b, o2, rfl, hb, hS, hc⟩ := h2.pe_inv
 obtain ⟨u, hu, hr⟩ := hc 0 _ rfl
 obtain ⟨b2, arr, T, k1, rfl, k3, k4, k5⟩ := hr.box_at hH hi
 refine ⟨.bool false, w, β, ?_, Ext.refl _ _, hH, .bool _⟩
 rw [Nat.add_zero] at hu
 rw [ext_isNil, rlm]
 simp only [Sem.run_bind, rf_partsE, Result.andThen]
 simp [ReflectliteValue.isNil, loadVar, isAgg, underlying, U83, hu, Result.andThen]
theorem x_elemVE {H : List AO} {i off : Nat} {cs : List AV} (hi : H[i]? = some (.box cs)) : FnX Tryz.prog 105 [.agg [hT 83, .pe [.box i off], .int .u64 150]] H (.agg [hT 31, .box i off, .int .u64 386]) H := by
 intro w β vs hH hv
 obtain ⟨a, rfl, h⟩ := hv.single
 obtain ⟨x, y, z, rfl, h1, h2, h3⟩ := h.agg3
 rw [hT_inv h1, h3.int_inv]
 obtain ⟨b, o2, rfl, hb, hS, hc⟩ := h2.pe_inv
 obtain ⟨u, hu, hr⟩ := hc 0 _ rfl
 obtain ⟨b2, arr, T, k1, rfl, k3, k4, k5⟩ := hr.box_at hH hi
 refine ⟨.agg #[.pointer (some ⟨1, 31, none⟩), .pointer (some ⟨b2, off, Option.none⟩), .int .u64 386], w, β, ?_, Ext.refl _ _, hH, VRep.mk3 (.raw _) hr (.int _ _)⟩
 rw [Nat.add_zero] at hu
 rw [ext_elemV, rlm]
 simp only [Sem.run_bind, rf_partsE, Result.andThen]
 simp [ReflectliteValue.elem, loadVar, isAgg, underlying, U83, hu, Result.andThen, rf_elemOfE, rf_mkE]
theorem x_setE {H : List AO} {i : Nat} {old X : AV} (hi : H[i]? = some (.box [old])) (hX : X.one = true) (hold : old.plainC = true) : FnX Tryz.prog 106 [.agg [hT 31, .box i 0, .int .u64 386], .agg [hT 31, .pe [X], .int .u64 130]] H (.tup []) (H.set i (.box [X])) := by
 intro w β vs hH hv
 obtain ⟨a, c, rfl, h, g⟩ := hv.two
 obtain ⟨x, y, z, rfl, h1, h2, h3⟩ := h.agg3
 obtain ⟨x', y', z', rfl, g1, g2, g3⟩ := g.agg3
 rw [hT_inv h1, h3.int_inv, hT_inv g1, g3.int_inv]
 obtain ⟨b, arr, T, k1, rfl, k3, k4, k5⟩ := h2.box_at hH hi
 obtain ⟨b2, o2, rfl, hb, hS, hc⟩ := g2.pe_inv
 obtain ⟨u, hu, hr⟩ := hc 0 _ rfl
 have hu1 := hr.one hX
 have hst := run_storeCells_at Tryz.prog b 0 T [u] 0 arr w k3 (by simp [k4]) (by simpa using hu1)
 have hcs : u.cells = #[u] := by cases u <;> first | rfl | cases hu1
 have harr : (arr.toList.take 0 ++ [u] ++ arr.toList.drop (0 + 1)).toArray = #[u] := by
   have : arr.toList.drop 1 = [] := List.drop_of_length_le (by simp [k4])
   simp [this]
 simp only [Nat.add_zero, List.length_singleton] at hst
 rw [harr] at hst
 have hset := hH.setB k1 hi (cs' := [X]) (w' := w.setRow b #[u]) (by simp) (by simp) (by simp) (by simp) (fun k hk => setRow_other w b k _ hk) (fun hx => by
   refine ⟨_, setRow_heap w b arr _ T (0, 0) k3, rfl, fun q u' y' hq hy' => ?_, fun q y' hq hpl => ?_, fun _ => by simp [one_plain hX]⟩
   · cases q with
     | zero => simp at hq hy'; subst hq hy'; exact hr.ext hx
     | succ q => simp at hq
   · cases q with
     | zero => simp at hq; subst hq; rw [hold] at hpl; cases hpl
     | succ q => simp at hq)
 refine ⟨.tuple #[], w.setRow b #[u], β, ?_, hset.1, hset.2, .tup _ _ rfl (fun j u x h => by simp at h)⟩
 rw [ext_set, rls]
 simp only [Sem.run_bind, rf_partsDE, rf_partsSE, Result.andThen]
 simp only [Nat.add_zero] at hu
 simp [ReflectliteValue.flagAddr, loadVar, isAgg, underlying, U31, hu, Result.andThen, rf_directE, storeVar, rf_sizeE, hcs, hst]
/-! ### F -/
theorem rf_kindPF (w : World) : ((ReflectliteType.abiMethod fun t => do pure (.int .u8 (← Rtype.kind t))) #[.pointer (some ⟨1, 214, none⟩)]).run Tryz.prog w = .ok (.int .u8 22) w := by kernel_rfl
theorem rf_kindF (w : World) : ((ReflectliteType.abiMethod fun t => do pure (.int .u8 (← Rtype.kind t))) #[.pointer (some ⟨1, 127, none⟩)]).run Tryz.prog w = .ok (.int .u8 22) w := by kernel_rfl
theorem rf_typeF (a : Addr) (w : World) : (ReflectliteValue.methodAny (ReflectliteValue.valueError "reflectlite.Value.Type" 0) (fun t _ _ _ => ReflectliteType.toType t) #[.agg #[.pointer (some ⟨1, 214, none⟩), .pointer (some a), .int .u64 150]]).run Tryz.prog w = .ok (.iface 199 (.agg #[.pointer (some ⟨1, 214, none⟩)])) w := by kernel_rfl
theorem rf_valueOfPF (t : Addr) (w : World) : (ReflectliteValue.unpack (.iface 214 (.pointer (some t)))).run Tryz.prog w = .ok (.agg #[.pointer (some ⟨1, 214, none⟩), .pointer (some ⟨w.heap.size, 0, none⟩), .int .u64 150]) (w.alloc (.cells #[.pointer (some t)] 214)) := by kernel_rfl
theorem rf_partsF (a : Addr) (w : World) : (ReflectliteValue.parts (.agg #[.pointer (some ⟨1, 214, none⟩), .pointer (some a), .int .u64 150])).run Tryz.prog w = .ok (some (214, a, 150)) w := by kernel_rfl
theorem rf_partsDF (a : Addr) (w : World) : (ReflectliteValue.parts (.agg #[.pointer (some ⟨1, 127, none⟩), .pointer (some a), .int .u64 406])).run Tryz.prog w = .ok (some (127, a, 406)) w := by kernel_rfl
theorem rf_partsSF (a : Addr) (w : World) : (ReflectliteValue.parts (.agg #[.pointer (some ⟨1, 127, none⟩), .pointer (some a), .int .u64 150])).run Tryz.prog w = .ok (some (127, a, 150)) w := by kernel_rfl
theorem rf_elemF (w : World) : (ReflectliteType.method ReflectliteType.elem #[.agg #[.pointer (some ⟨1, 214, none⟩)]]).run Tryz.prog w = .ok (.iface 199 (.agg #[.pointer (some ⟨1, 127, none⟩)])) w := by kernel_rfl
theorem rf_implF (w : World) : (ReflectliteType.relation "Implements" ReflectliteType.implements_ #[.agg #[.pointer (some ⟨1, 127, none⟩)], .iface 199 (.agg #[.pointer (some ⟨1, 28, none⟩)])]).run Tryz.prog w = .ok (.bool true) w := by kernel_rfl
theorem rf_elemOfF (w : World) : (Rtype.elem? 214).run Tryz.prog w = .ok (some 127) w := by kernel_rfl
theorem rf_mkF (p : Addr) (w : World) : (ReflectliteValue.mk 127 p ReflectliteValue.flagAddr).run Tryz.prog w = .ok (.agg #[.pointer (some ⟨1, 127, none⟩), .pointer (some p), .int .u64 406]) w := by kernel_rfl
theorem rf_directF (w : World) : (Rtype.directlyAssignable 127 127).run Tryz.prog w = .ok true w := by kernel_rfl
theorem rf_sizeF (w : World) : (sizeOf 127).run Tryz.prog w = .ok 1 w := by kernel_rfl
theorem x_kindPF : FnXP Tryz.prog 205 [hT 214] (.int .u8 22) := by
 intro w β vs hβ hv
 obtain ⟨a, rfl, h⟩ := hv.single
 rw [hT_inv h]
 exact ⟨_, w, by rw [ext_kind, rf_kindPF]; rfl, Below.refl _ _, .int _ _⟩
theorem x_kindF : FnXP Tryz.prog 205 [hT 127] (.int .u8 22) := by
 intro w β vs hβ hv
 obtain ⟨a, rfl, h⟩ := hv.single
 rw [hT_inv h]
 exact ⟨_, w, by rw [ext_kind, rf_kindF]; rfl, Below.refl _ _, .int _ _⟩
theorem x_elemF : FnXP Tryz.prog 218 [.agg [hT 214]] (rT 127) := by
 intro w β vs hβ hv
 obtain ⟨a, rfl, h⟩ := hv.single
 obtain ⟨b, rfl, h'⟩ := h.agg1
 rw [hT_inv h']
 exact ⟨_, w, by rw [ext_elem, rf_elemF]; rfl, Below.refl _ _, rT_mk _ _ _⟩
theorem x_implF : FnXP Tryz.prog 219 [.agg [hT 127], rT 28] (.bool true) := by
 intro w β vs hβ hv
 obtain ⟨a, c, rfl, h, k⟩ := hv.two
 obtain ⟨b, rfl, h'⟩ := h.agg1
 rw [hT_inv h', rT_inv k]
 exact ⟨_, w, by rw [ext_impl, rf_implF]; rfl, Below.refl _ _, .bool _⟩
theorem x_valueOfPF {H : List AO} {i off : Nat} {cs : List AV} (hi : H[i]? = some (.box cs)) : FnX Tryz.prog 57 [.ifc 214 (.box i off)] H (.agg [hT 214, .pe [.box i off], .int .u64 150]) H := by
 intro w β vs hH hv
 obtain ⟨a, rfl, h⟩ := hv.single
 obtain ⟨u, rfl, h0⟩ := h.ifc_inv
 obtain ⟨b, arr, T, h1, rfl, h3, h4, h5⟩ := h0.box_at hH hi
 have hb : Below w.heap.size w (w.alloc (.cells #[.pointer (some ⟨b, off, Option.none⟩)] 214)) := (Below.refl _ _).alloc (Nat.le_refl _) _
 refine ⟨.agg #[.pointer (some ⟨1, 214, none⟩), .pointer (some ⟨w.heap.size, 0, Option.none⟩), .int .u64 150], w.alloc (.cells #[.pointer (some ⟨b, off, Option.none⟩)] 214), β, ?_, Ext.of_below β hb, hH.below hb, ?_⟩
 · have hk := rf_valueOfPF ⟨b, off, Option.none⟩ w
   rw [ext_valueOf]
   show Result.andThen ((ReflectliteValue.unpack (Value.iface 214 (.pointer (some ⟨b, off, Option.none⟩)))).run Tryz.prog w) _ = _
   rw [hk]; rfl
 · refine VRep.mk3 (.raw _) (CRep.pe (vs := #[.pointer (some ⟨b, off, Option.none⟩)]) (fun y hy b' hb' => ?_) ⟨rfl, fun q u y e1 e2 => ?_⟩) (.int _ _)
   · obtain ⟨j, hj, rfl⟩ := List.mem_iff_getElem.1 hy
     exact hH.lt (List.getElem?_eq_getElem hj) hb'
   · cases q with
     | zero => simp at e1 e2; subst e1 e2; exact h0
     | succ q => simp at e1
theorem x_typeF (X : List AV) : FnXP Tryz.prog 58 [.agg [hT 214, .pe X, .int .u64 150]] (rT 214) := by
 intro w β vs hβ hv
 obtain ⟨a, rfl, h⟩ := hv.single
 obtain ⟨x, y, z, rfl, h1, h2, h3⟩ := h.agg3
 rw [hT_inv h1, h3.int_inv]
 obtain ⟨b, off, rfl, _⟩ := h2.pe_inv
 exact ⟨_, w, by rw [ext_type, rf_typeF]; rfl, Below.refl _ _, rT_mk _ _ _⟩
theorem x_isNilF {H : List AO} {i off : Nat} {cs : List AV} (hi : H[i]? = some (.box cs)) : FnX Tryz.prog 59 [.agg [hT 214, .pe [.box i off], .int .u64 150]] H (.bool false) H := by
 intro w β vs hH hv
 obtain ⟨a, rfl, h⟩ := hv.single
 obtain ⟨x, y, z, rfl, h1, h2, h3⟩ := h.agg3
 rw [hT_inv h1, h3.int_inv]
 obtain ⟨b, o2, rfl, hb, hS, hc⟩ := h2.pe_inv
 obtain ⟨u, hu, hr⟩ := hc 0 _ rfl
 obtain ⟨b2, arr, T, k1, rfl, k3, k4, k5⟩ := hr.box_at hH hi
 refine ⟨.bool false, w, β, ?_, Ext.refl _ _, hH, .bool _⟩
 rw [Nat.add_zero] at hu
 rw [ext_isNil, rlm]
 simp only [Sem.run_bind, rf_partsF, Result.andThen]
 simp [ReflectliteValue.isNil, loadVar, isAgg, underlying, U214, hu, Result.andThen]
theorem x_elemVF {H : List AO} {i off : Nat} {cs : List AV} (hi : H[i]? = some (.box cs)) : FnX Tryz.prog 105 [.agg [hT 214, .pe [.box i off], .int .u64 150]] H (.agg [hT 127, .box i off, .int .u64 406]) H := by
 intro w β vs hH hv
 obtain ⟨a, rfl, h⟩ := hv.single
 obtain ⟨x, y, z, rfl, h1, h2, h3⟩ := h.agg3
 rw [hT_inv h1, h3.int_inv]
 obtain ⟨b, o2, rfl, hb, hS, hc⟩ := h2.pe_inv
 obtain ⟨u, hu, hr⟩ := hc 0 _ rfl
 obtain ⟨b2, arr, T, k1, rfl, k3, k4, k5⟩ := hr.box_at hH hi
 refine ⟨.agg #[.pointer (some ⟨1, 127, none⟩), .pointer (some ⟨b2, off, Option.none⟩), .int .u64 406], w, β, ?_, Ext.refl _ _, hH, VRep.mk3 (.raw _) hr (.int _ _)⟩
 rw [Nat.add_zero] at hu
 rw [ext_elemV, rlm]
 simp only [Sem.run_bind, rf_partsF, Result.andThen]
 simp [ReflectliteValue.elem, loadVar, isAgg, underlying, U214, hu, Result.andThen, rf_elemOfF, rf_mkF]
theorem x_setF {H : List AO} {i : Nat} {old X : AV} (hi : H[i]? = some (.box [old])) (hX : X.one = true) (hold : old.plainC = true) : FnX Tryz.prog 106 [.agg [hT 127, .box i 0, .int .u64 406], .agg [hT 127, .pe [X], .int .u64 150]] H (.tup []) (H.set i (.box [X])) := by
 intro w β vs hH hv
 obtain ⟨a, c, rfl, h, g⟩ := hv.two
 obtain ⟨x, y, z, rfl, h1, h2, h3⟩ := h.agg3
 obtain ⟨x', y', z', rfl, g1, g2, g3⟩ := g.agg3
 rw [hT_inv h1, h3.int_inv, hT_inv g1, g3.int_inv]
 obtain ⟨b, arr, T, k1, rfl, k3, k4, k5⟩ := h2.box_at hH hi
 obtain ⟨b2, o2, rfl, hb, hS, hc⟩ := g2.pe_inv
 obtain ⟨u, hu, hr⟩ := hc 0 _ rfl
 have hu1 := hr.one hX
 have hst := run_storeCells_at Tryz.prog b 0 T [u] 0 arr w k3 (by simp [k4]) (by simpa using hu1)
 have hcs : u.cells = #[u] := by cases u <;> first | rfl | cases hu1
 have harr : (arr.toList.take 0 ++ [u] ++ arr.toList.drop (0 + 1)).toArray = #[u] := by
   have : arr.toList.drop 1 = [] := List.drop_of_length_le (by simp [k4])
   simp [this]
 simp only [Nat.add_zero, List.length_singleton] at hst
 rw [harr] at hst
 have hset := hH.setB k1 hi (cs' := [X]) (w' := w.setRow b #[u]) (by simp) (by simp) (by simp) (by simp) (fun k hk => setRow_other w b k _ hk) (fun hx => by
   refine ⟨_, setRow_heap w b arr _ T (0, 0) k3, rfl, fun q u' y' hq hy' => ?_, fun q y' hq hpl => ?_, fun _ => by simp [one_plain hX]⟩
   · cases q with
     | zero => simp at hq hy'; subst hq hy'; exact hr.ext hx
     | succ q => simp at hq
   · cases q with
     | zero => simp at hq; subst hq; rw [hold] at hpl; cases hpl
     | succ q => simp at hq)
 refine ⟨.tuple #[], w.setRow b #[u], β, ?_, hset.1, hset.2, .tup _ _ rfl (fun j u x h => by simp at h)⟩
 rw [ext_set, rls]
 simp only [Sem.run_bind, rf_partsDF, rf_partsSF, Result.andThen]
 simp only [Nat.add_zero] at hu
 simp [ReflectliteValue.flagAddr, loadVar, isAgg, underlying, U127, hu, Result.andThen, rf_directF, storeVar, rf_sizeF, hcs, hst]
/-! ### of an error -/
theorem rf_typeOf (t : TypeId) (v : Value) (w : World) (ht : t = 31 ∨ t = 127) : (ReflectliteType.typeOf #[.iface t v]).run Tryz.prog w = .ok (.iface 199 (.agg #[.pointer (some ⟨1, t, Option.none⟩)])) w := by
 rcases ht with rfl | rfl <;> kernel_rfl
theorem Er.ty_two (e : Er) : e.ty = 31 ∨ e.ty = 127 := by cases e <;> simp [Er.ty]
theorem x_typeOf {e : Er} (h : e.isNone = false) : FnXP Tryz.prog 61 [aEr e] (rT e.ty) := by
 intro w β vs hβ hv
 obtain ⟨a, rfl, h1⟩ := hv.single
 rw [aEr_ifc h] at h1
 obtain ⟨u, rfl, h1'⟩ := h1.ifc_inv
 exact ⟨_, w, by rw [ext_typeOf, rf_typeOf _ _ _ e.ty_two]; rfl, Below.refl _ _, rT_mk _ _ _⟩
theorem rf_valueOfN (c : Int) (w : World) : (ReflectliteValue.unpack (.iface 31 (.int .i64 c))).run Tryz.prog w = .ok (.agg #[.pointer (some ⟨1, 31, none⟩), .pointer (some ⟨w.heap.size, 0, Option.none⟩), .int .u64 130]) (w.alloc (.cells #[.int .i64 c] 31)) := by kernel_rfl
theorem rf_valueOfF (t : Addr) (w : World) : (ReflectliteValue.unpack (.iface 127 (.pointer (some t)))).run Tryz.prog w = .ok (.agg #[.pointer (some ⟨1, 127, none⟩), .pointer (some ⟨w.heap.size, 0, Option.none⟩), .int .u64 150]) (w.alloc (.cells #[.pointer (some t)] 127)) := by kernel_rfl
theorem x_valueOfN (c : Int) : FnXP Tryz.prog 57 [aEr (.no c)] (.agg [hT 31, .pe [.int .i64 c], .int .u64 130]) := by
 intro w β vs hβ hv
 obtain ⟨a, rfl, h⟩ := hv.single
 obtain ⟨u, rfl, h'⟩ := VRep.ifc_inv h
 obtain rfl := h'.int_inv
 refine ⟨.agg #[.pointer (some ⟨1, 31, none⟩), .pointer (some ⟨w.heap.size, 0, Option.none⟩), .int .u64 130], w.alloc (.cells #[.int .i64 c] 31), ?_, (Below.refl _ _).alloc (Nat.le_refl _) _, VRep.mk3 (.raw _) (CRep.pe (vs := #[.int .i64 c]) hβ ⟨rfl, fun q u y e1 e2 => ?_⟩) (.int _ _)⟩
 · have hk := rf_valueOfN c w
   rw [ext_valueOf]
   show Result.andThen ((ReflectliteValue.unpack (Value.iface 31 (.int .i64 c))).run Tryz.prog w) _ = _
   rw [hk]; rfl
 · cases q with
   | zero => simp at e1 e2; subst e1 e2; exact .int _ _
   | succ q => simp at e1
theorem x_valueOfF (op : ByteArray) (e : Er) : FnXP Tryz.prog 57 [aEr (.wr op e)] (.agg [hT 127, .pe [aFl (.wr op e)], .int .u64 150]) := by
 intro w β vs hβ hv
 obtain ⟨a, rfl, h⟩ := hv.single
 obtain ⟨u, rfl, h0⟩ := VRep.ifc_inv h
 obtain ⟨b, off, rfl, _⟩ := h0.pe_inv
 refine ⟨.agg #[.pointer (some ⟨1, 127, none⟩), .pointer (some ⟨w.heap.size, 0, Option.none⟩), .int .u64 150], w.alloc (.cells #[.pointer (some ⟨b, off, Option.none⟩)] 127), ?_, (Below.refl _ _).alloc (Nat.le_refl _) _, VRep.mk3 (.raw _) (CRep.pe (vs := #[.pointer (some ⟨b, off, Option.none⟩)]) hβ ⟨rfl, fun q u y e1 e2 => ?_⟩) (.int _ _)⟩
 · have hk := rf_valueOfF ⟨b, off, Option.none⟩ w
   rw [ext_valueOf]
   show Result.andThen ((ReflectliteValue.unpack (Value.iface 127 (.pointer (some ⟨b, off, Option.none⟩)))).run Tryz.prog w) _ = _
   rw [hk]; rfl
 · cases q with
   | zero => simp at e1 e2; subst e1 e2; exact h0
   | succ q => simp at e1
theorem rf_asg (a b : TypeId) (w : World) (ha : a = 31 ∨ a = 127) (hb : b = 31 ∨ b = 127) : (ReflectliteType.relation "AssignableTo" ReflectliteType.assignableTo #[.agg #[.pointer (some ⟨1, a, Option.none⟩)], .iface 199 (.agg #[.pointer (some ⟨1, b, Option.none⟩)])]).run Tryz.prog w = .ok (.bool (decide (a = b))) w := by
 rcases ha with rfl | rfl <;> rcases hb with rfl | rfl <;> kernel_rfl
theorem x_asg {a b : TypeId} (ha : a = 31 ∨ a = 127) (hb : b = 31 ∨ b = 127) : FnXP Tryz.prog 216 [.agg [hT a], rT b] (.bool (decide (a = b))) := by
 intro w β vs hβ hv
 obtain ⟨x, c, rfl, h, k⟩ := hv.two
 obtain ⟨y, rfl, h'⟩ := h.agg1
 rw [hT_inv h', rT_inv k]
 exact ⟨_, w, by rw [ext_asg, rf_asg a b w ha hb]; rfl, Below.refl _ _, .bool _⟩
theorem rf_comp (w : World) : ((ReflectliteType.method fun t => do Rtype.noPackHeld "Comparable" t; pure (.bool (← typeInfo t).comparable)) #[.agg #[.pointer (some ⟨1, 31, none⟩)]]).run Tryz.prog w = .ok (.bool true) w := by kernel_rfl
theorem x_comp : FnXP Tryz.prog 217 [.agg [hT 31]] (.bool true) := by
 intro w β vs hβ hv
 obtain ⟨x, rfl, h⟩ := hv.single
 obtain ⟨y, rfl, h'⟩ := h.agg1
 rw [hT_inv h']
 exact ⟨_, w, by rw [ext_comp, rf_comp]; rfl, Below.refl _ _, .bool _⟩
theorem no_as {e : Er} (h : e.isNone = false) (W : World) (β : List Hd) (u : Value) (hu : VRep β W u (aEr e)) : ∃ v, (Instr.typeAssert u 28 203 true).run Tryz.prog W = .ok v W ∧ VRep β W v (.tup [.raw .nilIface, .bool false]) := by
 rw [aEr_ifc h] at hu
 obtain ⟨x, rfl, _⟩ := hu.ifc_inv
 refine ⟨.tuple #[.nilIface, .bool false], ?_, VRep.tup2 (.raw _) (.bool _)⟩
 rcases e.ty_two with h | h <;> rw [h] <;> exact run_typeAssert_lacksB U203 (by kernel_rfl) (by kernel_rfl) x 28 W
theorem no_unwraps0 {e : Er} (h : e.isNone = false) (W : World) (β : List Hd) (u : Value) (hu : VRep β W u (aEr e)) : ∃ v, (Instr.typeAssert u 28 207 true).run Tryz.prog W = .ok v W ∧ VRep β W v (.tup [.raw .nilIface, .bool false]) := by
 rw [aEr_ifc h] at hu
 obtain ⟨x, rfl, _⟩ := hu.ifc_inv
 refine ⟨.tuple #[.nilIface, .bool false], ?_, VRep.tup2 (.raw _) (.bool _)⟩
 rcases e.ty_two with h | h <;> rw [h] <;> exact run_typeAssert_lacksB U207 (by kernel_rfl) (by kernel_rfl) x 28 W
theorem no_is {e : Er} (h : e.isNone = false) (W : World) (β : List Hd) (u : Value) (hu : VRep β W u (aEr e)) : ∃ v, (Instr.typeAssert u 28 210 true).run Tryz.prog W = .ok v W ∧ VRep β W v (.tup [.raw .nilIface, .bool false]) := by
 rw [aEr_ifc h] at hu
 obtain ⟨x, rfl, _⟩ := hu.ifc_inv
 refine ⟨.tuple #[.nilIface, .bool false], ?_, VRep.tup2 (.raw _) (.bool _)⟩
 rcases e.ty_two with h | h <;> rw [h] <;> exact run_typeAssert_lacksB U210 (by kernel_rfl) (by kernel_rfl) x 28 W
theorem to_unwrap {e : Er} (h : e.isNone = false) (W : World) (β : List Hd) (u : Value) (hu : VRep β W u (aEr e)) : ∃ v, (Instr.typeAssert u 28 206 true).run Tryz.prog W = .ok v W ∧ VRep β W v (.tup [if e.isWr then aEr e else .raw .nilIface, .bool e.isWr]) := by
 have hu0 := hu
 rw [aEr_ifc h] at hu
 obtain ⟨x, rfl, _⟩ := hu.ifc_inv
 cases e with
 | none => cases h
 | no c => exact ⟨.tuple #[.nilIface, .bool false], run_typeAssert_lacksB U206 (by kernel_rfl) (by kernel_rfl) x 28 W, VRep.tup2 (.raw _) (.bool _)⟩
 | wr op e => exact ⟨.tuple #[.iface 127 x, .bool true], run_typeAssert_hasB U206 (by kernel_rfl) x 28 W, VRep.tup2 hu0 (.bool _)⟩
theorem inv_unwrap (op : ByteArray) (e : Er) : Inv Tryz.prog (aEr (.wr op e)) "Unwrap" 211 (aFl (.wr op e)) := by
 intro W β u hu
 obtain ⟨v, rfl, h⟩ := VRep.ifc_inv hu
 exact ⟨_, v, v, rfl, by kernel_rfl, h⟩
theorem eq_no {e : Er} (h : e.isNone = false) (c : Int) (x y : Operand) (W : World) (β : List Hd) (u v : Value) (hu : VRep β W u (aEr e)) (hv : VRep β W v (aEr (.no c))) :
   (eqGuard .eql 28 x y u v).run Tryz.prog W = .ok () W ∧ ∃ r, (binOp .eql 28 u v).run Tryz.prog W = .ok r W ∧ VRep β W r (.bool (e.isIt c)) := by
 rw [aEr_ifc h] at hu
 obtain ⟨p, rfl, hp⟩ := hu.ifc_inv
 obtain ⟨q, rfl, hq⟩ := VRep.ifc_inv hv
 obtain rfl := hq.int_inv
 refine ⟨by simp [eqGuard], ?_⟩
 cases e with
 | none => cases h
 | no d =>
   obtain rfl := VRep.int_inv hp
   exact ⟨_, run_eqlI_int Tryz.prog W d c U28 U31 (by kernel_rfl), .bool _⟩
 | wr op e => exact ⟨_, run_eqlI_other Tryz.prog W U28 (show (127 : Nat) ≠ 31 by decide) p _, .bool _⟩
end Go.Proofs.YtnlpojjfkgnhhaaGreatDoor
namespace Go.Proofs.YtnlpojjfkgnhhaaGreatDoor
open Go.RowKit
def idxOf {α : Type} (p : α → Bool) (l : List α) : Int := match l.findIdx? p with
 | some i => (i : Int)
 | none => -1
theorem idx_hit {α : Type} [Inhabited α] {p : α → Bool} {l : List α} {k : Nat} (hk : k < l.length) (h : ∀ j, j < k → p (l.getD j default) = false) (hp : p (l.getD k default) = true) : idxOf p l = (k : Int) := by
 have : l.findIdx? p = some k := by
   rw [List.findIdx?_eq_some_iff_getElem]
   refine ⟨hk, ?_, fun j hj => ?_⟩
   · simpa [List.getD, hk] using hp
   have := h j hj
   simp [List.getD, show j < l.length by omega] at this
   simp [this]
 unfold idxOf; rw [this]
theorem idx_none {α : Type} [Inhabited α] {p : α → Bool} {l : List α} (h : ∀ j, j < l.length → p (l.getD j default) = false) : idxOf p l = -1 := by
 have : l.findIdx? p = none := by
   rw [List.findIdx?_eq_none_iff]
   intro x hx
   obtain ⟨j, hj, rfl⟩ := List.mem_iff_getElem.1 hx
   have := h j hj
   simpa [List.getD, hj] using this
 unfold idxOf; rw [this]
theorem any_idx {α : Type} (p : α → Bool) (l : List α) : decide (0 ≤ idxOf p l) = l.any p := by
 unfold idxOf
 cases h : l.findIdx? p with
 | none =>
   have := List.findIdx?_eq_none_iff.1 h
   symm; simp; exact this
 | some i =>
   obtain ⟨hi, h2, _⟩ := List.findIdx?_eq_some_iff_getElem.1 h
   have : l.any p = true := List.any_eq_true.2 ⟨_, List.getElem_mem hi, h2⟩
   rw [this]; simp
theorem take_eq_go {α : Type} [Inhabited α] {a b : List α} {k : Nat} (h : a.take k = b.take k) (ha : k < a.length) (hb : k < b.length) (he : a.getD k default = b.getD k default) : a.take (k + 1) = b.take (k + 1) := by
 rw [List.take_succ_eq_append_getElem ha, List.take_succ_eq_append_getElem hb, h]
 simp [List.getD, ha, hb] at he
 rw [he]
theorem ne_of_get {α : Type} [Inhabited α] {a b : List α} {k : Nat} (he : a.getD k default ≠ b.getD k default) : a ≠ b := fun e => he (by rw [e])
theorem found_congr {x e : Er} (h : x.inner = e.inner) : x.found = e.found := by unfold Er.found; rw [h]
theorem ty_no {x : Er} (hx : x.isNone = false) (h : x.ty = 31) : ∃ c, x = .no c := by
 cases x with
 | none => cases hx
 | no c => exact ⟨c, rfl⟩
 | wr op e => exact absurd h (show ¬ (127 : Nat) = 31 by decide)
theorem ty_wr {x : Er} (h : x.ty ≠ 31) : ∃ op e, x = .wr op e := by
 cases x with
 | none => exact absurd rfl h
 | no c => exact absurd rfl h
 | wr op e => exact ⟨op, e, rfl⟩
theorem is_wr {x : Er} (h : x.isWr = true) : ∃ op e, x = .wr op e := by
 cases x with
 | none => cases h
 | no c => cases h
 | wr op e => exact ⟨op, e, rfl⟩
theorem is_none {x : Er} (h : x.isNone = true) : x = .none := by cases x <;> first | rfl | cases h
theorem unwrap_fn (op : ByteArray) (e : Er) : FnP Tryz.prog 211 [aFl (.wr op e)] (aEr e) := by
 show FnP _ _ [.pe [.str op, aEr e]] _
 refine FnP.of Tryz.func211 rfl rfl (by simp) (by simp [AV.cells]) (fun G hG => ?_)
 have hN : NoH G.length (aEr e) := (by simp [AV.cells])
 refine sr fun _ => ?_
 refine mz ?_
 refine AWP.seq (sr fun _ => ?_)
 refine mv ?_
 refine ARun.isNilP rfl rfl rfl rfl U127 (ep rfl) (fun hg => by first | rfl | exact nilP_aFl _) (.inl ⟨rfl, rfl⟩) optN ?_
 refine ez ?_
 refine ρo (fun h0 => ?_) (fun h0 => ?_)
 · simp at h0
 refine AWP.skip (thenA_n (sr fun _ => ?_))
 refine mv ?_
 first | refine ρw ?_ | refine ρx ?_ | refine ARun.nilBox rfl rfl rfl rfl (ep rfl) ((hG.at _ _).trans rfl) optN ?_
 first | refine ρ0 U129 sz28 ?_ | refine ρe (fo := 1) U129 sz28 ?_
 first | refine ρ2 U28 ?_ | refine ARun.loadBox rfl rfl rfl rfl U28 rfl (ep rfl) ((hG.at _ _).trans rfl) rfl optN ?_
 refine mz ?_
 refine AWP.ret ?_
 refine ρ9 ?_
 rfl
theorem asE_fn (e : Er) (old : Int) (he : e.isNone = false) : FnM Tryz.prog 60 (fun i => [aEr e, .ifc 83 (.box i 0), .agg [hT 83, .pe [.box i 0], .int .u64 150], rT 31]) [.int .i64 old] (.bool e.found.isSome) [.int .i64 (e.found.getD old)] := by
 refine FnM.of Tryz.func60 rfl rfl (fun i => by simp) (fun H i m hHm hi hG => ?_)
 have hN : NoH H.length (.bool e.found.isSome) := (by simp [AV.cells])
 refine sr fun _ => ?_
 refine ARun.box (j := 0) hG rfl rfl rfl rfl rfl (ep rfl) rfl rfl optN ?_
 refine mz ?_
 refine AWP.block ?_
 refine AWP.rounds (fun x => x.isNone = false ∧ x.inner = e.inner) (fun x => [(0, aEr x), (1, .ifc 83 (.box i 0)), (3, rT 31), (6, .box (m + 0) 0)]) (fun x => [.box [hT 83, .pe [.box i 0], .int .u64 150]]) (fun x => x.depth) 1 e ⟨he, rfl⟩ (by repeat (first | exact .nil | refine .cons rfl ?_)) rfl (fun _ => rfl) (fun _ => ⟨by simp [hT, rT]; omega, by simp [AO.conts, hT]; omega⟩) (fun x hI => ?_)
 obtain ⟨hx, hin⟩ := hI
 refine AWP.block (AWP.seq ?_)
 refine sr fun _ => ?_
 refine mv ?_
 refine ARun.callXP rfl rfl rfl rfl (ep rfl) (.cons (ep rfl) .nil) (fun hg => x_typeOf hx) optN ?_
 refine mv ?_
 refine ARun.invokeX rfl rfl rfl rfl (ep rfl) (fun hg => inv_asg _) (.cons (ep rfl) .nil) (fun hg => x_asg (Er.ty_two x) (.inl rfl)) optN ?_
 refine ez ?_
 refine ρo (fun h0 => ?_) (fun h0 => ?_)
 · obtain ⟨c, rfl⟩ := ty_no hx (by simpa using h0)
   refine sr fun _ => ?_
   refine ρs U136 sz136 ?_
   refine ARun.callXR rfl rfl rfl rfl (ep rfl) (.cons (ep rfl) .nil) (fun hg => x_elemVE (atO hi)) optN ?_
   refine mv ?_
   refine ARun.callXP rfl rfl rfl rfl (ep rfl) (.cons (ep rfl) .nil) (fun hg => x_valueOfN c) optN ?_
   refine ARun.callXO hi hG rfl rfl rfl rfl (ep rfl) (.cons (ep rfl) (.cons (ep rfl) .nil)) (x_setE (atO hi) rfl rfl) (by simp) optN (fun hG => ?_)
   refine ez (sr fun _ => ?_)
   refine mz ?_
   refine AWP.ret (thenA_r ?_)
   refine blockA_r (thenA_r (blockA_r ?_))
   refine endF.toG (congrArg (fun c => H.set i (AO.box c)) (by rw [← found_congr hin]; rfl)) ?_
   refine ρC ?_ (hn := by rw [List.length_set]; exact hN)
   rw [← found_congr hin]; rfl
 obtain ⟨op, y, rfl⟩ := ty_wr (by simpa using h0)
 refine AWP.skip (thenA_n (AWP.seq (sr fun _ => ?_)))
 refine mv ?_
 refine ARun.assertV rfl rfl rfl rfl (ep rfl) (fun hg => no_as hx) optN ?_
 refine mv ?_
 refine ρj ?_
 refine ρj ?_
 refine ma ?_
 refine mz (sr fun _ => ?_)
 refine mv ?_
 refine mv ?_
 refine ρh ?_
 refine ρh ?_
 refine ARun.invokeX (F := 0) (X' := .bool false) (r := .bool false) rfl rfl rfl rfl (Ev.opt rfl (fun h => h)) (fun hg => absurd hg (by decide)) (.cons (Ev.opt rfl (fun h => h)) .nil) (fun hg => absurd hg (by decide)) optS ?_
 refine ρ1 ?_
 refine ez ?_
 refine ρo (fun h1 => ?_) (fun h1 => ?_)
 · exact absurd h1 (by decide)
 refine AWP.skip (thenA_n (sr fun _ => ?_))
 refine mv ?_
 refine ez ?_
 refine AWP.block (sr fun _ => ?_)
 refine ARun.assertV rfl rfl rfl rfl (ep rfl) (fun hg => to_unwrap hx) optN ?_
 refine ρj ?_
 refine ρj ?_
 refine ez ?_
 refine ρo (fun h2 => ?_) (fun h2 => ?_)
 · refine sr fun _ => ?_
   refine mz (sr fun _ => ?_)
   refine mv ?_
   refine ARun.invokeP rfl rfl rfl rfl cf211 (ep rfl) (fun hg => inv_unwrap op y) .nil (fun hg => unwrap_fn op y) optN ?_
   refine mz (sr fun _ => ?_)
   refine mv ?_
   refine ARun.isNil rfl rfl rfl rfl U28 (ep rfl) (fun hg => by first | rfl | exact nilA_aEr _) (.inl ⟨rfl, rfl⟩) optN ?_
   refine ez ?_
   refine ρo (fun h3 => ?_) (fun h3 => ?_)
   · refine sr fun _ => ?_
     refine mz ?_
     refine AWP.ret (blockA_r ?_)
     refine blockA_r (thenA_r (blockA_r ?_))
     refine endF.toG (congrArg (fun c => H.set i (AO.box c)) (by rw [← found_congr hin, is_none h3]; rfl)) ?_
     refine ρC ?_ (hn := by rw [List.length_set]; exact hN)
     rw [← found_congr hin, is_none h3]; rfl
   refine AWP.skip (blockA_n (blockA_n ?_))
   refine thenA_n ⟨rfl, y, _, ?_, ?_, rfl, ?_⟩
   · exact ⟨h3, hin⟩
   · repeat (first | exact .nil | refine .cons rfl ?_)
   show y.depth < y.depth + 1; omega
 cases h2
theorem asF_fn (e : Er) (he : e.isNone = false) : FnM Tryz.prog 60 (fun i => [aEr e, .ifc 214 (.box i 0), .agg [hT 214, .pe [.box i 0], .int .u64 150], rT 127]) [.raw (.pointer .none)] (.bool e.isWr) [aFl e] := by
 refine FnM.of Tryz.func60 rfl rfl (fun i => by simp) (fun H i m hHm hi hG => ?_)
 have hN : NoH H.length (.bool e.isWr) := (by simp [AV.cells])
 refine sr fun _ => ?_
 refine ARun.box (j := 0) hG rfl rfl rfl rfl rfl (ep rfl) rfl rfl optN ?_
 refine mz ?_
 refine AWP.block ?_
 refine AWP.rounds (fun x => x.isNone = false ∧ x = e) (fun x => [(0, aEr x), (1, .ifc 214 (.box i 0)), (3, rT 127), (6, .box (m + 0) 0)]) (fun x => [.box [hT 214, .pe [.box i 0], .int .u64 150]]) (fun x => x.depth) 1 e ⟨he, rfl⟩ (by repeat (first | exact .nil | refine .cons rfl ?_)) rfl (fun _ => rfl) (fun _ => ⟨by simp [hT, rT]; omega, by simp [AO.conts, hT]; omega⟩) (fun x hI => ?_)
 obtain ⟨hx, hin⟩ := hI
 refine AWP.block (AWP.seq ?_)
 refine sr fun _ => ?_
 refine mv ?_
 refine ARun.callXP rfl rfl rfl rfl (ep rfl) (.cons (ep rfl) .nil) (fun hg => x_typeOf hx) optN ?_
 refine mv ?_
 refine ARun.invokeX rfl rfl rfl rfl (ep rfl) (fun hg => inv_asg _) (.cons (ep rfl) .nil) (fun hg => x_asg (Er.ty_two x) (.inr rfl)) optN ?_
 refine ez ?_
 refine ρo (fun h0 => ?_) (fun h0 => ?_)
 · obtain rfl := hin
   obtain ⟨op, y, rfl⟩ := ty_wr (x := x) (by rw [show x.ty = 127 from by simpa using h0]; decide)
   refine sr fun _ => ?_
   refine ρs U136 sz136 ?_
   refine ARun.callXR rfl rfl rfl rfl (ep rfl) (.cons (ep rfl) .nil) (fun hg => x_elemVF (atO hi)) optN ?_
   refine mv ?_
   refine ARun.callXP rfl rfl rfl rfl (ep rfl) (.cons (ep rfl) .nil) (fun hg => x_valueOfF op y) optN ?_
   refine ARun.callXO hi hG rfl rfl rfl rfl (ep rfl) (.cons (ep rfl) (.cons (ep rfl) .nil)) (x_setF (atO hi) rfl rfl) (by simp) optN (fun hG => ?_)
   refine ez (sr fun _ => ?_)
   refine mz ?_
   refine AWP.ret (thenA_r ?_)
   refine blockA_r (thenA_r (blockA_r ?_))
   refine endF.toG (congrArg (fun c => H.set i (AO.box c)) rfl) ?_
   refine ρC ?_ (hn := by rw [List.length_set]; exact hN)
   rfl
 obtain rfl := hin
 obtain ⟨c, rfl⟩ : ∃ c, x = .no c := by
   cases x with
   | none => cases hx
   | no c => exact ⟨c, rfl⟩
   | wr op e => simp [Er.ty] at h0
 refine AWP.skip (thenA_n (AWP.seq (sr fun _ => ?_)))
 refine mv ?_
 refine ARun.assertV rfl rfl rfl rfl (ep rfl) (fun hg => no_as hx) optN ?_
 refine mv ?_
 refine ρj ?_
 refine ρj ?_
 refine ma ?_
 refine mz (sr fun _ => ?_)
 refine mv ?_
 refine mv ?_
 refine ρh ?_
 refine ρh ?_
 refine ARun.invokeX (F := 0) (X' := .bool false) (r := .bool false) rfl rfl rfl rfl (Ev.opt rfl (fun h => h)) (fun hg => absurd hg (by decide)) (.cons (Ev.opt rfl (fun h => h)) .nil) (fun hg => absurd hg (by decide)) optS ?_
 refine ρ1 ?_
 refine ez ?_
 refine ρo (fun h1 => ?_) (fun h1 => ?_)
 · exact absurd h1 (by decide)
 refine AWP.skip (thenA_n (sr fun _ => ?_))
 refine mv ?_
 refine ez ?_
 refine AWP.block (sr fun _ => ?_)
 refine ARun.assertV rfl rfl rfl rfl (ep rfl) (fun hg => to_unwrap hx) optN ?_
 refine ρj ?_
 refine ρj ?_
 refine ez ?_
 refine ρo (fun h2 => ?_) (fun h2 => ?_)
 · cases h2
 refine sr fun _ => ?_
 refine ARun.assertV rfl rfl rfl rfl (ep rfl) (fun hg => no_unwraps0 hx) optN ?_
 refine ρj ?_
 refine ρj ?_
 refine ez ?_
 refine ρo (fun h3 => ?_) (fun h3 => ?_)
 · cases h3
 refine sr fun _ => ?_
 refine mz (sr fun _ => ?_)
 refine mz ?_
 refine AWP.ret (blockA_r ?_)
 refine blockA_r (thenA_r (blockA_r ?_))
 refine endF.toG (congrArg (fun c => H.set i (AO.box c)) rfl) ?_
 refine ρC ?_ (hn := by rw [List.length_set]; exact hN)
 rfl
theorem As_E (e : Er) (old : Int) : FnM Tryz.prog 24 (fun i => [aEr e, .ifc 83 (.box i 0)]) [.int .i64 old] (.bool e.found.isSome) [.int .i64 (e.found.getD old)] := by
 refine FnM.of Tryz.func24 rfl rfl (fun i => by simp) (fun H i m hHm hi hG => ?_)
 have hN : NoH H.length (.bool e.found.isSome) := (by simp [AV.cells])
 refine sr fun _ => ?_
 refine mz ?_
 refine AWP.seq (sr fun _ => ?_)
 refine mv ?_
 refine ARun.isNil rfl rfl rfl rfl U28 (ep rfl) (fun hg => by first | rfl | exact nilA_aEr _) (.inl ⟨rfl, rfl⟩) optN ?_
 refine ez ?_
 refine ρo (fun h0 => ?_) (fun h0 => ?_)
 · obtain rfl := is_none h0
   refine sr fun _ => ?_
   refine mz ?_
   refine AWP.ret (thenA_r ?_)
   refine endF.toG (congrArg (fun c => H.set i (AO.box c)) rfl) ?_
   refine ρC ?_ (hn := by rw [List.length_set]; exact hN)
   rfl
 refine AWP.skip (thenA_n (AWP.seq (sr fun _ => ?_)))
 refine mv ?_
 refine ARun.isNil rfl rfl rfl rfl U20 (ep rfl) (fun hg => by first | rfl | exact nilA_aEr _) (.inl ⟨rfl, rfl⟩) optN ?_
 refine ez ?_
 refine ρo (fun h1 => ?_) (fun h1 => ?_)
 · first | (exact absurd h1 (by decide)) | (simp at h1; done)
 refine AWP.skip (thenA_n (sr fun _ => ?_))
 refine mv ?_
 refine ARun.callXR rfl rfl rfl rfl (ep rfl) (.cons (ep rfl) .nil) (fun hg => x_valueOfPE (atO hi)) optN ?_
 refine ρp (j := 0) zv136 ?_
 refine ρ8 sz136 ?_
 refine ez (sr fun _ => ?_)
 refine ρs U136 sz136 ?_
 refine ARun.callXP rfl rfl rfl rfl (ep rfl) (.cons (ep rfl) .nil) (fun hg => x_typeE _) optN ?_
 refine mz ?_
 refine AWP.seq (sr fun _ => ?_)
 refine mv ?_
 refine ARun.invokeX rfl rfl rfl rfl (ep rfl) (fun hg => inv_kind _) .nil (fun hg => x_kindPE) optN ?_
 refine ρ6 ?_
 refine mv ?_
 refine ARun.loadBoxA rfl rfl rfl rfl U136 rfl sz136 (ep rfl) ((hG.at _ _).trans rfl) rfl rfl optS ?_
 refine ARun.callXR rfl rfl rfl rfl (ep rfl) (.cons (Ev.opt rfl (fun h => h)) .nil) (fun hg => x_isNilE (atO hi)) optS ?_
 refine ρ3 ?_
 refine ez ?_
 refine ρo (fun h2 => ?_) (fun h2 => ?_)
 · first | (exact absurd h2 (by decide)) | (simp at h2; done)
 refine AWP.skip (thenA_n (sr fun _ => ?_))
 refine mv ?_
 refine ARun.invokeX rfl rfl rfl rfl (ep rfl) (fun hg => inv_elem _) .nil (fun hg => x_elemE) optN ?_
 refine mz ?_
 refine AWP.seq (sr fun _ => ?_)
 refine mv ?_
 refine ARun.invokeX rfl rfl rfl rfl (ep rfl) (fun hg => inv_kind _) .nil (fun hg => x_kindE) optN ?_
 refine ρ6 ?_
 refine mv ?_
 refine ρh ?_
 refine ARun.loadGlob rfl rfl rfl rfl U139 rfl glob_mem (fun β W => rT_mk _ _ _) optS ?_
 refine ARun.invokeX rfl rfl rfl rfl (Ev.opt rfl (fun h => h)) (fun hg => inv_impl _) (.cons (Ev.opt rfl (fun h => h)) .nil) (fun hg => x_implE) optS ?_
 refine ARun.not rfl rfl rfl rfl (Ev.opt rfl (fun h => h)) optS ?_
 refine ρ1 ?_
 refine ez ?_
 refine ρo (fun h3 => ?_) (fun h3 => ?_)
 · first | (exact absurd h3 (by decide)) | (simp at h3; done)
 refine AWP.skip (thenA_n (sr fun _ => ?_))
 refine mv ?_
 refine mv ?_
 refine ρs U136 sz136 ?_
 refine mv ?_
 refine ARun.callO hi hG rfl rfl rfl rfl cf60 (ep rfl) (.cons (ep rfl) (.cons (ep rfl) (.cons (ep rfl) (.cons (ep rfl) .nil)))) rfl (asE_fn e old h0 _ _ (atO hi)) (by simp) optN (fun hG => ?_)
 refine mz ?_
 refine AWP.ret ?_
 refine endF.toG (congrArg (fun c => H.set i (AO.box c)) rfl) ?_
 refine ρC ?_ (hn := by rw [List.length_set]; exact hN)
 rfl
theorem As_F (e : Er) : FnM Tryz.prog 24 (fun i => [aEr e, .ifc 214 (.box i 0)]) [.raw (.pointer .none)] (.bool e.isWr) [aFl e] := by
 refine FnM.of Tryz.func24 rfl rfl (fun i => by simp) (fun H i m hHm hi hG => ?_)
 have hN : NoH H.length (.bool e.isWr) := (by simp [AV.cells])
 refine sr fun _ => ?_
 refine mz ?_
 refine AWP.seq (sr fun _ => ?_)
 refine mv ?_
 refine ARun.isNil rfl rfl rfl rfl U28 (ep rfl) (fun hg => by first | rfl | exact nilA_aEr _) (.inl ⟨rfl, rfl⟩) optN ?_
 refine ez ?_
 refine ρo (fun h0 => ?_) (fun h0 => ?_)
 · obtain rfl := is_none h0
   refine sr fun _ => ?_
   refine mz ?_
   refine AWP.ret (thenA_r ?_)
   refine endF.toG (congrArg (fun c => H.set i (AO.box c)) rfl) ?_
   refine ρC ?_ (hn := by rw [List.length_set]; exact hN)
   rfl
 refine AWP.skip (thenA_n (AWP.seq (sr fun _ => ?_)))
 refine mv ?_
 refine ARun.isNil rfl rfl rfl rfl U20 (ep rfl) (fun hg => by first | rfl | exact nilA_aEr _) (.inl ⟨rfl, rfl⟩) optN ?_
 refine ez ?_
 refine ρo (fun h1 => ?_) (fun h1 => ?_)
 · first | (exact absurd h1 (by decide)) | (simp at h1; done)
 refine AWP.skip (thenA_n (sr fun _ => ?_))
 refine mv ?_
 refine ARun.callXR rfl rfl rfl rfl (ep rfl) (.cons (ep rfl) .nil) (fun hg => x_valueOfPF (atO hi)) optN ?_
 refine ρp (j := 0) zv136 ?_
 refine ρ8 sz136 ?_
 refine ez (sr fun _ => ?_)
 refine ρs U136 sz136 ?_
 refine ARun.callXP rfl rfl rfl rfl (ep rfl) (.cons (ep rfl) .nil) (fun hg => x_typeF _) optN ?_
 refine mz ?_
 refine AWP.seq (sr fun _ => ?_)
 refine mv ?_
 refine ARun.invokeX rfl rfl rfl rfl (ep rfl) (fun hg => inv_kind _) .nil (fun hg => x_kindPF) optN ?_
 refine ρ6 ?_
 refine mv ?_
 refine ARun.loadBoxA rfl rfl rfl rfl U136 rfl sz136 (ep rfl) ((hG.at _ _).trans rfl) rfl rfl optS ?_
 refine ARun.callXR rfl rfl rfl rfl (ep rfl) (.cons (Ev.opt rfl (fun h => h)) .nil) (fun hg => x_isNilF (atO hi)) optS ?_
 refine ρ3 ?_
 refine ez ?_
 refine ρo (fun h2 => ?_) (fun h2 => ?_)
 · first | (exact absurd h2 (by decide)) | (simp at h2; done)
 refine AWP.skip (thenA_n (sr fun _ => ?_))
 refine mv ?_
 refine ARun.invokeX rfl rfl rfl rfl (ep rfl) (fun hg => inv_elem _) .nil (fun hg => x_elemF) optN ?_
 refine mz ?_
 refine AWP.seq (sr fun _ => ?_)
 refine mv ?_
 refine ARun.invokeX rfl rfl rfl rfl (ep rfl) (fun hg => inv_kind _) .nil (fun hg => x_kindF) optN ?_
 refine ρ6 ?_
 refine mv ?_
 refine ρh ?_
 refine ARun.loadGlob rfl rfl rfl rfl U139 rfl glob_mem (fun β W => rT_mk _ _ _) optS ?_
 refine ARun.invokeX rfl rfl rfl rfl (Ev.opt rfl (fun h => h)) (fun hg => inv_impl _) (.cons (Ev.opt rfl (fun h => h)) .nil) (fun hg => x_implF) optS ?_
 refine ARun.not rfl rfl rfl rfl (Ev.opt rfl (fun h => h)) optS ?_
 refine ρ1 ?_
 refine ez ?_
 refine ρo (fun h3 => ?_) (fun h3 => ?_)
 · first | (exact absurd h3 (by decide)) | (simp at h3; done)
 refine AWP.skip (thenA_n (sr fun _ => ?_))
 refine mv ?_
 refine mv ?_
 refine ρs U136 sz136 ?_
 refine mv ?_
 refine ARun.callO hi hG rfl rfl rfl rfl cf60 (ep rfl) (.cons (ep rfl) (.cons (ep rfl) (.cons (ep rfl) (.cons (ep rfl) .nil)))) rfl (asF_fn e h0 _ _ (atO hi)) (by simp) optN (fun hG => ?_)
 refine mz ?_
 refine AWP.ret ?_
 refine endF.toG (congrArg (fun c => H.set i (AO.box c)) rfl) ?_
 refine ρC ?_ (hn := by rw [List.length_set]; exact hN)
 rfl
theorem code_of {e : Er} (h : e.isNone = false) : e.code = match e.found with | some c => if c = 0 then 2 else c | Option.none => 2 := by cases e <;> first | rfl | cases h
theorem code_two {e : Er} (h : e.isNone = false) (k : e.found = Option.none ∨ e.found.getD 0 = 0) : e.code = 2 := by
 rw [code_of h]
 cases hf : e.found with
 | none => rfl
 | some c => rw [hf] at k; simp at k; simp [k]
theorem code_got {e : Er} (h : e.isNone = false) (k : e.found.isSome = true) (k2 : ¬ e.found.getD 0 = 0) : e.code = e.found.getD 0 := by
 rw [code_of h]
 cases hf : e.found with
 | none => rw [hf] at k; cases k
 | some c => rw [hf] at k2; simp at k2; simp [k2]
theorem new_fn (op : ByteArray) (c : Int) : FnP Tryz.prog 22 [.str op, .int .i64 c] (aEr (Er.new op c)) := by
 refine FnP.of Tryz.func22 rfl rfl (by simp) (by simp [AV.cells]) (fun G hG => ?_)
 have hN : NoH G.length (aEr (Er.new op c)) := (by simp [AV.cells])
 refine sr fun _ => ?_
 refine mz ?_
 refine AWP.seq (sr fun _ => ?_)
 refine mv ?_
 refine ρ6 ?_
 refine ez ?_
 refine ρo (fun h0 => ?_) (fun h0 => ?_)
 · refine sr fun _ => ?_
   refine mz ?_
   refine AWP.ret (thenA_r ?_)
   refine ρ9 ?_
   rw [Er.new, if_pos (by simpa using h0)]; rfl
 refine AWP.skip (thenA_n (sr fun _ => ?_))
 refine mv ?_
 refine mv ?_
 refine ARun.iface rfl rfl rfl rfl (by kernel_rfl) (ep rfl) optN ?_
 refine ARun.build rfl rfl rfl rfl so129 (.cons (ep rfl) (.cons (ep rfl) .nil)) rfl rfl optN ?_
 refine ρt ?_
 refine ARun.iface rfl rfl rfl rfl (by kernel_rfl) (ep rfl) optN ?_
 refine mz ?_
 refine AWP.ret ?_
 refine ρ9 ?_
 rw [Er.new, if_neg (by simpa using h0)]; rfl
theorem wrap_fn (op : ByteArray) (e : Er) : FnP Tryz.prog 21 [.str op, aEr e] (aEr (Er.wrap op e)) := by
 refine FnP.of Tryz.func21 rfl rfl (by simp) (by simp [AV.cells]) (fun G hG => ?_)
 have hN : NoH G.length (aEr (Er.wrap op e)) := (by simp [AV.cells])
 refine sr fun _ => ?_
 refine mz ?_
 refine AWP.seq (sr fun _ => ?_)
 refine mv ?_
 refine ARun.isNil rfl rfl rfl rfl U28 (ep rfl) (fun hg => by first | rfl | exact nilA_aEr _) (.inl ⟨rfl, rfl⟩) optN ?_
 refine ez ?_
 refine ρo (fun h0 => ?_) (fun h0 => ?_)
 · refine sr fun _ => ?_
   refine mz ?_
   refine AWP.ret (thenA_r ?_)
   refine ρ9 ?_
   rw [Er.wrap, if_pos h0]; rfl
 rw [aEr_ifc h0]
 refine AWP.skip (thenA_n (sr fun _ => ?_))
 refine mv ?_
 refine mv ?_
 refine ARun.build rfl rfl rfl rfl so129 (.cons (ep rfl) (.cons (ep rfl) .nil)) rfl rfl optN ?_
 refine ρt ?_
 refine ARun.iface rfl rfl rfl rfl (by kernel_rfl) (ep rfl) optN ?_
 refine mz ?_
 refine AWP.ret ?_
 refine ρ9 ?_
 rw [Er.wrap, if_neg (by simp [h0])]
 show _ = AV.ifc _ (.pe [.str op, aEr e])
 rw [aEr_ifc h0]; rfl
theorem code_fn (e : Er) : FnP Tryz.prog 6 [aEr e] (.int .i64 e.code) := by
 refine FnP.of Tryz.func6 rfl rfl (by simp) (by simp [AV.cells]) (fun G hG => ?_)
 have hN : NoH G.length (.int .i64 e.code) := (by simp [AV.cells])
 refine sr fun _ => ?_
 refine mz ?_
 refine AWP.seq (sr fun _ => ?_)
 refine mv ?_
 refine ARun.isNil rfl rfl rfl rfl U28 (ep rfl) (fun hg => by first | rfl | exact nilA_aEr _) (.inl ⟨rfl, rfl⟩) optN ?_
 refine ez ?_
 refine ρo (fun h0 => ?_) (fun h0 => ?_)
 · obtain rfl := is_none h0
   refine sr fun _ => ?_
   refine mz ?_
   refine AWP.ret (thenA_r ?_)
   refine ρ9 ?_
   rfl
 try simp at h0
 refine AWP.skip (thenA_n (sr fun _ => ?_))
 refine ρp (j := 0) zv31 ?_
 refine ez ?_
 refine AWP.seq (sr fun _ => ?_)
 refine mv ?_
 refine ARun.iface rfl rfl rfl rfl (by kernel_rfl) (ep rfl) optN ?_
 refine ARun.callSet (j := 0) hG rfl rfl rfl rfl cf24 (ep rfl) (.cons (ep rfl) (.cons (ep rfl) .nil)) rfl (As_E e 0 _ _ ((hG.at _ _).trans rfl)) rfl optN ?_
 refine ARun.not rfl rfl rfl rfl (ep rfl) optN ?_
 refine mv ?_
 refine ARun.loadBox rfl rfl rfl rfl U31 rfl (ep rfl) ((hG.at _ _).trans rfl) rfl optS ?_
 refine ρb ?_
 refine ρ3 ?_
 refine ez ?_
 refine ρo (fun h1 => ?_) (fun h1 => ?_)
 · try simp at h1
   refine sr fun _ => ?_
   refine mz ?_
   refine AWP.ret (thenA_r ?_)
   refine ρ9 ?_
   rw [code_two h0 h1]; rfl
 try simp at h1
 refine AWP.skip (thenA_n (sr fun _ => ?_))
 refine ARun.loadBox rfl rfl rfl rfl U31 rfl (ep rfl) ((hG.at _ _).trans rfl) rfl optN ?_
 refine mz ?_
 refine AWP.ret ?_
 refine ρ9 ?_
 rw [code_got h0 h1.1 h1.2]
theorem isN_fn (e : Er) (c : Int) (he : e.isNone = false) : FnP Tryz.prog 62 [aEr e, aEr (.no c), .bool true] (.bool (decide (e.found = some c))) := by
 refine FnP.of Tryz.func62 rfl rfl (by simp) (by simp [AV.cells]) (fun G hG => ?_)
 have hN : NoH G.length (.bool (decide (e.found = some c))) := (by simp [AV.cells])
 refine sr fun _ => ?_
 refine mz ?_
 refine AWP.block ?_
 refine AWP.rounds (fun x => x.isNone = false ∧ x.inner = e.inner) (fun x => [(0, aEr x), (1, aEr (.no c)), (2, .bool true)]) (fun x => []) (fun x => x.depth) 0 e ⟨he, rfl⟩ (by repeat (first | exact .nil | refine .cons rfl ?_)) rfl (fun _ => rfl) (fun _ => ⟨by simp, by simp⟩) (fun x hI => ?_)
 obtain ⟨hx, hin⟩ := hI
 refine AWP.block (AWP.seq ?_)
 refine sr fun _ => ?_
 refine mv ?_
 refine mv ?_
 refine ρh ?_
 refine ρh ?_
 refine ARun.binV rfl rfl rfl rfl (Ev.opt rfl (fun h => h)) (Ev.opt rfl (fun h => h)) (fun hg W β u v hu hv => eq_no hx c _ _ W β u v hu hv) optS ?_
 refine ρ1 ?_
 refine ez ?_
 refine ρo (fun h0 => ?_) (fun h0 => ?_)
 · obtain ⟨d, rfl, rfl⟩ : ∃ d, x = .no d ∧ d = c := by
     cases x with
     | none => cases hx
     | no d => exact ⟨d, rfl, by simpa [Er.isIt] using h0⟩
     | wr op y => cases h0
   refine sr fun _ => ?_
   refine mz ?_
   refine AWP.ret (thenA_r ?_)
   refine blockA_r (thenA_r (blockA_r ?_))
   refine ρ9 ?_
   rw [← found_congr hin]; simp [Er.found, Er.inner, cAV]
 refine AWP.skip (thenA_n (AWP.seq (sr fun _ => ?_)))
 refine mv ?_
 refine ARun.assertV rfl rfl rfl rfl (ep rfl) (fun hg => no_is hx) optN ?_
 refine mv ?_
 refine ρj ?_
 refine ρj ?_
 refine ma ?_
 refine mz (sr fun _ => ?_)
 refine mv ?_
 refine mv ?_
 refine ρh ?_
 refine ρh ?_
 refine ARun.invokeX (F := 0) (X' := .bool false) (r := .bool false) rfl rfl rfl rfl (Ev.opt rfl (fun h => h)) (fun hg => absurd hg (by decide)) (.cons (Ev.opt rfl (fun h => h)) .nil) (fun hg => absurd hg (by decide)) optS ?_
 refine ρ1 ?_
 refine ez ?_
 refine ρo (fun h1 => ?_) (fun h1 => ?_)
 · exact absurd h1 (by decide)
 refine AWP.skip (thenA_n (sr fun _ => ?_))
 refine mv ?_
 refine ez ?_
 refine AWP.block (sr fun _ => ?_)
 refine ARun.assertV rfl rfl rfl rfl (ep rfl) (fun hg => to_unwrap hx) optN ?_
 refine ρj ?_
 refine ρj ?_
 refine ez ?_
 refine ρo (fun h2 => ?_) (fun h2 => ?_)
 · obtain ⟨op, y, rfl⟩ := is_wr h2
   refine sr fun _ => ?_
   refine mz (sr fun _ => ?_)
   refine mv ?_
   refine ARun.invokeP rfl rfl rfl rfl cf211 (ep rfl) (fun hg => inv_unwrap op y) .nil (fun hg => unwrap_fn op y) optN ?_
   refine mz (sr fun _ => ?_)
   refine mv ?_
   refine ARun.isNil rfl rfl rfl rfl U28 (ep rfl) (fun hg => by first | rfl | exact nilA_aEr _) (.inl ⟨rfl, rfl⟩) optN ?_
   refine ez ?_
   refine ρo (fun h3 => ?_) (fun h3 => ?_)
   · refine sr fun _ => ?_
     refine mz ?_
     refine AWP.ret (blockA_r ?_)
     refine blockA_r (thenA_r (blockA_r ?_))
     refine ρ9 ?_
     rw [← found_congr hin, is_none h3]; rfl
   refine AWP.skip (blockA_n (blockA_n ?_))
   refine thenA_n ⟨rfl, y, _, ?_, ?_, rfl, ?_⟩
   · exact ⟨h3, hin⟩
   · repeat (first | exact .nil | refine .cons rfl ?_)
   show y.depth < y.depth + 1; omega
 refine sr fun _ => ?_
 refine ARun.assertV rfl rfl rfl rfl (ep rfl) (fun hg => no_unwraps0 hx) optN ?_
 refine ρj ?_
 refine ρj ?_
 refine ez ?_
 refine ρo (fun h4 => ?_) (fun h4 => ?_)
 · cases h4
 refine sr fun _ => ?_
 refine mz (sr fun _ => ?_)
 refine mz ?_
 refine AWP.ret (blockA_r ?_)
 refine blockA_r (thenA_r (blockA_r ?_))
 refine ρ9 ?_
 rw [← found_congr hin]
 obtain ⟨d, rfl⟩ : ∃ d, x = .no d := by
   cases x with
   | none => cases hx
   | no d => exact ⟨d, rfl⟩
   | wr op y => cases h2
 have hd : ¬ d = c := by simpa [Er.isIt] using h0
 simp [Er.found, Er.inner, hd, cAV]
theorem Is_fn (e : Er) (c : Int) (he : e.isNone = false) : FnP Tryz.prog 25 [aEr e, aEr (.no c)] (.bool (decide (e.found = some c))) := by
 refine FnP.of Tryz.func25 rfl rfl (by simp) (by simp [AV.cells]) (fun G hG => ?_)
 have hN : NoH G.length (.bool (decide (e.found = some c))) := (by simp [AV.cells])
 refine sr fun _ => ?_
 refine mz ?_
 refine AWP.seq (sr fun _ => ?_)
 refine mv ?_
 refine ARun.isNil rfl rfl rfl rfl U28 (ep rfl) (fun hg => nilA_aEr _) (.inl ⟨rfl, rfl⟩) optN ?_
 refine mv ?_
 refine ρh ?_
 refine ARun.isNil rfl rfl rfl rfl U28 (Ev.opt rfl (fun h => h)) (fun hg => by first | rfl | exact nilA_aEr _) (.inl ⟨rfl, rfl⟩) optS ?_
 refine ρ3 ?_
 refine ez ?_
 refine ρo (fun h0 => ?_) (fun h0 => ?_)
 · rw [he] at h0; exact absurd h0 (by decide)
 refine AWP.skip (thenA_n (sr fun _ => ?_))
 refine mv ?_
 refine ARun.callXP rfl rfl rfl rfl (ep rfl) (.cons (ep rfl) .nil) (fun hg => x_typeOf (e := .no c) rfl) optN ?_
 refine ARun.invokeX rfl rfl rfl rfl (ep rfl) (fun hg => inv_comp _) .nil (fun hg => x_comp) optN ?_
 refine mz (sr fun _ => ?_)
 refine mv ?_
 refine mv ?_
 refine mv ?_
 refine ARun.call rfl rfl rfl rfl cf62 (ep rfl) (.cons (ep rfl) (.cons (ep rfl) (.cons (ep rfl) .nil))) rfl (fun hg => isN_fn e c he) optN ?_
 refine mz ?_
 refine AWP.ret ?_
 refine ρ9 ?_
 rfl
-- instance : Inhabited ByteArray := ⟨⟨#[]⟩⟩
end Go.Proofs.YtnlpojjfkgnhhaaGreatDoor
namespace Go.Proofs.YtnlpojjfkgnhhaaGreatDoor
set_option linter.unusedVariables false
section
variable {P : Program} {ops : Array Oper} {n m : Nat} {QQ : List Kd → Sl → List AO → Prop} {l : List Oper} {ks : List Kd} {σ : Sl} {G L H : List AO} {o : Oper} {gd : Bool}
theorem ρc {x y : Operand} {t : TypeId} {j off : Nat} {cs cs' : List AV} {X : AV} {L' : List AO} (hz : Sz P t 1) (hcs : cs.take off ++ [X] ++ cs.drop (off + 1) = cs') (hr : ARun P ops n QQ l (ks ++ [.write]) σ (G ++ L')) (hm : GOK m G := by assumption) (ho : o.op = .store t x y := by exact rfl) (hd : o.dst = none := by exact rfl) (hg : gdS ops σ o.guard = some true := by exact rfl) (hx : Ev true σ x (.box (m + j) off) := by exact ep rfl) (hy : Ev true σ y X := by exact ep rfl) (hH : L[j]? = some (.box cs) := by exact rfl) (hX : X.one = true := by first | rfl | exact aEr_one _ | exact aFl_one _) (hoff : off + 1 ≤ cs.length := by exact Nat.le_of_ble_eq_true rfl) (hL : L.set j (.box cs') = L' := by exact rfl) (hsp : ((cs.drop off).take 1).all AV.plainC = true := by first | rfl | exact plain_take rfl | exact plain_take (by simp [AV.plainC])) : ARun P ops n QQ (o :: l) ks σ (G ++ L) := ARun.storeL1 hm ho hd hg hz hx hy hH hX hoff hcs hL hr hsp
theorem ρr {bo : BinOp} {x : Operand} {t1 t2 : TypeId} {ms : Array (String × TypeId)} {X : AV} {b r : Bool} {Y : AV} {d : Option Tmp} (hu : P.underlying t1 = some (.interface ms)) (hr : ARun P ops n QQ l (ks ++ [.pure]) (putS σ d Y) H) (ho : o.op = .binOp bo t1 x (.const .nilIface) t2 := by exact rfl) (hd : o.dst = d := by exact rfl) (hn : dstLt n d = true := by exact rfl) (hG : gdS ops σ o.guard = some gd := by exact rfl) (hx : Ev gd σ x X := by exact ep rfl) (hX : gd = true → nilA X = some b := by exact fun hg => by first | rfl | exact nilA_aEr _) (hb : bo = .eql ∧ r = b ∨ bo = .neq ∧ r = !b := by exact .inr ⟨rfl, rfl⟩) (hY : optA o.guard gd (.bool r) = Y := by exact optN) : ARun P ops n QQ (o :: l) ks σ H := ARun.isNil ho hd hn hG hu hx hX hb hY hr
end
end Go.Proofs.YtnlpojjfkgnhhaaGreatDoor
namespace Go.Proofs.YtnlpojjfkgnhhaaGreatDoor
open Go.ChangeShapes Go.WideShapes Go.ChangeAt Go.RowKit
/-! a text out of bytes -/
theorem conv1 (w : World) (a : Int) : (convert 86 9 (.slice (some ⟨w.heap.size, 0, none⟩) 1 1)).run Tryz.prog
   (w.alloc (.cells #[.int .u8 a] 5)) = .ok (.string (bs [UInt8.ofNat a.toNat])) (w.alloc (.cells #[.int .u8 a] 5)) := by
 refine run_convert_bytes_arg _ 86 5 U86 U5 _ 0 1 1 [a] rfl ?_ _ U9
 intro i hi
 match i, hi with
 | 0, _ => simp
theorem row_text (wr : World) (B n c : Nat) (l : List UInt8) (hl : l.length = n) (h : ∀ j, j < n → wr.cell? ⟨B, j, none⟩ = some (.int .u8 ((l.getD j 0).toNat : Int))) :
   (convert 86 9 (.slice (some ⟨B, 0, none⟩) n c)).run Tryz.prog wr = .ok (.string (bs l)) wr := by
 rw [run_convert_bytes_arg wr 86 5 U86 U5 B 0 n c (l.map fun b => (b.toNat : Int)) (by rw [List.length_map]; exact hl) ?_ _ U9]
 · congr 2
   unfold strOfNums bs
   rw [List.map_map]
   congr 2
   conv => rhs; rw [← List.map_id l]
   apply List.map_congr_left
   intro b _
   simp
 · intro i hi
   rw [Nat.zero_add, h i hi]
   simp [List.getD, hl, hi]
end Go.Proofs.YtnlpojjfkgnhhaaGreatDoor
namespace Go.Proofs
open Go.Shelf
def Tryz.lays125_ren : Go.Shelf.Ren := ⟨fun | 125 => 135 | 128 => 156 | 129 => 157 | n => n, fun | 46 => 213 | 3 => 3 | 51 => 232 | 53 => 237 | 4 => 4 | 5 => 5 | 9 => 9 | n => n, fun | n => n⟩
theorem Tryz.lays125 : Go.Proofs.Lays.n125 Tryz.prog Tryz.lays125_ren := {
 mixed := by kernel_rfl
 f125 := Tryz.func135.trans (congrArg some (by kernel_rfl))
 f128 := Tryz.func156.trans (congrArg some (by kernel_rfl))
 f129 := Tryz.func157.trans (congrArg some (by kernel_rfl))
 t3 := U3
 a3 := Tryz.isAgg3
 z3 := Tryz.sizeOf3
 v3 := Tryz.zeroValue3
 t4 := U4
 a4 := Tryz.isAgg4
 z4 := Tryz.sizeOf4
 v4 := Tryz.zeroValue4
 t5 := U5
 a5 := Tryz.isAgg5
 z5 := Tryz.sizeOf5
 v5 := Tryz.zeroValue5
 t9 := U9
 a9 := Tryz.isAgg9
 z9 := Tryz.sizeOf9
 v9 := Tryz.zeroValue9
 t46 := U213
 a46 := Tryz.isAgg213
 z46 := Tryz.sizeOf213
 v46 := Tryz.zeroValue213
 t51 := U232
 a51 := Tryz.isAgg232
 z51 := Tryz.sizeOf232
 v51 := Tryz.zeroValue232
 t53 := U237
 a53 := Tryz.isAgg237
 z53 := Tryz.sizeOf237
 v53 := Tryz.zeroValue237 }
theorem Tryz.bits_Len (x : Int) (w : World) (h0 : 0 ≤ x) (h1 : x ≤ 18446744073709551615) :
   Calls Tryz.prog 135 #[.int .u64 x] w fun e w' => e = .returned (.int .i64 (Lib.bitLen x.toNat)) ∧ w' = w := Any.bits_Len Tryz.lays125 x w h0 h1
end Go.Proofs
namespace Go.Proofs.YtnlpojjfkgnhhaaGreatDoor.NumP
def beF : Nat → Nat → List UInt8
 | 0, _ => []
 | k + 1, n => if n = 0 then [] else beF k (n / 256) ++ [UInt8.ofNat n]
def be (n : Nat) : List UInt8 := beF 8 n
def val (l : List UInt8) : Nat := l.foldl (fun a b => 256 * a + b.toNat) 0
def beK : Nat → Nat → List UInt8
 | 0, _ => []
 | k + 1, n => beK k (n / 256) ++ [UInt8.ofNat n]

theorem val_snoc (l : List UInt8) (b : UInt8) : val (l ++ [b]) = 256 * val l + b.toNat := by simp [val]
theorem beF_zero (k : Nat) : beF k 0 = [] := by cases k <;> rfl
theorem beK_length (k : Nat) : ∀ n, (beK k n).length = k := by
 induction k with
 | zero => intro n; rfl
 | succ k ih => intro n; simp [beK, ih]
theorem beF_length_le (k : Nat) : ∀ n, (beF k n).length ≤ k := by
 induction k with
 | zero => intro n; simp [beF]
 | succ k ih => intro n; unfold beF; split <;> simp; exact ih _
theorem val_beF (k : Nat) : ∀ n, n < 256 ^ k → val (beF k n) = n := by
 induction k with
 | zero => intro n h; simp at h; subst h; rfl
 | succ k ih =>
   intro n h
   unfold beF
   split
   · rename_i h0; subst h0; rfl
   · rw [val_snoc, ih (n / 256) (by rw [Nat.pow_succ] at h; omega)]
     rw [UInt8.toNat_ofNat']; omega
theorem beF_eq_beK (k : Nat) : ∀ n, n < 256 ^ k → beF k n = beK (beF k n).length n := by
 induction k with
 | zero => intro n h; rfl
 | succ k ih =>
   intro n h
   by_cases h0 : n = 0
   · subst h0; rw [beF_zero]; rfl
   · have e : beF (k + 1) n = beF k (n / 256) ++ [UInt8.ofNat n] := by rw [beF, if_neg h0]
     rw [e, List.length_append]
     show _ = beK _ (n / 256) ++ [UInt8.ofNat n]
     rw [← ih (n / 256) (by rw [Nat.pow_succ] at h; omega)]
theorem beF_head (k : Nat) : ∀ n, n < 256 ^ k → n ≠ 0 → ∃ b l, beF k n = b :: l ∧ b ≠ 0 := by
 induction k with
 | zero => intro n h h0; simp at h; omega
 | succ k ih =>
   intro n h h0
   rw [beF, if_neg h0]
   by_cases h1 : n / 256 = 0
   · rw [h1, beF_zero]
     refine ⟨UInt8.ofNat n, [], rfl, ?_⟩
     intro h2
     have := congrArg UInt8.toNat h2
     rw [UInt8.toNat_ofNat'] at this
     simp at this
     omega
   · obtain ⟨b, l, e, hb⟩ := ih (n / 256) (by rw [Nat.pow_succ] at h; omega) h1
     exact ⟨b, l ++ [UInt8.ofNat n], by rw [e]; rfl, hb⟩
theorem snocInd {α : Type} {P : List α → Prop} (h0 : P []) (h1 : ∀ l b, P l → P (l ++ [b])) (l : List α) : P l := by
 rw [← List.reverse_reverse l]
 induction l.reverse with
 | nil => exact h0
 | cons b r ih => rw [List.reverse_cons]; exact h1 _ _ ih
theorem val_lt (l : List UInt8) : val l < 256 ^ l.length := by
 induction l using snocInd with
 | h0 => simp [val]
 | h1 l b ih =>
   rw [val_snoc, List.length_append, List.length_singleton, Nat.pow_succ]
   have := b.toNat_lt
   omega

theorem val_ge (b : UInt8) (l : List UInt8) (hb : b ≠ 0) : 256 ^ l.length ≤ val (b :: l) := by
 have hb1 : 1 ≤ b.toNat := by
   rcases Nat.eq_zero_or_pos b.toNat with h | h
   · exact absurd (UInt8.toNat_inj.1 (by simpa using h)) hb
   · exact h
 induction l using snocInd with
 | h0 => simp [val]; exact hb1
 | h1 l c ih =>
   rw [← List.cons_append, val_snoc, List.length_append, List.length_singleton, Nat.pow_succ]
   omega
theorem beF_val (k : Nat) : ∀ (b : UInt8) (l : List UInt8), b ≠ 0 → l.length < k → beF k (val (b :: l)) = b :: l := by
 induction k with
 | zero => intro b l _ h; omega
 | succ k ih =>
   intro b l hb h
   have hpos := val_ge b l hb
   have hp : 0 < 256 ^ l.length := Nat.pow_pos (by omega)
   rw [beF, if_neg (by omega)]
   rcases List.eq_nil_or_concat l with rfl | ⟨m, c, rfl⟩
   · have e : val [b] = b.toNat := by simp [val]
     have hlt := b.toNat_lt
     rw [e, show b.toNat / 256 = 0 by omega, beF_zero]
     simp
   · rw [List.concat_eq_append] at *
     rw [← List.cons_append, val_snoc]
     have hlt := c.toNat_lt
     rw [show (256 * val (b :: m) + c.toNat) / 256 = val (b :: m) by omega, ih b m hb (by simp at h; omega)]
     congr 2
     apply UInt8.toNat_inj.1
     rw [UInt8.toNat_ofNat']; omega
theorem beF_len (k : Nat) : ∀ n j, n < 256 ^ k → j < k → 256 ^ j ≤ n → n < 256 ^ (j + 1) → (beF k n).length = j + 1 := by
 induction k with
 | zero => intro n j _ h; omega
 | succ k ih =>
   intro n j h hj h1 h2
   have hp : 0 < 256 ^ j := Nat.pow_pos (by omega)
   rw [beF, if_neg (by omega), List.length_append, List.length_singleton]
   cases j with
   | zero =>
     simp at h2
     rw [show n / 256 = 0 by omega, beF_zero]; rfl
   | succ j =>
     rw [ih (n / 256) j (by rw [Nat.pow_succ] at h; omega) (by omega) (by rw [Nat.pow_succ] at h1; omega) (by rw [Nat.pow_succ] at h2; omega)]
/-! ### how many bytes, by the number of bits -/
theorem bitLen_bounds (f : Nat) : ∀ x, x < 2 ^ f → x < 2 ^ (Go.Lib.bitLenAux f x) ∧ (x ≠ 0 → Go.Lib.bitLenAux f x ≠ 0 ∧ 2 ^ (Go.Lib.bitLenAux f x - 1) ≤ x) := by
 induction f with
 | zero => intro x h; simp at h; subst h; simp [Go.Lib.bitLenAux]
 | succ f ih =>
   intro x h
   unfold Go.Lib.bitLenAux
   by_cases h0 : x = 0
   · subst h0; simp
   · rw [if_neg h0]
     obtain ⟨h1, h2⟩ := ih (x / 2) (by rw [Nat.pow_succ] at h; omega)
     refine ⟨by rw [Nat.add_comm, Nat.pow_succ]; omega, fun _ => ⟨by omega, ?_⟩⟩
     by_cases h3 : x / 2 = 0
     · rw [h3] at h1 h2 ⊢
       have : Go.Lib.bitLenAux f 0 = 0 := by cases f <;> simp [Go.Lib.bitLenAux]
       rw [this]; simp; omega
     · obtain ⟨h4, h5⟩ := h2 h3
       rw [show 1 + Go.Lib.bitLenAux f (x / 2) - 1 = (Go.Lib.bitLenAux f (x / 2) - 1) + 1 by omega, Nat.pow_succ]
       omega
theorem be_length (n : Nat) (h0 : n ≠ 0) (h : n < 2 ^ 64) : (be n).length = (Go.Lib.bitLen n + 7) / 8 := by
 obtain ⟨h1, h2⟩ := bitLen_bounds 64 n h
 obtain ⟨h3, h4⟩ := h2 h0
 unfold be Go.Lib.bitLen
 generalize hL : Go.Lib.bitLenAux 64 n = L at *
 have hL64 : L ≤ 64 := by
   rcases Nat.lt_or_ge 64 L with h5 | h5
   · have : 2 ^ 64 ≤ 2 ^ (L - 1) := Nat.pow_le_pow_right (by omega) (by omega)
     omega
   · exact h5
 have e : ∀ j, (256 : Nat) ^ j = 2 ^ (8 * j) := fun j => by rw [Nat.pow_mul]
 rw [beF_len 8 n ((L - 1) / 8) (by rw [e]; exact h) (by omega)]
 · omega
 · rw [e]; exact Nat.le_trans (Nat.pow_le_pow_right (by omega) (by omega)) h4
 · rw [e]; exact Nat.lt_of_lt_of_le h1 (Nat.pow_le_pow_right (by omega) (by omega))
theorem beK_get (k : Nat) : ∀ n i, i < k → (beK k n).getD i 0 = UInt8.ofNat (n / 256 ^ (k - 1 - i)) := by
 induction k with
 | zero => intro n i h; omega
 | succ k ih =>
   intro n i h
   unfold beK
   have hl := beK_length k (n / 256)
   by_cases e : i = k
   · subst e
     rw [List.getD, List.getElem?_append_right (by omega), hl]
     simp
   · have h2 := ih (n / 256) i (by omega)
     rw [List.getD, List.getElem?_append_left (by omega)]
     rw [List.getD] at h2
     rw [h2, Nat.div_div_eq_div_mul, ← Nat.pow_succ']
     congr 3
     omega
theorem be_pos (n : Nat) (h0 : n ≠ 0) (h : n < 2 ^ 64) : 1 ≤ (be n).length := by
 obtain ⟨b, l, e, _⟩ := beF_head 8 n (by simpa using h) h0
 unfold be; rw [e]; simp
theorem be_le (n : Nat) : (be n).length ≤ 8 := beF_length_le 8 n

/-! ### the document's answers -/
def putN (n : Int) : List UInt8 × Int :=
 if n < 0 then ([], 2) else if n < 128 then ([UInt8.ofNat n.toNat], 0) else (UInt8.ofNat (128 + (be n.toNat).length) :: be n.toNat, 0)
def sizeN (n : Int) : Int := ((putN n).1.length : Int)
def greatN (m : List UInt8) : Int × Int :=
 if m.headD 0 = 0 ∨ val m < 128 then (0, 5) else if 9223372036854775807 < val m then (0, 3) else ((val m : Int), 0)
def getN (l : List UInt8) (p : Int) : Int × Int × Int :=
 if p < 0 ∨ (l.length : Int) < p then (0, 0, 2) else if p = l.length then (0, 0, 4) else
 let b := (l.getD p.toNat 0).toNat
 if b < 128 then ((b : Int), p + 1, 0) else if b - 128 < 1 ∨ 8 < b - 128 then (0, 0, 5) else
 if (l.length : Int) - p - 1 < (b - 128 : Nat) then (0, 0, 4) else
 let g := greatN ((l.drop (p.toNat + 1)).take (b - 128))
 if g.2 ≠ 0 then (0, 0, g.2) else (g.1, p + 1 + (b - 128 : Nat), 0)
/-! ### rows -/
def nneg (l : List Int) : Bool := l.all fun x => decide (0 ≤ x)
def rowBytes (l : List Int) : List UInt8 := l.flatMap fun x => (putN x).1
def rowN (l : List Int) : List UInt8 × Int := if nneg l = true then ((putN l.length).1 ++ rowBytes l, 0) else ([], 2)
theorem putN_len (n : Int) : (putN n).1.length ≤ 9 := by
 unfold putN
 split
 · simp
 · split
   · simp
   · have := be_le n.toNat; simp; omega
theorem putN_err (n : Int) : (putN n).2 = if 0 ≤ n then 0 else 2 := by
 unfold putN
 by_cases h : n < 0
 · rw [if_pos h, if_neg (by omega)]
 · by_cases h2 : n < 128
   · rw [if_neg h, if_pos h2, if_pos (by omega)]
   · rw [if_neg h, if_neg h2, if_pos (by omega)]
def unrowF (l : List UInt8) : Nat → Int → List Int → List Int × Int × Int
 | 0, to, acc => (acc, to, 0)
 | k + 1, to, acc => if (getN l to).2.2 ≠ 0 then ([], 0, (getN l to).2.2) else unrowF l k (getN l to).2.1 (acc ++ [(getN l to).1])
def unrowN (l : List UInt8) (p top : Int) : List Int × Int × Int :=
 if (getN l p).2.2 ≠ 0 then ([], 0, (getN l p).2.2) else
 if (getN l p).1 > 1000 ∨ ((getN l p).1 > top ∧ (getN l p).1 > 0) then ([], 0, 3) else unrowF l (getN l p).1.toNat (getN l p).2.1 []
end Go.Proofs.YtnlpojjfkgnhhaaGreatDoor.NumP
namespace Go.Proofs.YtnlpojjfkgnhhaaGreatDoor
open Go.ChangeShapes Go.WideShapes Go.ChangeAt Go.RowKit
open NumP
theorem size_neg {n : Int} (h : n < 0) : sizeN n = 0 := by unfold sizeN putN; rw [if_pos h]; rfl
theorem size_one {n : Int} (h : ¬ n < 0) (h2 : n < 128) : sizeN n = 1 := by unfold sizeN putN; rw [if_neg h, if_pos h2]; rfl
theorem size_many {n : Int} (h : ¬ n < 128) : sizeN n = 1 + ((be n.toNat).length : Int) := by
 unfold sizeN putN; rw [if_neg (by omega), if_neg h]; simp; omega
theorem size_len {n : Int} (h : ¬ n < 128) (h2 : n ≤ 9223372036854775807) : sizeN n = 1 + ((Lib.bitLen n.toNat : Int) + 7) / 8 := by
 rw [size_many h, be_length n.toNat (by omega) (by omega)]; omega
theorem bitLen_le64 (n : Nat) (h : n < 2 ^ 64) (h0 : n ≠ 0) : Lib.bitLen n ≤ 64 := by
 have := be_length n h0 h
 have h8 := be_le n
 omega
theorem size_any (n : Int) (w : World) (h0 : -9223372036854775808 ≤ n) (h1 : n ≤ 9223372036854775807) :
   Calls Tryz.prog 107 #[.int .i64 n] w fun e w' => e = .returned (.int .i64 (sizeN n)) ∧ w = w' := by
 by_cases hn : n < 0
 · rw [size_neg hn]
   go_enter Tryz.func107, Tryz.ntmps107
   go_wp2_with fail
   go_ret
   exact ⟨rfl, rfl⟩
 · by_cases h128 : n < 128
   · rw [size_one hn h128]
     go_enter Tryz.func107, Tryz.ntmps107
     go_wp2_with fail
     go_ret
     exact ⟨rfl, rfl⟩
   · rw [size_len h128 h1]
     have hL := bitLen_le64 n.toNat (by omega) (by omega)
     go_enter Tryz.func107, Tryz.ntmps107
     go_wp2_with fail
     refine (Tryz.bits_Len _ _ (by omega) (by omega)).mono ?_
     rintro e w1 ⟨rfl, rfl⟩
     go_wp2_with fail
     go_ret
     exact ⟨rfl, rfl⟩
theorem put_one {n : Int} (h : ¬ n < 0) (h2 : n < 128) : putN n = ([UInt8.ofNat n.toNat], 0) := by unfold putN; rw [if_neg h, if_pos h2]
theorem put_neg {n : Int} (h : n < 0) : putN n = ([], 2) := by unfold putN; rw [if_pos h]
theorem put_many {n : Int} (h : ¬ n < 128) : putN n = (UInt8.ofNat (128 + (be n.toNat).length) :: be n.toNat, 0) := by unfold putN; rw [if_neg (by omega), if_neg h]
theorem infoU8 : (Tryz.prog.info? 5).map (fun i => (i.zero, i.size, i.bytes)) = some (some (.int .u8 0), 1, 1) := by kernel_rfl
theorem make_bytes (w : World) (m : Int) (n : Nat) (hm : m = (n : Int)) (h : n ≤ 1000000) : (Instr.makeSlice 86 (.int .i64 m) (.int .i64 m)).run Tryz.prog w = .ok (.slice (some ⟨w.heap.size, 0, none⟩) n n) (w.alloc (.cells (madeCells #[.int .u8 0] n) 5)) := by
 subst hm
 obtain ⟨i0, hi, hz0, hz1, hz2⟩ := info_parts infoU8
 have := run_make (P := Tryz.prog) w 86 5 i0 (.int .u8 0) U86 hi hz0 .i64 .i64 (n : Int) (n : Int) (by omega) (by omega) (by rw [hz2]; omega) (by omega)
 rw [hz1] at this
 simpa [Value.cells] using this
theorem made_get (n i : Nat) (h : i < n) : (madeCells #[.int .u8 0] n)[i]? = some (.int .u8 0) := by
 simp [madeCells, h, Nat.mod_one]
structure Filling (w wr : World) (B n i : Nat) (T : List UInt8) : Prop where
 has : ∀ j, j < n → ∃ v, wr.cell? ⟨B, j, none⟩ = some v
 free : ∀ j, j < n → wr.frozen? ⟨B, j, none⟩ = false
 done : ∀ j, j < n → (i < j ∨ j = 0) → wr.cell? ⟨B, j, none⟩ = some (.int .u8 ((T.getD j 0).toNat : Int))
 new : w.heap.size ≤ B
 bel : Below w.heap.size w wr
theorem Filling.store {w wr : World} {B n i : Nat} {T : List UInt8} (h : Filling w wr B n (i + 1) T) :
   Filling w (wr.setCell ⟨B, i + 1, none⟩ (.int .u8 ((T.getD (i + 1) 0).toNat : Int))) B n i T := by
 refine ⟨?_, ?_, ?_, h.new, h.bel.setCell h.new _⟩
 · intro j hj
   by_cases e : j = i + 1
   · subst e; obtain ⟨v, hv⟩ := h.has _ hj; exact ⟨_, World.cell?_setCell_same _ _ _ hv⟩
   · rw [World.cell?_setCell_other _ _ _ _ (by intro h2; apply e; injection h2 with _ h3; exact h3.symm)]; exact h.has j hj
 · intro j hj; rw [World.frozen?_setCell]; exact h.free j hj
 · intro j hj hc
   by_cases e : j = i + 1
   · subst e; obtain ⟨v, hv⟩ := h.has _ hj; exact World.cell?_setCell_same _ _ _ hv
   · rw [World.cell?_setCell_other _ _ _ _ (by intro h2; apply e; injection h2 with _ h3; exact h3.symm)]; exact h.done j hj (by omega)
theorem Filling.start (w : World) (n i : Nat) (T : List UInt8) (a : Int) (hT : a = ((T.getD 0 0).toNat : Int)) (hi : n ≤ i + 1) :
   Filling w (w.alloc (.cells ((madeCells #[.int .u8 0] n).setIfInBounds 0 (.int .u8 a)) 5)) w.heap.size n i T := by
 subst hT
 refine ⟨?_, ?_, ?_, Nat.le_refl _, (Below.refl _ _).alloc (Nat.le_refl _) _⟩
 · intro j hj
   rw [World.cell?_alloc_new]
   exact ⟨_, Array.getElem?_eq_getElem (by simp [size_madeCells]; exact hj)⟩
 · intro j hj; exact World.frozen?_alloc_new _ _ _ _
 · intro j hj hc
   obtain rfl : j = 0 := by omega
   rw [World.cell?_alloc_new, Array.getElem?_setIfInBounds_self_of_lt (by simp [size_madeCells]; omega)]
theorem byte_div (x : Nat) : ((UInt8.ofNat x).toNat : Int) = (x : Int) % 256 := by rw [UInt8.toNat_ofNat']; omega
theorem putAny (n : Int) (w : World) (h0 : -9223372036854775808 ≤ n) (h1 : n ≤ 9223372036854775807) :
   Calls Tryz.prog 64 #[.int .i64 n] w fun e w' => e = .returned (.tuple #[.string (bs (putN n).1), .int .i64 (putN n).2]) ∧ Below w.heap.size w w' := by
 by_cases hn : n < 0
 · rw [put_neg hn]
   have hz := size_neg hn
   go_enter Tryz.func64, Tryz.ntmps64
   go_wp2_with fail
   refine (size_any _ _ h0 h1).mono ?_
   rw [hz]
   rintro e w1 ⟨rfl, rfl⟩
   go_wp2_with fail
   go_ret2
   exact ⟨rfl, Below.refl _ _⟩
 · by_cases h128 : n < 128
   · rw [put_one hn h128]
     have hz := size_one hn h128
     have hc := conv1 w
     go_enter Tryz.func64, Tryz.ntmps64
     go_wp2_with fail
     refine (size_any _ _ h0 h1).mono ?_
     rw [hz]
     rintro e w1 ⟨rfl, rfl⟩
     go_wp2_with fail
     go_ret2
     exact ⟨rfl, (Below.refl _ _).alloc (Nat.le_refl _) _⟩
   · rw [put_many h128]
     have hz := size_many h128
     obtain ⟨N, rfl⟩ := Int.eq_ofNat_of_zero_le (show 0 ≤ n by omega)
     rw [Int.toNat_natCast] at *
     have hl1 := be_pos N (by omega) (by omega)
     have hl8 := be_le N
     have hbe : be N = beK (be N).length N := beF_eq_beK 8 N (by omega)
     generalize hL : (be N).length = L at *
     have hmk := make_bytes w ((1 : Int) + (L : Int)) (1 + L) (by omega) (by omega)
     have hm0 := made_get (1 + L) 0 (by omega)
     have hT0 : (128 + (1 + (L : Int)) - 1) = ((((UInt8.ofNat (128 + L) :: be N : List UInt8).getD 0 0).toNat : Nat) : Int) := by
       show _ = ((UInt8.ofNat (128 + L)).toNat : Int)
       rw [byte_div]; omega
     have hTi : ∀ i, i < L → (((UInt8.ofNat (128 + L) :: be N : List UInt8).getD (i + 1) 0).toNat : Int) = ((N / 256 ^ (L - 1 - i) : Nat) : Int) % 256 := by
       intro i hi
       show ((((be N).getD i 0).toNat : Nat) : Int) = _
       rw [hbe, beK_get L N i hi, byte_div]
     have hTl : (UInt8.ofNat (128 + L) :: be N : List UInt8).length = 1 + L := by simp [hL]; omega
     generalize (UInt8.ofNat (128 + L) :: be N : List UInt8) = T at *
     have HT0 := Lib.hid (Filling.start w (1 + L) L T _ hT0 (by omega))
     have HTI := Lib.hid hTi
     have HTL := Lib.hid hTl
     clear hbe hL hT0 hTi hTl
     go_enter Tryz.func64, Tryz.ntmps64
     go_wp2_with fail
     refine (size_any _ _ h0 h1).mono ?_
     rw [hz]
     rintro e w1 ⟨rfl, rfl⟩
     go_wp2_with fail
     have e1 : (1 + (L : Int) - 1) = (L : Int) := by omega
     go_loopw [0, 6] (fun v0 v6 wr => ∃ i : Nat, i ≤ L ∧ v6 = .int .i64 i ∧ v0 = .int .i64 ((N / 256 ^ (L - i) : Nat) : Int) ∧ Filling w wr w.heap.size (1 + L) i T) (fun _ v6 _ => (intOf v6).toNat)
     case atStart => exact ⟨L, by omega, by rw [e1], by simp, HT0.out⟩
     case round =>
       obtain ⟨i, hi, rfl, rfl, hF⟩ := hrel
       have HF := Lib.hid hF
       clear hF e1 HT0 hm0 hmk
       cases i with
       | zero =>
         have htx := row_text wr w.heap.size (1 + L) (1 + L) T HTL.out (fun j hj => HF.out.done j hj (by omega))
         have hbel := HF.out.bel
         go_wp2_with fail
         go_ret2
         exact ⟨rfl, hbel⟩
       | succ i =>
         obtain ⟨v, hv⟩ := HF.out.has (i + 1) (by omega)
         have hfr := HF.out.free (i + 1) (by omega)
         have hst := HF.out.store
         rw [HTI.out i (by omega)] at hst
         have HST := Lib.hid hst
         have HD : Hid ((N / 256 ^ (L - 1 - i)) / 256 = N / 256 ^ (L - i)) := by
           show _ = _
           rw [Nat.div_div_eq_div_mul, ← Nat.pow_succ]; congr 2; omega
         clear hst
         have hq : N / 256 ^ (L - 1 - i) ≤ N := Nat.div_le_self _ _
         have hsub : L - (i + 1) = L - 1 - i := by omega
         rw [hsub]
         clear hsub
         generalize N / 256 ^ (L - 1 - i) = q at *
         go_wp2_with fail
         refine ⟨⟨i, by omega, rfl, ?_, HST.out⟩, by simp [intOf]⟩
         rw [← HD.out, Int.natCast_ediv]; rfl
theorem u64_shl_or (v : Nat) (b : UInt8) (hv : v < 2 ^ 56) : bits .or .u64 ((v : Int) * (256 : Int)) (b.toNat : Int) = ((256 * v + b.toNat : Nat) : Int) := by
 have hb := b.toNat_lt
 have e : (v : Int) * (256 : Int) = ((v * 2 ^ 8 : Nat) : Int) := by omega
 rw [e, u64_or_nat _ _ (by omega) (by omega)]
 rw [Nat.mul_comm v, Nat.two_pow_add_eq_or_of_lt hb]
theorem val_take_succ (s : ByteArray) (k : Nat) (h : k < s.size) : val ((bl s).take (k + 1)) = 256 * val ((bl s).take k) + s[k].toNat := by
 rw [bl_take_succ s k h, val_snoc]
theorem val_take_lt (s : ByteArray) (k : Nat) (h : k < 8) : val ((bl s).take k) < 2 ^ 56 := by
 have h1 := val_lt ((bl s).take k)
 have h2 : (256 : Nat) ^ ((bl s).take k).length ≤ 256 ^ 7 := Nat.pow_le_pow_right (by omega) (by rw [List.length_take]; omega)
 omega
theorem great_any (s : ByteArray) (w : World) (h1 : 1 ≤ s.size) (h8 : s.size ≤ 8) :
   Calls Tryz.prog 109 #[.string s] w fun e w' => e = .returned (.tuple #[.int .i64 (greatN (bl s)).1, .int .i64 (greatN (bl s)).2]) ∧ w = w' := by
 go_enter Tryz.func109, Tryz.ntmps109
 go_wp2_with fail
 go_loop [4, 5] (fun v4 v5 => ∃ k : Nat, k ≤ s.size ∧ v5 = .int .i64 k ∧ v4 = .int .u64 ((val ((bl s).take k) : Nat) : Int)) (fun _ v5 => s.size - (intOf v5).toNat)
 case atStart => exact ⟨0, by omega, rfl, rfl⟩
 case round =>
   obtain ⟨k, hk, rfl, rfl⟩ := hrel
   by_cases hlt : k < s.size
   · have hv := val_take_lt s k (by omega)
     have hor := u64_shl_or (val ((bl s).take k)) s[k] hv
     rw [← val_take_succ s k hlt] at hor
     have hb := byte_bd s[k]
     generalize val ((bl s).take k) = v at hor hv ⊢
     generalize hv' : val ((bl s).take (k + 1)) = v' at hor
     have HV := Lib.hid hv'
     clear hv'
     have hvi : (v : Int) ≤ 72057594037927935 := by omega
     clear hv
     go_wp2_with fail
     go_round
     case rel => exact ⟨k + 1, by omega, by go_num, by rw [HV.out]⟩
     case measure => simp [intOf]; omega
   · obtain rfl : k = s.size := by omega
     rw [bl_take_all]
     have hhd : (bl s).headD 0 = s[0] := by
       have h2 := bl_get s 0 (by omega)
       cases hc : bl s with
       | nil => rw [hc] at h2; simp at h2
       | cons b l => rw [hc] at h2; simp at h2; simp [h2]
     obtain ⟨c, hc⟩ : ∃ c, s[0].toNat = c := ⟨_, rfl⟩
     have hb : (c : Int) ≤ 255 := by have := byte_bd s[0]; omega
     by_cases h0 : s[0] = 0
     · have hg : greatN (bl s) = (0, 5) := by unfold greatN; rw [if_pos (.inl (by rw [hhd, h0]))]
       have HG := Lib.hid hg
       have hz : c = 0 := by rw [← hc, h0]; rfl
       subst hz
       clear hg h0 hhd
       go_wp2_with fail
       go_ret2
       exact ⟨ret_gii HG.out, rfl⟩
     · have hz : ((c : Int) == 0) = false := by
         rw [beq_eq_false_iff_ne]; intro h; apply h0; apply UInt8.toNat_inj.1; simp; omega
       by_cases h128 : val (bl s) < 128
       · have hg : greatN (bl s) = (0, 5) := by unfold greatN; rw [if_pos (.inr h128)]
         have HG := Lib.hid hg
         have h128i : ((val (bl s) : Nat) : Int) < 128 := by omega
         clear hg h0 hhd h128
         go_wp2_with fail
         go_ret2
         exact ⟨ret_gii HG.out, rfl⟩
       · by_cases hbig : 9223372036854775807 < val (bl s)
         · have hbi : (9223372036854775807 : Int) < ((val (bl s) : Nat) : Int) := by omega
           have hg : greatN (bl s) = (0, 3) := by unfold greatN; rw [if_neg (by rw [hhd]; exact fun h => h.elim h0 h128), if_pos hbig]
           have HG := Lib.hid hg
           have h128i : (128 : Int) ≤ ((val (bl s) : Nat) : Int) := by omega
           clear hg h0 hhd hbig h128
           go_wp2_with fail
           go_ret2
           exact ⟨ret_gii HG.out, rfl⟩
         · have hbi : ((val (bl s) : Nat) : Int) ≤ (9223372036854775807 : Int) := by omega
           have hg : greatN (bl s) = (((val (bl s) : Nat) : Int), 0) := by unfold greatN; rw [if_neg (by rw [hhd]; exact fun h => h.elim h0 h128), if_neg hbig]
           have HG := Lib.hid hg
           have h128i : (128 : Int) ≤ ((val (bl s) : Nat) : Int) := by omega
           clear hg h0 hhd hbig h128
           go_wp2_with fail
           go_ret2
           exact ⟨ret_gii HG.out, rfl⟩
theorem get_any (s : ByteArray) (p : Int) (w : World) (hs : s.size ≤ 1000000) :
   Calls Tryz.prog 67 #[.string s, .int .i64 p] w fun e w' => e = .returned (.tuple #[.int .i64 (getN (bl s) p).1, .int .i64 (getN (bl s) p).2.1, .int .i64 (getN (bl s) p).2.2]) ∧ w = w' := by
 have hl := bl_len s
 by_cases h1 : p < 0 ∨ (s.size : Int) < p
 · have hg : getN (bl s) p = (0, 0, 2) := by unfold getN; rw [if_pos (by rw [hl]; exact h1)]
   rw [hg]
   rcases h1 with h1 | h1
   · go_enter Tryz.func67, Tryz.ntmps67
     go_wp2_with fail
     go_ret3
     exact ⟨rfl, rfl⟩
   · go_enter Tryz.func67, Tryz.ntmps67
     go_wp2_with fail
     all_goals
       go_ret3
       exact ⟨rfl, rfl⟩
 · obtain ⟨q, rfl⟩ := Int.eq_ofNat_of_zero_le (show 0 ≤ p by omega)
   by_cases h2 : q = s.size
   · subst h2
     have hg : getN (bl s) s.size = (0, 0, 4) := by unfold getN; rw [if_neg (by rw [hl]; omega), if_pos (by rw [hl])]
     rw [hg]
     clear h1
     go_enter Tryz.func67, Tryz.ntmps67
     go_wp2_with fail
     go_ret3
     exact ⟨rfl, rfl⟩
   · have hq : q < s.size := by omega
     have hne : ((q : Int) == (s.size : Int)) = false := by rw [beq_eq_false_iff_ne]; omega
     have hgd := bl_getD s q hq
     obtain ⟨c, hc⟩ : ∃ c, s[q].toNat = c := ⟨_, rfl⟩
     have hb : (c : Int) ≤ 255 := by have := byte_bd s[q]; omega
     by_cases h3 : c < 128
     · have hg : getN (bl s) q = ((c : Int), (q : Int) + 1, 0) := by
         unfold getN; rw [if_neg (by rw [hl]; omega), if_neg (by rw [hl]; omega)]
         simp only [Int.toNat_natCast, hgd, hc]; rw [if_pos h3]
       rw [hg]
       have h3i : (c : Int) < 128 := by omega
       clear hg hgd hl h3
       go_enter Tryz.func67, Tryz.ntmps67
       go_wp2_with fail
       go_ret3
       exact ⟨rfl, rfl⟩
     · by_cases h4 : c < 129 ∨ 136 < c
       · have hg : getN (bl s) q = (0, 0, 5) := by
           unfold getN; rw [if_neg (by rw [hl]; omega), if_neg (by rw [hl]; omega)]
           simp only [Int.toNat_natCast, hgd, hc]; rw [if_neg h3, if_pos (by omega)]
         rw [hg]
         clear hg hgd hl
         rcases h4 with h4 | h4
         all_goals
           go_enter Tryz.func67, Tryz.ntmps67
           go_wp2_with fail
           go_ret3
           exact ⟨rfl, rfl⟩
       · obtain ⟨m, rfl⟩ : ∃ m, c = 128 + m := ⟨c - 128, by omega⟩
         have hm : (128 : Int) + (m : Int) - (128 : Int) = (m : Int) := by omega
         by_cases h5 : s.size < q + 1 + m
         · have hg : getN (bl s) q = (0, 0, 4) := by
             unfold getN; rw [if_neg (by rw [hl]; omega), if_neg (by rw [hl]; omega)]
             simp only [Int.toNat_natCast, hgd, hc]; rw [if_neg h3, if_neg (by omega), if_pos (by rw [hl]; omega)]
           rw [hg]
           clear hg hgd hl
           go_enter Tryz.func67, Tryz.ntmps67
           go_wp2_with fail
           go_ret3
           exact ⟨rfl, rfl⟩
         · have hz : (s.extract (q + 1) (q + 1 + m)).size = m := by rw [ByteArray.size_extract]; omega
           have hx : bl (s.extract (q + 1) (q + 1 + m)) = ((bl s).drop (q + 1)).take m := by
             rw [bl_extract, List.take_drop]
           have hg0 : getN (bl s) q = if (greatN (bl (s.extract (q + 1) (q + 1 + m)))).2 ≠ 0 then (0, 0, (greatN (bl (s.extract (q + 1) (q + 1 + m)))).2) else ((greatN (bl (s.extract (q + 1) (q + 1 + m)))).1, (q : Int) + 1 + m, 0) := by
             rw [hx]
             unfold getN; rw [if_neg (by rw [hl]; omega), if_neg (by rw [hl]; omega)]
             simp only [Int.toNat_natCast, hgd, hc]; rw [if_neg h3, if_neg (by omega), if_neg (by rw [hl]; omega)]
             simp only [show 128 + m - 128 = m by omega]
           have hgr := great_any (s.extract (q + 1) (q + 1 + m)) w (by rw [hz]; omega) (by rw [hz]; omega)
           have hy : ((q : Int) + 1 + (m : Int)).toNat = q + 1 + m := by omega
           generalize greatN (bl (s.extract (q + 1) (q + 1 + m))) = g at hg0 hgr
           have HGR := Lib.hid hgr
           by_cases h6 : g.2 = 0
           · have hg : getN (bl s) q = (g.1, (q : Int) + 1 + m, 0) := by rw [hg0, if_neg (by simp [h6])]
             have HG := Lib.hid hg
             have hne2 : (g.2 != 0) = false := by simp [h6]
             clear hg hg0 hgd hl hgr hz hx h6
             go_enter Tryz.func67, Tryz.ntmps67
             go_wp2_with fail
             refine (HGR.out).mono ?_
             rintro e w1 ⟨rfl, rfl⟩
             go_wp2_with fail
             go_ret3
             exact ⟨ret_giii HG.out, rfl⟩
           · have hg : getN (bl s) q = (0, 0, g.2) := by rw [hg0, if_pos h6]
             have HG := Lib.hid hg
             have hne2 : (g.2 != 0) = true := by simp [h6]
             clear hg hg0 hgd hl hgr hz hx h6
             go_enter Tryz.func67, Tryz.ntmps67
             go_wp2_with fail
             refine (HGR.out).mono ?_
             rintro e w1 ⟨rfl, rfl⟩
             go_wp2_with fail
             go_ret3
             exact ⟨ret_giii HG.out, rfl⟩
end Go.Proofs.YtnlpojjfkgnhhaaGreatDoor
namespace Go.Proofs.YtnlpojjfkgnhhaaGreatDoor
open Go.RowKit
section
variable {P : Program} {w : World}
theorem run_append_str_at (t u ty e : TypeId) (i : TypeInfo) (ht : P.underlying t = some (.slice e)) (hu : P.underlying u = some .string) (hi : P.info? e = some i) (hz : i.zero = some (.int .u8 0))
   (hsize : i.size = 1) (hby : i.bytes = 1) (v : Value) (n : Nat) (xs : List Value) (hown : w.ownsRow 0 e 1 v n xs) (s : ByteArray) (h63 : n + s.size ≤ maxLen) (hbytes : n + s.size ≤ 140737488355328) :
   ∃ v' w', (Builtin.append_ #[t, u] ty #[v, .string s]).run P w = .ok v' w' ∧ w'.ownsRow 0 e 1 v' (n + s.size) (xs ++ Lib.strCells s) ∧ w.grownBy w' v.ownBlock ∧ (∀ b, v'.ownBlock = some b → v.ownBlock = some b ∨ w.heap.size ≤ b) ∧ (v = .slice none 0 0 → s.size = 0 → v' = .slice none 0 0) := by
 obtain ⟨v', w', hr, h2, h3, h4⟩ := Lib.run_append_own_string (P := P) w 0 t u ty e i ht hu hi hz hsize hby v n xs hown s h63 hbytes (Nat.zero_le _)
 have hsmall : n + s.size ≤ 9223372036854775807 := by simp only [maxLen] at h63; omega
 refine ⟨v', w', hr, h2, h3, fun b hb => ?_, fun a b => h4.2 ⟨a, b⟩⟩
 have hxl : xs.length = n := by simpa using hown.1
 rcases hown.2 with ⟨rfl, rfl⟩ | ⟨g, cap, cur, rfl, hbg, hg, hnc, hcm, hcs, htake⟩
 · obtain ⟨v2, w2, hr2, q2, _⟩ := Lib.run_append_own_string (P := P) w w.heap.size t u ty e i ht hu hi hz hsize hby (.slice none 0 0) 0 [] (World.ownsRow_nil _ _ _ _) s h63 hbytes (Nat.le_refl _)
   rw [hr] at hr2; cases hr2
   exact .inr (q2.lt b hb).1
 · by_cases hroom : n + s.size ≤ cap
   · have hcs' : cur.size = cap := by simpa using hcs
     have hr2 := Lib.run_append_room_string (P := P) w t u ty e i ht hu hi hsize g n cap cur hg s hroom (by omega)
     rw [hr] at hr2; cases hr2
     exact .inl hb
   · have holds : ∀ j u, xs[j]? = some u → w.cell? ((⟨g, 0, none⟩ : Addr).add j) = some u := hown.cells (g := g) rfl
     have hr2 := Lib.run_append_grow_string (P := P) w t u ty e i (.int .u8 0) ht hu hi hz ⟨g, 0, none⟩ n cap xs (by rw [hsize]; simpa using hxl) holds s (by omega) (by omega) (by rw [hby]; exact growslice_fits (by omega) (by omega))
     rw [hr] at hr2; cases hr2
     simp only [Value.ownBlock, Option.some.injEq] at hb
     exact .inr (by omega)
theorem wpList_append_str_at {ops : Array Oper} {rest : List Oper} {o : Oper} {a : Act} {Q : Exit → Act → World → Prop} (hgd : o.guard = none) (sl x : Operand) (t u : TypeId)
   (ho : o.op = .call { callee := .builtin .append, args := #[sl, x], argTypes := #[t, u] })
   (e : TypeId) (i : TypeInfo) (ht : P.underlying t = some (.slice e)) (hu : P.underlying u = some .string) (hi : P.info? e = some i) (hz : i.zero = some (.int .u8 0))
   (hsize : i.size = 1) (hby : i.bytes = 1)
   (v : Value) (n : Nat) (xs : List Value) (hs : a.eval sl = v) (hown : w.ownsRow 0 e 1 v n xs) (s : ByteArray) (hx : a.eval x = .string s)
   (h63 : n + s.size ≤ maxLen) (hbytes : n + s.size ≤ 140737488355328)
   (h : ∀ v' w', w'.ownsRow 0 e 1 v' (n + s.size) (xs ++ Lib.strCells s) → w.grownBy w' v.ownBlock → (∀ b, v'.ownBlock = some b → v.ownBlock = some b ∨ w.heap.size ≤ b) → (v = .slice none 0 0 → s.size = 0 → v' = .slice none 0 0) → wpList P ops Q rest (a.put o.dst v') w') : wpList P ops Q (o :: rest) a w := by
 refine wpList_plain hgd fun K hK => ?_
 obtain ⟨v', w', hr, h2, h3, h4, h5⟩ := run_append_str_at (P := P) (w := w) t u o.type e i ht hu hi hz hsize hby v n xs hown s h63 hbytes
 unfold Oper.wp execOp
 simp only [ho, resolve, invoke, builtin, Sem.run_bind, Sem.run_pure, Result.andThen_ok, List.map_toArray, List.map_cons, List.map_nil, hs, hx, hr]
 exact hK _ _ (h v' w' h2 h3 h4 h5)
end
theorem sizeBuilder : (Tryz.prog.info? 88).map (·.size) = some 2 := by kernel_rfl
theorem infoByte : (Tryz.prog.info? 5).map (fun i => (i.zero, i.size, i.bytes)) = some (some (.int .u8 0), 1, 1) := by kernel_rfl
theorem copyCheck_used (b : Nat) (w : World) (h0 : w.cell? ⟨b, 0, none⟩ = some (.pointer (some ⟨b, 0, none⟩))) :
   Calls Tryz.prog 96 #[.pointer (some ⟨b, 0, none⟩)] w fun e w' => e = .returned (.tuple #[]) ∧ w' = w := by
 obtain ⟨j, hj, _⟩ := Option.map_eq_some_iff.1 sizeBuilder
 go_enter Tryz.func96, Tryz.ntmps96
 go_wp2
 rw [Lib.run_neq_ptr_same w _ U85 hj]
 go_wp2
 go_end0
 exact ⟨rfl, rfl⟩
theorem copyCheck_fresh {T n : Nat} (hl : liesAt Tryz.prog Tryz.prog.depth T (n / Tryz.prog.cellsOf T) 0 88 1 = true) (hn : 0 < n) (b : Nat) (w : World) (h0 : w.cell? ⟨b, 0, none⟩ = some (.pointer none)) (hsh : w.shape? b = some (T, n)) (hfz : w.frozen? ⟨b, 0, none⟩ = false) :
   Calls Tryz.prog 96 #[.pointer (some ⟨b, 0, none⟩)] w fun e w' => e = .returned (.tuple #[]) ∧ w' = w.setCell ⟨b, 0, none⟩ (.pointer (some ⟨b, 0, none⟩)) := by
 obtain ⟨j, hj, hjs⟩ := Option.map_eq_some_iff.1 sizeBuilder
 go_enter Tryz.func96, Tryz.ntmps96
 go_wp2
 rw [Lib.run_to_unsafe w ⟨b, 0, none⟩ U85 U133 hj (by rw [hjs]; decide) hsh hn]
 simp only [Result.andThen]
 rw [Oper.upon_value]
 go_wp2
 rw [run_callFunc_extern Tryz.func130 (by kernel_rfl) (by kernel_rfl) (by kernel_rfl) (e := Extern.AbiNoEscape.same) (by kernel_rfl)]
 rw [Lib.run_noEscape]
 simp only [Result.andThen]
 rw [Oper.upon_value]
 go_wp2
 rw [Lib.run_from_unsafe w ⟨b, 0, none⟩ U133 U85 hj hsh hl]
 simp only [Result.andThen]
 rw [Oper.upon_value]
 go_wp2
 go_end0
 exact ⟨rfl, rfl⟩
structure BdW (w : World) (T b : Nat) (arr : Array Value) (v : Value) (s : ByteArray) : Prop where
 heap : w.heap[b]? = some (.cells arr T (0, 0))
 buf : arr[1]? = some v
 adr : arr[0]? = some (.pointer none) ∨ arr[0]? = some (.pointer (some ⟨b, 0, none⟩))
 own : w.ownsRow 0 5 1 v s.size (Lib.strCells s)
 ne : v.ownBlock ≠ some b
 emp : s.size = 0 → v = .slice none 0 0
theorem owns_setCell {w : World} {e : TypeId} {v x : Value} {n b off : Nat} {xs : List Value} (h : w.ownsRow 0 e 1 v n xs) (hne : v.ownBlock ≠ some b) : (w.setCell ⟨b, off, none⟩ x).ownsRow 0 e 1 v n xs :=
 h.kept (row := some b) ⟨rfl, rfl, rfl, by simp [World.setCell], fun k _ hk => Below.heap_setCell _ _ _ _ (fun e => hk (by simp [e]))⟩ (Or.inr hne)
theorem setCell_heap {w : World} {b off : Nat} {arr : Array Value} {T : TypeId} {x : Value} (hb : w.heap[b]? = some (.cells arr T (0, 0))) : (w.setCell ⟨b, off, none⟩ x).heap[b]? = some (.cells (arr.setIfInBounds off x) T (0, 0)) := by
 simp [World.setCell, Array.getElem?_modify, hb]
theorem setCell_other {w : World} {b off k : Nat} {x : Value} (hk : k ≠ b) : (w.setCell ⟨b, off, none⟩ x).heap[k]? = w.heap[k]? :=
 Below.heap_setCell _ _ _ _ (fun e => hk (by simpa using e))
theorem copyCheck_any {T n b : Nat} {arr : Array Value} {v : Value} {s : ByteArray} {w : World} (hl : liesAt Tryz.prog Tryz.prog.depth T (n / Tryz.prog.cellsOf T) 0 88 1 = true) (hn : arr.size = n) (h : BdW w T b arr v s) :
   Calls Tryz.prog 96 #[.pointer (some ⟨b, 0, none⟩)] w fun e w' => e = .returned (.tuple #[]) ∧ ∃ arr', BdW w' T b arr' v s ∧ arr'.size = n ∧ (∀ q, 1 < q → arr'[q]? = arr[q]?) ∧ w'.os = w.os ∧ w'.tape = w.tape ∧ w'.output = w.output ∧ w'.heap.size = w.heap.size ∧ ∀ k, k ≠ b → w'.heap[k]? = w.heap[k]? := by
 have hlt : 0 < arr.size := by rcases h.adr with h | h <;> exact (Array.getElem?_eq_some_iff.1 h).1
 rcases h.adr with h0 | h0
 · refine (copyCheck_fresh hl (by omega) b w (by rw [Lib.cell_of_heap h.heap]; exact h0) (by simp [World.shape?, h.heap, hn]) (Lib.frozen_of_heap h.heap 0)).mono ?_
   rintro e w' ⟨rfl, rfl⟩
   refine ⟨rfl, arr.setIfInBounds 0 (.pointer (some ⟨b, 0, none⟩)), ⟨setCell_heap h.heap, ?_, .inr (by simp [hlt]), owns_setCell h.own h.ne, h.ne, h.emp⟩, by simpa using hn, fun q hq => ?_, rfl, rfl, rfl, by simp [World.setCell], fun k hk => setCell_other hk⟩
   · rw [Array.getElem?_setIfInBounds_ne (by omega)]; exact h.buf
   · rw [Array.getElem?_setIfInBounds_ne (by omega)]
 · refine (copyCheck_used b w (by rw [Lib.cell_of_heap h.heap]; exact h0)).mono ?_
   rintro e w' ⟨rfl, rfl⟩
   exact ⟨rfl, arr, h, hn, fun _ _ => rfl, rfl, rfl, rfl, rfl, fun _ _ => rfl⟩
set_option maxHeartbeats 2000000 in
theorem writeString_any {T n b : Nat} {arr : Array Value} {v : Value} {s : ByteArray} {w : World} (hl : liesAt Tryz.prog Tryz.prog.depth T (n / Tryz.prog.cellsOf T) 0 88 1 = true) (hn : arr.size = n) (hTe : T ≠ 5) (h : BdW w T b arr v s) (t : ByteArray) (hlen : s.size + t.size ≤ 140737488355328) :
   Calls Tryz.prog 50 #[.pointer (some ⟨b, 0, none⟩), .string t] w fun e w' => e = .returned (.tuple #[.int .i64 t.size, .nilIface]) ∧
     ∃ arr' v', BdW w' T b arr' v' (s ++ t) ∧ arr'.size = n ∧ (∀ q, 1 < q → arr'[q]? = arr[q]?) ∧ w'.os = w.os ∧ w'.tape = w.tape ∧ w'.output = w.output ∧ w.heap.size ≤ w'.heap.size ∧ (∀ k, k < w.heap.size → k ≠ b → v.ownBlock ≠ some k → w'.heap[k]? = w.heap[k]?) ∧ ∀ k, v'.ownBlock = some k → v.ownBlock = some k ∨ w.heap.size ≤ k := by
 obtain ⟨i0, hi, hz0, hz1, hz2⟩ := info_parts infoByte
 go_enter Tryz.func50, Tryz.ntmps50
 go_wp2_with (go_at_call 96; refine (copyCheck_any hl hn h).mono ?_)
 rintro e w1 ⟨rfl, arr1, h1, hn1, hq1, ho1, ht1, hu1, hs1, hk1⟩
 have c1 : w1.cell? ⟨b, 1, none⟩ = some v := by rw [Lib.cell_of_heap h1.heap]; exact h1.buf
 go_wp2_with (at_builtin; refine wpList_append_str_at rfl _ _ 86 9 rfl 5 i0 U86 U9 hi hz0 hz1 hz2 _ _ _ rfl h1.own t rfl ?c3 ?c4 ?_)
 case c3 => unfold maxLen; omega
 case c4 => omega
 intro v' w2 hown' hgrow hblk hemp
 have hlt : b < w1.heap.size := (Array.getElem?_eq_some_iff.1 h1.heap).1
 have hb2 : w2.heap[b]? = some (.cells arr1 T (0, 0)) := by
   rw [hgrow.block b hlt (fun e => h1.ne e.symm)]
   exact h1.heap
 have d1 : w2.cell? ⟨b, 1, none⟩ = some v := by rw [Lib.cell_of_heap hb2]; exact h1.buf
 have f1 : w2.frozen? ⟨b, 1, none⟩ = false := Lib.frozen_of_heap hb2 1
 obtain ⟨ao, n', cap, rfl⟩ : ∃ ao n' cap, v' = .slice ao n' cap := by
   rcases hown'.2 with ⟨hv, _⟩ | ⟨g, cap, cur, hv, _⟩
   · exact ⟨_, _, _, hv⟩
   · exact ⟨_, _, _, hv⟩
 go_wp2
 go_ret2
 have hsz : 1 < arr1.size := (Array.getElem?_eq_some_iff.1 h1.buf).1
 have hne := Lib.ownBlock_ne hown' hb2 hTe
 refine ⟨rfl, arr1.setIfInBounds 1 (.slice ao n' cap), .slice ao n' cap, ⟨setCell_heap hb2, by simp [hsz], ?_, ?_, hne, ?_⟩, by simpa using hn1, fun q hq => ?_, ?_, ?_, ?_, ?_, fun k hk hkb hkv => ?_, fun k hk => ?_⟩
 · rw [Array.getElem?_setIfInBounds_ne (by omega)]; exact h1.adr
 · have e1 : (s ++ t).size = s.size + t.size := ByteArray.size_append
   have e2 : Lib.strCells (s ++ t) = Lib.strCells s ++ Lib.strCells t := by simp [Lib.strCells]
   rw [e1, e2]
   exact owns_setCell hown' hne
 · intro h0
   rw [ByteArray.size_append] at h0
   have q1 : s.size = 0 := by omega
   have q2 : t.size = 0 := by omega
   exact hemp (h.emp q1) (by first | exact q2 | simpa using q2)
 · rw [Array.getElem?_setIfInBounds_ne (by omega)]; exact hq1 q hq
 · exact hgrow.os.trans ho1
 · exact hgrow.tape.trans ht1
 · exact hgrow.output.trans hu1
 · have := hgrow.size; simp [World.setCell]; omega
 · rw [setCell_other hkb, hgrow.block k (by omega) (fun e => hkv e.symm), hk1 k hkb]
 · rcases hblk k hk with h | h
   · exact .inl h
   · exact .inr (by omega)
theorem bld_write {T n : Nat} (hl : liesAt Tryz.prog Tryz.prog.depth T (n / Tryz.prog.cellsOf T) 0 88 1 = true) (hTe : T ≠ 5) (s t : ByteArray) (rest : List AV) (hn : rest.length + 2 = n) (hlen : s.size + t.size ≤ 140737488355328) :
   FnM Tryz.prog 50 (fun i => [.box i 0, .str t]) (.adr T :: .buf 5 s :: rest) (.tup [.int .i64 t.size, .raw .nilIface]) (.adr T :: .buf 5 (s ++ t) :: rest) := by
 intro H i hi w β vs hH hv
 obtain ⟨a1, a2, rfl, hb0, ht0⟩ := hv.two
 obtain rfl := ht0.str_inv
 obtain ⟨b, arr, T', hat, rfl, hhp, hsz, hrep⟩ := hb0.box_at hH hi
 rcases hat with hat | ⟨v, hat, e', s', k1, k2, k3, k4, k5, k6, k7⟩
 · have := hH.ob i _ _ hi hat
   obtain ⟨_, _, _, _, _, q⟩ := this
   simp [AV.plainC] at q
 simp at k1 k2
 obtain ⟨rfl⟩ := k1
 obtain ⟨rfl, rfl⟩ := k2
 have hszn : arr.size = n := by rw [hsz]; simpa using hn
 refine (writeString_any hl hszn hTe ⟨hhp, k3, k4, k5, k6, k7⟩ t hlen).mono ?_
 rintro e w' ⟨rfl, arr', v', hB, hn', hq, ho, htp, hu, hs, hk, hblk⟩
 have hch := hH.change hat (x' := .bld b v') (o := .box (.adr T :: .buf 5 (s ++ t) :: rest)) rfl (fun _ e => by cases e) ho htp hu hs
   (fun k h1 h2 => hk k h1 (fun e => h2 (by rw [e]; exact List.mem_cons_self)) (fun e => h2 (List.mem_cons_of_mem _ (opt_mem.2 e))))
   (fun k hm => by
     rcases List.mem_cons.1 hm with rfl | hm
     · exact .inl List.mem_cons_self
     · rcases hblk k (opt_mem.1 hm) with h | h
       · exact .inl (List.mem_cons_of_mem _ (opt_mem.2 h))
       · exact .inr h)
   (fun hx => ⟨arr', T, hB.heap, by rw [hn', ← hn]; simp, fun j u y hj hy => by
     match j with
     | 0 => simp at hy; subst hy; exact .adr _ _
     | 1 => simp at hy; subst hy; exact .buf _ _ _
     | j + 2 =>
       rw [hq _ (by omega)] at hj
       exact (hrep (j + 2) u y hj (by simpa using hy)).ext hx,
     _, _, rfl, rfl, hB.buf, hB.adr, hB.own, hB.ne, hB.emp⟩)
 exact ⟨_, _, rfl, hch.1, hch.2, VRep.tup2 (.int _ _) (.raw _)⟩
/-! ### the bytes are told -/
theorem cellsByte : Tryz.prog.cellsOf 5 = 1 := by kernel_rfl
theorem freeze_only (w : World) (g n c : Nat) : (w.drew.freeze ⟨g, 0, none⟩ n).os = w.os ∧ (w.drew.freeze ⟨g, 0, none⟩ n).tape = w.tape ∧ (w.drew.freeze ⟨g, 0, none⟩ n).output = w.output ∧ w.heap.size ≤ (w.drew.freeze ⟨g, 0, none⟩ n).heap.size ∧
   ∀ k, (Value.slice (some ⟨g, 0, none⟩) n c).ownBlock ≠ some k → (w.drew.freeze ⟨g, 0, none⟩ n).heap[k]? = w.heap[k]? := by
 unfold World.freeze
 split
 · exact ⟨rfl, rfl, rfl, Nat.le_refl _, fun _ _ => rfl⟩
 · refine ⟨rfl, rfl, rfl, by simp, fun k hk => ?_⟩
   simp only [Value.ownBlock] at hk
   simp only [Array.getElem?_modify]
   rw [if_neg (fun e => hk (by rw [e]))]
   rfl
set_option maxHeartbeats 2000000 in
theorem string_some {T b : Nat} {arr : Array Value} {v : Value} {s : ByteArray} {w : World} (h : BdW w T b arr v s) (h0 : s.size ≠ 0) :
   Calls Tryz.prog 51 #[.pointer (some ⟨b, 0, none⟩)] w fun e w' => e = .returned (.string s) ∧ w'.os = w.os ∧ w'.tape = w.tape ∧ w'.output = w.output ∧ w.heap.size ≤ w'.heap.size ∧ ∀ k, v.ownBlock ≠ some k → w'.heap[k]? = w.heap[k]? := by
 obtain ⟨hhp, hbuf, _, hown, hne, _⟩ := h
 obtain ⟨g, cap, cur, rfl, hbg, hg, hnc, hcm, hcs, htake⟩ : ∃ g cap cur, v = .slice (some ⟨g, 0, none⟩) s.size cap ∧ 0 ≤ g ∧ w.heap[g]? = some (.cells cur 5 (0, 0)) ∧ s.size ≤ cap ∧ cap ≤ maxLen ∧ cur.size = cap * 1 ∧ cur.toList.take (s.size * 1) = Lib.strCells s := by
   rcases hown.2 with ⟨_, hz⟩ | ⟨g, cap, cur, hv, r⟩
   · exact absurd hz h0
   · exact ⟨g, cap, cur, hv, r⟩
 have c1 : w.drew.cell? ⟨b, 1, none⟩ = some (.slice (some ⟨g, 0, none⟩) s.size cap) := by
   have : w.drew.heap[b]? = some (.cells arr T (0, 0)) := hhp
   rw [Lib.cell_of_heap this]; exact hbuf
 have hls : (s.data.toList).length = s.size := Array.length_toList
 have hSD : (Builtin.unsafeSliceData_ #[86] 193 #[.slice (some ⟨g, 0, none⟩) s.size cap]).run Tryz.prog w.drew = .ok (.pointer (some ⟨g, 0, none⟩)) w.drew :=
   Lib.run_unsafeSliceData_row _ _ _ _ _ _ (by omega)
 have hUS : (Builtin.unsafeString_ #[193, 3] 9 #[.pointer (some ⟨g, 0, none⟩), .int .i64 s.size]).run Tryz.prog w.drew = .ok (.string s) (w.drew.freeze ⟨g, 0, none⟩ s.size) := by
   have := Lib.run_unsafeString_row (P := Tryz.prog) w.drew 193 3 9 5 U193 cellsByte g cur.size (by have hg' : w.drew.heap[g]? = some (.cells cur 5 (0, 0)) := hg; simp [World.shape?, hg']) s.data.toList (by intro e; rw [e] at hls; simp at hls; omega) (by omega) (by unfold maxLen at hcm; omega) (by
     intro j x hx
     have := hown.cells (g := g) rfl j (.int .u8 x.toNat) (by simp [Lib.strCells]; exact ⟨x, by simpa using hx, rfl⟩)
     exact this)
   rw [hls] at this
   exact this
 have hgl : g < w.heap.size := (Array.getElem?_eq_some_iff.1 hg).1
 go_enter Tryz.func51, Tryz.ntmps51
 go_wp2
 go_region
 all_goals (go_wp2; go_ret; refine ⟨rfl, ?_⟩; exact freeze_only w g _ _)
set_option maxHeartbeats 2000000 in
theorem string_none {T b : Nat} {arr : Array Value} {s : ByteArray} {w : World} (hhp : w.heap[b]? = some (.cells arr T (0, 0))) (hbuf : arr[1]? = some (.slice none 0 0)) :
   Calls Tryz.prog 51 #[.pointer (some ⟨b, 0, none⟩)] w fun e w' => e = .returned (.string ⟨#[]⟩) ∧ w' = w.drew := by
 have hUS : ∀ W, (Builtin.unsafeString_ #[193, 3] 9 #[.pointer none, .int .i64 0]).run Tryz.prog W = .ok (.string .empty) W := fun W => Lib.run_unsafeString_none W _ _ _ none
 have c1 : w.drew.cell? ⟨b, 1, none⟩ = some (.slice none 0 0) := by
   have : w.drew.heap[b]? = some (.cells arr T (0, 0)) := hhp
   rw [Lib.cell_of_heap this]; exact hbuf
 have hSD : (Builtin.unsafeSliceData_ #[86] 193 #[.slice none 0 0]).run Tryz.prog w.drew = .ok (.pointer none) w.drew := rfl
 go_enter Tryz.func51, Tryz.ntmps51
 go_wp2
 go_region
 all_goals (go_wp2; go_ret; exact ⟨rfl, rfl⟩)
theorem drew_only (w : World) {v : Value} : w.drew.os = w.os ∧ w.drew.tape = w.tape ∧ w.drew.output = w.output ∧ w.heap.size ≤ w.drew.heap.size ∧ ∀ k, v.ownBlock ≠ some k → w.drew.heap[k]? = w.heap[k]? := ⟨rfl, rfl, rfl, Nat.le_refl _, fun _ _ => rfl⟩
theorem string_any {T b : Nat} {arr : Array Value} {v : Value} {s : ByteArray} {w : World} (h : BdW w T b arr v s) :
   Calls Tryz.prog 51 #[.pointer (some ⟨b, 0, none⟩)] w fun e w' => e = .returned (.string s) ∧ w'.os = w.os ∧ w'.tape = w.tape ∧ w'.output = w.output ∧ w.heap.size ≤ w'.heap.size ∧ ∀ k, v.ownBlock ≠ some k → w'.heap[k]? = w.heap[k]? := by
 by_cases h0 : s.size = 0
 · have hv := h.emp h0
   subst hv
   refine (string_none (s := s) h.heap h.buf).mono ?_
   rintro e w' ⟨rfl, rfl⟩
   have hs : s = ⟨#[]⟩ := ByteArray.size_eq_zero_iff.1 h0
   exact ⟨by rw [hs], drew_only w⟩
 · exact string_some h h0
def FnK (P : Program) (F : FuncId) (args : Nat → List AV) (cs : List AV) (r : AV) : Prop :=
 ∀ (H : List AO) (i : Nat), H[i]? = some (.box cs) → FnH P F (args i) H r (H.set i .dead)
theorem FnK.of {P : Program} {f : FuncId} {fn : Func} {c : Code} {args : Nat → List AV} {cs : List AV} {r : AV} {n : Nat} (hf : P.funcs[f]? = some fn) (hb : fn.body = some c) (hn : fn.ntmps = n) (hna : ∀ i, (args i).length ≤ n)
   (h : ∀ (H : List AO) (i m : Nat), H.length = m → i < H.length → GOK m (H.set i (.box cs)) → AWP P n m c (endF P fn r (H.set i .dead)) (zipS (args i) 0) (H.set i (.box cs)) []) : FnK P f args cs r := by
 intro H i hi
 have hlt := (List.getElem?_eq_some_iff.1 hi).1
 have e : H.set i (.box cs) = H := set_of_get hi
 refine FnH.of0 hf hb hn (hna i) fun hG => ?_
 have := h H i H.length rfl hlt (by rw [e]; exact hG)
 rw [e] at this; exact this
theorem FnM.kill {P : Program} {F : FuncId} {args : Nat → List AV} {cs cs' : List AV} {r : AV} (h : FnM P F args cs r cs') (hr : NoH 0 r) : FnK P F args cs r := by
 intro H i hi w β vs hH hv
 refine (h H i hi w β vs hH hv).mono ?_
 rintro e w' ⟨v, β', rfl, k1, k2, k3⟩
 have hlt : i < H.length := (List.getElem?_eq_some_iff.1 hi).1
 have hb' : i < β'.length := by rw [k2.len, List.length_set]; exact hlt
 have hx : β'[i]? = some β'[i] := List.getElem?_eq_getElem hb'
 have ho := k2.ob i (.box cs') _ (List.getElem?_set_self hlt) hx
 have hto : β'[i].to .dead ∧ ∀ bs, β'[i] ≠ .guard bs := by
   cases hy : β'[i] with
   | box b => exact ⟨trivial, fun _ e => by cases e⟩
   | bld b v => exact ⟨trivial, fun _ e => by cases e⟩
   | row v g => rw [hy] at ho; exact ho.elim
   | dead => rw [hy] at ho; exact ho.elim
   | guard bs => rw [hy] at ho; exact ho.elim
   | map b => rw [hy] at ho; exact ho.elim
 have hc := k2.change hx (x' := .dead) (o := .dead) hto.1 hto.2 rfl rfl rfl (Nat.le_refl _) (fun _ _ _ => rfl) (fun b hb => by cases hb) (fun _ => trivial)
 rw [List.set_set] at hc
 exact ⟨v, _, rfl, k1.trans hc.1, hc.2, k3.ext hc.1⟩
theorem bld_string {T n : Nat} (s : ByteArray) (rest : List AV) : FnK Tryz.prog 51 (fun i => [.box i 0]) (.adr T :: .buf 5 s :: rest) (.str s) := by
 intro H i hi w β vs hH hv
 obtain ⟨a1, rfl, hb0⟩ := hv.single
 obtain ⟨b, arr, T', hat, rfl, hhp, hsz, hrep⟩ := hb0.box_at hH hi
 rcases hat with hat | ⟨v, hat, e', s', k1, k2, k3, k4, k5, k6, k7⟩
 · have := hH.ob i _ _ hi hat
   obtain ⟨_, _, _, _, _, q⟩ := this
   simp [AV.plainC] at q
 simp at k1 k2
 obtain ⟨rfl⟩ := k1
 obtain ⟨rfl, rfl⟩ := k2
 refine (string_any ⟨hhp, k3, k4, k5, k6, k7⟩).mono ?_
 rintro e w' ⟨rfl, ho, htp, hu, hs, hk⟩
 have hch := hH.change hat (x' := .dead) (o := .dead) trivial (fun _ e => by cases e) ho htp hu hs
   (fun k h1 h2 => hk k (fun e => h2 (List.mem_cons_of_mem _ (opt_mem.2 e)))) (fun k hm => by cases hm) (fun _ => trivial)
 exact ⟨_, _, rfl, hch.1, hch.2, .str _⟩
section
variable {P : Program} {ops : Array Oper} {n m : Nat} {QQ : List Kd → Sl → List AO → Prop} {l : List Oper} {ks : List Kd} {σ : Sl} {G L H : List AO} {o : Oper} {gd : Bool}
theorem GOK.setDead {m : Nat} {H : List AO} {i : Nat} {X : AO} (h : GOK m (H.set i X)) : GOK m (H.set i .dead) := h.setO (fun x hx => by cases hx)
theorem ARun.callK {H0 : List AO} {f : Operand} {args : Array Operand} {ats : Array TypeId} {F i : Nat} {fs cs xs ax cA : List AV} {r Y : AV} {d : Option Tmp} (hi : i < H0.length) (hm : GOK m (H0.set i (.box cA))) (ho : o.op = .call { callee := .value f, args := args, argTypes := ats }) (hd : o.dst = d) (hn : dstLt n d = true) (hG : gdS ops σ o.guard = some true)
   (hcf : ∀ (va : Array Value) (W : World), (callFunc F va).run P W = .ok (.enter F va) W)
   (hf : Ev true σ f (.fn (.func F) fs cs)) (hx : EvL true σ args.toList xs) (has : fs ++ xs ++ cs = ax) (hF : FnH P F ax (H0.set i (.box cA) ++ L) r ((H0.set i (.box cA) ++ L).set i .dead)) (hY : optA o.guard true r = Y)
   (hr : GOK m (H0.set i .dead) → ARun P ops n QQ l (ks ++ [.write]) (putS σ d Y) (H0.set i .dead ++ L)) : ARun P ops n QQ (o :: l) ks σ (H0.set i (.box cA) ++ L) :=
 ARun.callH ho hd hn hG hcf hf hx has hF hY (by rw [_root_.Go.Proofs.YtnlpojjfkgnhhaaGreatDoor.setO hi]; exact hr hm.setDead)
end
end Go.Proofs.YtnlpojjfkgnhhaaGreatDoor
namespace Go.Proofs.YtnlpojjfkgnhhaaGreatDoor
open Go.RowKit
open NumP
theorem put_fn (n : Int) (h : -9223372036854775808 ≤ n ∧ n ≤ 9223372036854775807) : FnP Tryz.prog 64 [.int .i64 n] (.tup [.str (bs (putN n).1), .int .i64 (putN n).2]) :=
 FnP.of_calls rfl (by simp) (by simp) fun w => (putAny n w h.1 h.2).mono fun e w' ⟨h1, h2⟩ => ⟨_, h1, h2, VRep.tup2 (.str _) (.int _ _)⟩
theorem VRep.tup3 {β : List Hd} {w : World} {x y z : Value} {a b c : AV} (h1 : VRep β w x a) (h2 : VRep β w y b) (h3 : VRep β w z c) : VRep β w (.tuple #[x, y, z]) (.tup [a, b, c]) := by
 refine .tup _ _ rfl fun j u y' h k => ?_
 match j with
 | 0 => simp at h k; subst h k; exact h1
 | 1 => simp at h k; subst h k; exact h2
 | 2 => simp at h k; subst h k; exact h3
 | j + 3 => simp at h
theorem get_fn (s : ByteArray) (p : Int) (hs : s.size ≤ 1000000) : FnP Tryz.prog 67 [.str s, .int .i64 p] (.tup [.int .i64 (getN (bl s) p).1, .int .i64 (getN (bl s) p).2.1, .int .i64 (getN (bl s) p).2.2]) :=
 FnP.of_calls rfl (by simp) (by simp) fun w => (get_any s p w hs).mono fun e w' ⟨h1, h2⟩ => ⟨_, h1, h2 ▸ Below.refl _ _, VRep.tup3 (.int _ _) (.int _ _) (.int _ _)⟩
/-! ### rows, step by step -/
def rowStep (a : List UInt8 × Int) (x : Int) : List UInt8 × Int := if a.2 = 0 then (a.1 ++ (putN x).1, (putN x).2) else a
def rowS (l : List Int) (k : Nat) : List UInt8 × Int := (l.take k).foldl rowStep ((putN l.length).1, 0)
theorem rowS_succ (l : List Int) (k : Nat) (h : k < l.length) : rowS l (k + 1) = rowStep (rowS l k) (l.getD k default) := by
 unfold rowS
 rw [List.take_succ_eq_append_getElem h, List.foldl_append]
 simp [List.getD, h]
theorem foldl_row (xs : List Int) : ∀ (b : List UInt8), (nneg xs = true → xs.foldl rowStep (b, 0) = (b ++ rowBytes xs, 0)) ∧ (nneg xs = false → (xs.foldl rowStep (b, 0)).2 = 2) := by
 have stuck : ∀ (xs : List Int) (a : List UInt8 × Int), a.2 ≠ 0 → xs.foldl rowStep a = a := by
   intro xs
   induction xs with
   | nil => intro a _; rfl
   | cons x xs ih => intro a ha; rw [List.foldl_cons, show rowStep a x = a from if_neg ha]; exact ih a ha
 induction xs with
 | nil => intro b; exact ⟨fun _ => by simp [rowBytes], fun h => by simp [nneg] at h⟩
 | cons x xs ih =>
   intro b
   rw [List.foldl_cons, show rowStep (b, 0) x = (b ++ (putN x).1, (putN x).2) from if_pos rfl]
   have hn : nneg (x :: xs) = (decide (0 ≤ x) && nneg xs) := rfl
   have hb : rowBytes (x :: xs) = (putN x).1 ++ rowBytes xs := rfl
   rw [putN_err]
   by_cases h : 0 ≤ x
   · rw [if_pos h, hn, decide_eq_true h, Bool.true_and, hb, ← List.append_assoc]
     exact ih (b ++ (putN x).1)
   · rw [if_neg h, hn, decide_eq_false h, Bool.false_and, stuck _ _ (by simp)]
     exact ⟨(fun h => by cases h), (fun _ => rfl)⟩
theorem rowS_all (l : List Int) : (if (rowS l l.length).2 = 0 then ((rowS l l.length).1, (0 : Int)) else ([], (rowS l l.length).2)) = rowN l := by
 have := foldl_row l (putN l.length).1
 unfold rowS rowN
 rw [List.take_length]
 cases h : nneg l with
 | true => rw [this.1 h]; simp
 | false => rw [if_neg (by rw [this.2 h]; decide), this.2 h]; simp
theorem rowS_len (l : List Int) (k : Nat) : (rowS l k).1.length ≤ 9 * (k + 1) := by
 have gen : ∀ (xs : List Int) (a : List UInt8 × Int), (xs.foldl rowStep a).1.length ≤ a.1.length + 9 * xs.length := by
   intro xs
   induction xs with
   | nil => intro a; simp
   | cons x xs ih =>
     intro a
     rw [List.foldl_cons]
     refine Nat.le_trans (ih _) ?_
     have : (rowStep a x).1.length ≤ a.1.length + 9 := by
       unfold rowStep
       split
       · simp; exact putN_len x
       · omega
     simp; omega
 have h1 := gen (l.take k) ((putN l.length).1, 0)
 have h2 := putN_len l.length
 have h3 : (l.take k).length ≤ k := by rw [List.length_take]; omega
 unfold rowS
 simp only at h1
 omega
theorem rowN_len (l : List Int) : (rowN l).1.length ≤ 9 * (l.length + 1) := by
 have := rowS_len l l.length
 rw [← rowS_all]
 split
 · exact this
 · simp
/-! ### what is got lies within -/
theorem getN_bd (l : List UInt8) (p : Int) (h : l.length ≤ 1000000) : 0 ≤ (getN l p).1 ∧ (getN l p).1 ≤ 9223372036854775807 ∧ 0 ≤ (getN l p).2.1 ∧ (getN l p).2.1 ≤ l.length := by
 unfold getN
 by_cases h0 : p < 0 ∨ (l.length : Int) < p
 · rw [if_pos h0]; dsimp only; omega
 rw [if_neg h0]
 by_cases h1 : p = l.length
 · rw [if_pos h1]; dsimp only; omega
 rw [if_neg h1]
 dsimp only
 have hb := (l.getD p.toNat 0).toNat_lt
 by_cases h2 : (l.getD p.toNat 0).toNat < 128
 · rw [if_pos h2]; dsimp only; omega
 rw [if_neg h2]
 by_cases h3 : (l.getD p.toNat 0).toNat - 128 < 1 ∨ 8 < (l.getD p.toNat 0).toNat - 128
 · rw [if_pos h3]; dsimp only; omega
 rw [if_neg h3]
 by_cases h4 : (l.length : Int) - p - 1 < ((l.getD p.toNat 0).toNat - 128 : Nat)
 · rw [if_pos h4]; dsimp only; omega
 rw [if_neg h4]
 have hg : ∀ m : List UInt8, 0 ≤ (greatN m).1 ∧ (greatN m).1 ≤ 9223372036854775807 := by
   intro m; unfold greatN
   split
   · simp
   · split
     · simp
     · dsimp only; omega
 by_cases h5 : (greatN ((l.drop (p.toNat + 1)).take ((l.getD p.toNat 0).toNat - 128))).2 ≠ 0
 · rw [if_pos h5]; dsimp only; omega
 · rw [if_neg h5]; have := hg ((l.drop (p.toNat + 1)).take ((l.getD p.toNat 0).toNat - 128)); dsimp only; omega
theorem unrow_step (l : List UInt8) (k : Nat) (to : Int) (acc : List Int) : unrowF l (k + 1) to acc = if (getN l to).2.2 ≠ 0 then ([], 0, (getN l to).2.2) else unrowF l k (getN l to).2.1 (acc ++ [(getN l to).1]) := rfl
end Go.Proofs.YtnlpojjfkgnhhaaGreatDoor
namespace Go.Proofs.YtnlpojjfkgnhhaaGreatDoor
open Go.RowKit
open NumP
theorem fit_at {l : List Int} (hf : ∀ x, x ∈ l → -9223372036854775808 ≤ x ∧ x ≤ 9223372036854775807) {k : Nat} (hk : k < l.length) : -9223372036854775808 ≤ l.getD k default ∧ l.getD k default ≤ 9223372036854775807 := by
 simp only [List.getD, List.getElem?_eq_getElem hk, Option.getD_some]; exact hf _ (List.getElem_mem hk)
theorem liesB : liesAt Tryz.prog Tryz.prog.depth 88 (2 / Tryz.prog.cellsOf 88) 0 88 1 = true := by kernel_rfl
theorem writeB (l : List UInt8) (t : ByteArray) (h : l.length + t.size ≤ 100000000) : FnM Tryz.prog 50 (fun i => [.box i 0, .str t]) [.adr 88, .buf 5 (bs l)] (.tup [.int .i64 t.size, .raw .nilIface]) [.adr 88, .buf 5 (bs l ++ t)] :=
 bld_write (n := 2) liesB (by decide) (bs l) t [] rfl (by rw [bs_size]; omega)
theorem rowPut_fn (n : Int) (h : -9223372036854775808 ≤ n ∧ n ≤ 9223372036854775807) (l : List UInt8) (hl : l.length ≤ 1000000) : FnM Tryz.prog 108 (fun i => [.int .i64 n, .box i 0]) ([.adr 88, .buf 5 (bs l)]) (.int .i64 (putN n).2) ([.adr 88, .buf 5 (bs (l ++ (putN n).1))]) := by
 have hpl := putN_len n
 refine FnM.of Tryz.func108 rfl rfl (fun i => by simp) (fun H i m hHm hi hG => ?_)
 have hN : NoH H.length (.int .i64 (putN n).2) := (by simp)
 refine sr fun _ => ?_
 refine mz (sr fun _ => ?_)
 refine mv ?_
 refine ρf cf64 (fun hg => put_fn n h) ?_
 refine mv ?_
 refine ρj ?_
 refine ρj ?_
 refine ma ?_
 refine mz (sr fun _ => ?_)
 refine mv ?_
 refine ARun.callO hi hG rfl rfl rfl rfl cf50 (ep rfl) (.cons (ep rfl) (.cons (ep rfl) .nil)) rfl (writeB l (bs (putN n).1) (by rw [bs_size]; omega) _ _ (atO hi)) (by simp) optN (fun hG => ?_)
 refine ez (sr fun _ => ?_)
 refine mv ?_
 refine mz ?_
 refine AWP.ret ?_
 refine endF.toG (congrArg (fun c => H.set i (AO.box c)) (by rw [bs_append])) ?_
 refine ρC ?_ (hn := by rw [List.length_set]; exact hN)
 rfl
theorem rowPut_st (x : Int) (h : -9223372036854775808 ≤ x ∧ x ≤ 9223372036854775807) (a : List UInt8 × Int) (ha : a.1.length ≤ 1000000) (h0 : a.2 = 0) : FnM Tryz.prog 108 (fun i => [.int .i64 x, .box i 0]) ([.adr 88, .buf 5 (bs a.1)]) (.int .i64 (rowStep a x).2) ([.adr 88, .buf 5 (bs (rowStep a x).1)]) := by
 rw [show rowStep a x = (a.1 ++ (putN x).1, (putN x).2) from if_pos h0]; exact rowPut_fn x h a.1 ha
theorem rowN_fn (l : List Int) (hl : l.length ≤ 10000) (hf : ∀ x, x ∈ l → -9223372036854775808 ≤ x ∧ x ≤ 9223372036854775807) : FnP Tryz.prog 65 [.sl (l.map (AV.int .i64))] (.tup [.str (bs (rowN l).1), .int .i64 (rowN l).2]) := by
 have hpe : (putN (l.length : Int)).2 = 0 := by rw [putN_err, if_pos (by omega)]
 have hp0 : FnM Tryz.prog 108 (fun i => [.int .i64 ((l.map (AV.int .i64)).length : Int), .box i 0]) ([.adr 88, .buf 5 (bs [])]) (.int .i64 (putN (l.length : Int)).2) ([.adr 88, .buf 5 (bs ([] ++ (putN (l.length : Int)).1))]) := by rw [List.length_map]; exact rowPut_fn l.length (by omega) [] (by simp)
 refine FnP.of Tryz.func65 rfl rfl (by simp) (by simp [AV.cells]) (fun G hG => ?_)
 have hN : NoH G.length (.tup [.str (bs (rowN l).1), .int .i64 (rowN l).2]) := (by simp [AV.cells])
 refine sr fun _ => ?_
 refine ma ?_
 refine mz (sr fun _ => ?_)
 refine ARun.allocBld (j := 0) (e := 5) hG rfl rfl rfl rfl rfl zv88 rfl rfl rfl optN ?_
 refine ez (sr fun _ => ?_)
 refine ARun.makeFunc rfl rfl rfl rfl .nil (.cons (ep rfl) .nil) optN ?_
 refine mz (sr fun _ => ?_)
 refine mv ?_
 refine mv ?_
 refine ρq U24 ?_
 refine ρv (j := 0) cf108 (hp0 _ _ ((hG.at _ _).trans rfl)) ?_
 refine mz ?_
 refine AWP.seq (sr fun _ => ?_)
 refine mv ?_
 refine ρq U24 ?_
 refine mv ?_
 refine ez ?_
 refine AWP.block ?_
 refine AWP.rounds (fun s => s.1 ≤ l.length ∧ s.2 = rowS l s.1) (fun s => [(5, .fn (.func 108) [] [.box (G.length + 0) 0]), (6, .int .i64 s.2.2), (14, .sl (l.map (AV.int .i64))), (15, .int .i64 ((l.map (AV.int .i64)).length : Int)), (16, .int .i64 (s.1 : Int)), (4, .box (G.length + 0) 0)]) (fun s => [.box ([.adr 88, .buf 5 (bs s.2.1)])]) (fun s => l.length - s.1) 1 ((0, rowS l 0) : Nat × (List UInt8 × Int)) ⟨Nat.zero_le _, rfl⟩ (by rw [show (rowS l 0).2 = (putN (l.length : Int)).2 from hpe.symm]; repeat (first | exact .nil | refine .cons rfl ?_)) rfl (fun _ => rfl) (fun _ => ⟨by simp [AV.cells], by simp [AO.conts]⟩) (fun s hI => ?_)
 obtain ⟨k, a⟩ := s
 dsimp only at hI
 show AWP _ _ _ _ _ [(5, .fn (.func 108) [] [.box (G.length + 0) 0]), (6, .int .i64 a.2), (14, .sl (l.map (AV.int .i64))), (15, .int .i64 ((l.map (AV.int .i64)).length : Int)), (16, .int .i64 (k : Int)), (4, .box (G.length + 0) 0)] _ [.box ([.adr 88, .buf 5 (bs a.1)])]
 obtain ⟨hk, ha⟩ := hI
 have hal := rowS_len l k
 rw [← ha] at hal
 refine sr fun _ => ?_
 refine ρ6 ?_
 refine ez ?_
 refine AWP.seq ?_
 refine ρo (fun h0 => ?_) (fun h0 => ?_)
 · simp [-List.getD_eq_getElem?_getD] at h0
   refine AWP.skip (thenA_n ?_)
   refine AWP.seq (AWP.block (sr fun _ => ?_))
   first | refine ρa U24 sz3 ?_ | refine ρ7 U24 sz3 ?_
   refine ρ2 U3 ?_
   refine mz (sr fun _ => ?_)
   refine mv ?_
   refine ρ6 ?_
   refine ez ?_
   refine ρo (fun h1 => ?_) (fun h1 => ?_)
   · try simp [-List.getD_eq_getElem?_getD] at h1
     refine AWP.region (fun _ => ?_)
     refine mv ?_
     refine mv ?_
     refine ARun.callSet (j := 0) hG rfl rfl rfl rfl cf108 (ep rfl) (.cons (ep rfl) .nil) rfl (rowPut_st _ (fit_at hf (by simpa using h0)) a (by omega) h1 _ _ ((hG.at _ _).trans rfl)) rfl optN ?_
     refine ma ?_
     refine ⟨_, _, rfl, hG, ?_⟩
     refine blockA_n (thenA_n ?_)
     refine AWP.region (fun _ => ?_)
     first | refine ρd ?_ | refine ρg ?_
     refine mv ?_
     refine ⟨_, _, rfl, hG, ?_⟩
     refine thenA_n ⟨rfl, (k + 1, rowStep a (l.getD k default)), _, ?_, ?_, rfl, ?_⟩
     · refine ⟨by omega, ?_⟩
       show rowStep a _ = _
       rw [rowS_succ l k (by omega), ha]
     · repeat (first | exact .nil | refine .cons rfl ?_)
     dsimp only; omega
   try simp [-List.getD_eq_getElem?_getD] at h1
   refine AWP.skip (blockA_n (thenA_n ?_))
   refine AWP.region (fun _ => ?_)
   first | refine ρd ?_ | refine ρg ?_
   refine mv ?_
   refine ⟨_, _, rfl, hG, ?_⟩
   refine thenA_n ⟨rfl, (k + 1, a), _, ?_, ?_, rfl, ?_⟩
   · refine ⟨by omega, ?_⟩
     show a = _
     rw [rowS_succ l k (by omega), ← ha, rowStep, if_neg h1]
   · repeat (first | exact .nil | refine .cons rfl ?_)
   dsimp only; omega
 simp at h0
 obtain rfl : k = l.length := by omega
 have hall := rowS_all l
 rw [← ha] at hall
 refine AWP.exit ?_
 refine thenA_x ?_
 refine thenA_x ?_
 refine blockA_h ?_
 refine thenA_n (AWP.seq ?_)
 refine sr fun _ => ?_
 refine mv ?_
 refine ρ6 ?_
 refine ez ?_
 refine ρo (fun h2 => ?_) (fun h2 => ?_)
 · try simp [-List.getD_eq_getElem?_getD] at h2
   refine sr fun _ => ?_
   refine mv ?_
   refine ma ?_
   refine mz ?_
   refine AWP.ret (thenA_r ?_)
   refine ρB (rs := [.tmp 2, .tmp 3]) (.cons (.tmp rfl) (.cons (.tmp rfl) .nil)) ?_
   rw [if_neg h2] at hall
   rw [← hall]; rfl
 try simp [-List.getD_eq_getElem?_getD] at h2
 refine AWP.skip (thenA_n (sr fun _ => ?_))
 refine ρv (j := 0) cf51 (bld_string (n := 2) (bs a.1) [] _ _ ((hG.at _ _).trans rfl)) ?_
 refine ma ?_
 refine mz ?_
 refine AWP.ret ?_
 refine ρB (rs := [.tmp 2, .tmp 3]) (.cons (.tmp rfl) (.cons (.tmp rfl) .nil)) ?_
 rw [if_pos h2] at hall
 rw [← hall]; rfl
theorem map_snocI (l : List Int) (x : Int) : l.map (AV.int .i64) ++ [AV.int .i64 x] = (l ++ [x]).map (AV.int .i64) := by simp
theorem unrowN_fn (s : ByteArray) (p top : Int) (hs : s.size ≤ 1000000) : FnP Tryz.prog 70 [.str s, .int .i64 p, .int .i64 top] (.tup [.sl ((unrowN (bl s) p top).1.map (AV.int .i64)), .int .i64 (unrowN (bl s) p top).2.1, .int .i64 (unrowN (bl s) p top).2.2]) := by
 have hbd := getN_bd (bl s) p (by rw [bl_len]; exact hs)
 have hdef : unrowN (bl s) p top = (if (getN (bl s) p).2.2 ≠ 0 then (([], 0, (getN (bl s) p).2.2) : List Int × Int × Int) else if (getN (bl s) p).1 > 1000 ∨ ((getN (bl s) p).1 > top ∧ (getN (bl s) p).1 > 0) then ([], 0, 3) else unrowF (bl s) (getN (bl s) p).1.toNat (getN (bl s) p).2.1 []) := rfl
 refine FnP.of Tryz.func70 rfl rfl (by simp) (by simp [AV.cells]) (fun G hG => ?_)
 have hN : NoH G.length (.tup [.sl ((unrowN (bl s) p top).1.map (AV.int .i64)), .int .i64 (unrowN (bl s) p top).2.1, .int .i64 (unrowN (bl s) p top).2.2]) := (by simp [AV.cells])
 refine sr fun _ => ?_
 refine ARun.nilOwn (e := 3) (z := 1) (j := 0) hG rfl ⟨.inl rfl, rfl⟩ (fun _ => rfl) rfl rfl rfl optN ?_
 refine ma ?_
 refine mz (sr fun _ => ?_)
 refine mv ?_
 refine mv ?_
 refine ρk cf67 (fun hg => get_fn s p hs) ?_
 refine mv ?_
 refine ρj ?_
 refine ρj ?_
 refine ρj ?_
 refine ma ?_
 refine ma ?_
 refine mz ?_
 refine AWP.seq (sr fun _ => ?_)
 refine mv ?_
 refine ρ6 ?_
 refine ez ?_
 refine ρo (fun h0 => ?_) (fun h0 => ?_)
 · have h0' : (getN (bl s) p).2.2 ≠ 0 := by simpa using h0
   refine sr fun _ => ?_
   refine mv ?_
   refine ma ?_
   refine ma ?_
   refine mz ?_
   refine AWP.ret (thenA_r ?_)
   refine ρB (rs := [.tmp 6, .tmp 7, .tmp 8]) (.cons (.tmp rfl) (.cons (.tmp rfl) (.cons (.tmp rfl) .nil))) ?_
   rw [hdef, if_pos h0']; rfl
 simp at h0
 have hlen : (getN (bl s) p).1.toNat ≤ (getN (bl s) p).1.toNat := Nat.le_refl _
 rw [if_neg (by simp [h0])] at hdef
 refine AWP.skip (thenA_n (AWP.seq (sr fun _ => ?_)))
 refine mv ?_
 refine mv ?_
 refine ARun.minmax rfl rfl rfl rfl (ep rfl) (ep rfl) (.inr ⟨rfl, rfl⟩) optN ?_
 refine ARun.minmax rfl rfl rfl rfl (ep rfl) (ep rfl) (.inl ⟨rfl, rfl⟩) optN ?_
 refine ρ6 ?_
 refine ez ?_
 refine ρo (fun h1 => ?_) (fun h1 => ?_)
 · have h1' : (getN (bl s) p).1 > 1000 ∨ ((getN (bl s) p).1 > top ∧ (getN (bl s) p).1 > 0) := by simp at h1; omega
   rw [if_pos h1'] at hdef
   refine sr fun _ => ?_
   refine ma ?_
   refine ma ?_
   refine mz ?_
   refine AWP.ret (thenA_r ?_)
   refine ρB (rs := [.tmp 6, .tmp 7, .tmp 8]) (.cons (.tmp rfl) (.cons (.tmp rfl) (.cons (.tmp rfl) .nil))) ?_
   rw [hdef]; rfl
 have h1' : ¬ ((getN (bl s) p).1 > 1000 ∨ ((getN (bl s) p).1 > top ∧ (getN (bl s) p).1 > 0)) := by simp at h1; omega
 rw [if_neg h1'] at hdef
 refine AWP.skip (thenA_n (AWP.seq (sr fun _ => ?_)))
 refine mv ?_
 refine mv ?_
 refine ez ?_
 refine AWP.block ?_
 refine AWP.rounds (fun st => st.1 ≤ (getN (bl s) p).1.toNat ∧ st.2.2.2.length = st.1 ∧ unrowF (bl s) ((getN (bl s) p).1.toNat - st.1) st.2.2.1 st.2.2.2 = unrowF (bl s) (getN (bl s) p).1.toNat (getN (bl s) p).2.1 []) (fun st => [(0, .str s), (6, .own (G.length + 0) st.2.1), (7, .int .i64 st.2.2.1), (28, .int .i64 (getN (bl s) p).1), (29, .int .i64 (st.1 : Int))]) (fun st => [.row st.2.1 3 1 (st.2.2.2.map (AV.int .i64))]) (fun st => (getN (bl s) p).1.toNat - st.1) 1 ((0, 0, (getN (bl s) p).2.1, []) : Nat × Nat × Int × List Int) ⟨Nat.zero_le _, rfl, rfl⟩ (by repeat (first | exact .nil | refine .cons rfl ?_)) rfl (fun _ => rfl) (fun _ => ⟨by simp [AV.cells], by simp [AO.conts, AV.cells]; rintro y a _ rfl; simp⟩) (fun st hI => ?_)
 obtain ⟨k, g, to, acc⟩ := st
 dsimp only at hI
 show AWP _ _ _ _ _ [(0, .str s), (6, .own (G.length + 0) g), (7, .int .i64 to), (28, .int .i64 (getN (bl s) p).1), (29, .int .i64 (k : Int))] _ [.row g 3 1 (acc.map (AV.int .i64))]
 obtain ⟨hk, hal, hu⟩ := hI
 refine sr fun _ => ?_
 refine ρ6 ?_
 refine ez ?_
 refine AWP.seq ?_
 refine ρo (fun h2 => ?_) (fun h2 => ?_)
 · simp at h2
   refine AWP.skip (thenA_n ?_)
   refine AWP.seq (AWP.block (sr fun _ => ?_))
   refine mv ?_
   refine mv ?_
   refine ρk cf67 (fun hg => get_fn s to hs) ?_
   refine mv ?_
   refine ρj ?_
   refine ρj ?_
   refine ρj ?_
   refine ma ?_
   refine ma ?_
   refine mz ?_
   refine AWP.seq (sr fun _ => ?_)
   refine mv ?_
   refine ρ6 ?_
   refine ez ?_
   refine ρo (fun h3 => ?_) (fun h3 => ?_)
   · have h3' : (getN (bl s) to).2.2 ≠ 0 := by simpa using h3
     rw [show (getN (bl s) p).1.toNat - k = ((getN (bl s) p).1.toNat - (k + 1)) + 1 by omega, unrow_step, if_pos h3'] at hu
     refine sr fun _ => ?_
     refine mv ?_
     refine ma ?_
     refine ma ?_
     refine mz ?_
     refine AWP.ret (thenA_r ?_)
     refine blockA_r (thenA_r ?_)
     refine thenA_r (blockA_r (thenA_r ?_))
     refine ρB (rs := [.tmp 6, .tmp 7, .tmp 8]) (.cons (.tmp rfl) (.cons (.tmp rfl) (.cons (.tmp rfl) .nil))) ?_
     rw [hdef, ← hu]; rfl
   simp at h3
   rw [show (getN (bl s) p).1.toNat - k = ((getN (bl s) p).1.toNat - (k + 1)) + 1 by omega, unrow_step, if_neg (by simp [h3])] at hu
   refine AWP.skip (thenA_n ?_)
   refine AWP.region (fun _ => ?_)
   refine mv ?_
   refine mv ?_
   refine ρy U24 sz3 zv3 ?_
   refine ARun.appendL hG rfl rfl rfl rfl U24 ti3 rfl (by decide) (ep rfl) (ep rfl) rfl rfl (by simp [maxLen]; omega) (by simp; omega) (map_snocI acc _) optN rfl ?_
   refine mv ?_
   refine ma ?_
   refine ma ?_
   refine ⟨_, _, rfl, hG, ?_⟩
   refine blockA_n (thenA_n ?_)
   refine AWP.region (fun _ => ?_)
   first | refine ρd ?_ | refine ρg ?_
   refine mv ?_
   refine ⟨_, _, rfl, hG, ?_⟩
   refine thenA_n ⟨rfl, (k + 1, g + 1, (getN (bl s) to).2.1, acc ++ [(getN (bl s) to).1]), _, ?_, ?_, rfl, ?_⟩
   · exact ⟨by dsimp only; omega, by simp [hal], hu⟩
   · repeat (first | exact .nil | refine .cons rfl ?_)
   dsimp only; omega
 simp at h2
 have hkk : (getN (bl s) p).1.toNat - k = 0 := by omega
 rw [hkk] at hu
 refine AWP.exit ?_
 refine thenA_x ?_
 refine thenA_x ?_
 refine blockA_h ?_
 refine thenA_n (sr fun _ => ?_)
 refine mv ?_
 refine mv ?_
 refine ma ?_
 refine ma ?_
 refine mz ?_
 refine AWP.frzOwn 6 hG rfl rfl (by decide) (by simp [maxLen]; omega) rfl ?_
 refine AWP.ret ?_
 refine ρB (rs := [.tmp 6, .tmp 7, .tmp 8]) (.cons (.tmp rfl) (.cons (.tmp rfl) (.cons (.tmp rfl) .nil))) ?_
 rw [hdef, ← hu]; rfl
end Go.Proofs.YtnlpojjfkgnhhaaGreatDoor
namespace Go.Proofs.YtnlpojjfkgnhhaaGreatDoor.NumP
theorem getD_mid (h : List UInt8) (c : UInt8) (r : List UInt8) : (h ++ c :: r).getD h.length 0 = c := by
 rw [List.getD, List.getElem?_append_right (Nat.le_refl _)]; simp
theorem get_put (h b : List UInt8) (x : Int) (h0 : 0 ≤ x) (h1 : x ≤ 9223372036854775807) :
   getN (h ++ ((putN x).1 ++ b)) h.length = (x, (h.length : Int) + ((putN x).1.length : Int), 0) := by
 obtain ⟨n, rfl⟩ := Int.eq_ofNat_of_zero_le h0
 by_cases h128 : (n : Int) < 128
 · have hp : putN (n : Int) = ([UInt8.ofNat n], 0) := by unfold putN; rw [if_neg (by omega), if_pos h128]; rfl
   rw [hp]
   have hl : (h ++ ([UInt8.ofNat n] ++ b)).length = h.length + 1 + b.length := by simp; omega
   have hgd : (h ++ ([UInt8.ofNat n] ++ b)).getD h.length 0 = UInt8.ofNat n := getD_mid h _ b
   have hn : (UInt8.ofNat n).toNat = n := by rw [UInt8.toNat_ofNat']; omega
   unfold getN
   rw [if_neg (by rw [hl]; omega), if_neg (by rw [hl]; omega)]
   simp only [Int.toNat_natCast, hgd, hn]
   rw [if_pos (by omega)]
   simp
 · have hp : putN (n : Int) = (UInt8.ofNat (128 + (be n).length) :: be n, 0) := by
     unfold putN; rw [if_neg (by omega), if_neg h128]; rfl
   rw [hp]
   have h8 := be_le n
   have hpos := be_pos n (by omega) (by omega)
   have hv : val (be n) = n := val_beF 8 n (by omega)
   generalize hL : (be n).length = L at *
   have hl : (h ++ (UInt8.ofNat (128 + L) :: be n ++ b)).length = h.length + 1 + L + b.length := by simp [hL]; omega
   have hgd : (h ++ (UInt8.ofNat (128 + L) :: be n ++ b)).getD h.length 0 = UInt8.ofNat (128 + L) := getD_mid h _ (be n ++ b)
   have hn : (UInt8.ofNat (128 + L)).toNat = 128 + L := by rw [UInt8.toNat_ofNat']; omega
   have hd : ((h ++ (UInt8.ofNat (128 + L) :: be n ++ b)).drop (h.length + 1)).take L = be n := by
     rw [← List.drop_drop, List.drop_left]
     show ((be n ++ b).drop 0).take L = be n
     rw [List.drop_zero, ← hL, List.take_left]
   have hgr : greatN (be n) = ((n : Int), 0) := by
     obtain ⟨c, l, e, hc⟩ := beF_head 8 n (by omega) (by omega)
     have e2 : be n = c :: l := e
     unfold greatN
     rw [hv, if_neg (by rw [e2]; simp; exact ⟨hc, by omega⟩), if_neg (by omega)]
   unfold getN
   rw [if_neg (by rw [hl]; omega), if_neg (by rw [hl]; omega)]
   simp only [Int.toNat_natCast, hgd, hn]
   rw [if_neg (by omega), if_neg (by omega), if_neg (by rw [hl]; omega)]
   simp only [show 128 + L - 128 = L by omega, hd, hgr]
   simp [hL]
   omega
theorem cut_join (l : List UInt8) (a b c : Nat) (h1 : a ≤ b) (h2 : b ≤ c) : (l.take c).drop a = (l.take b).drop a ++ (l.take c).drop b := by
 have e : l.take b = (l.take c).take b := by rw [List.take_take, Nat.min_eq_left h2]
 rw [e]
 generalize l.take c = m
 have e2 : m.drop a = (m.drop a).take (b - a) ++ (m.drop a).drop (b - a) := (List.take_append_drop _ _).symm
 rw [List.drop_take, List.drop_drop, show a + (b - a) = b by omega] at *
 exact e2
theorem cut_one (l : List UInt8) (p : Nat) (hp : p < l.length) : (l.take (p + 1)).drop p = [l.getD p 0] := by
 rw [List.drop_take, show p + 1 - p = 1 by omega, List.getD, List.getElem?_eq_getElem hp]
 rw [List.drop_eq_getElem_cons hp]
 rfl
theorem get_least (l : List UInt8) (p x to : Int) (h : getN l p = (x, to, 0)) :
   0 ≤ x ∧ x ≤ 9223372036854775807 ∧ 0 ≤ p ∧ p < to ∧ to ≤ l.length ∧ (l.take to.toNat).drop p.toNat = (putN x).1 := by
 unfold getN at h
 split at h
 · simp at h
 · rename_i c1
   split at h
   · simp at h
   · rename_i c2
     obtain ⟨q, rfl⟩ := Int.eq_ofNat_of_zero_le (show 0 ≤ p by omega)
     have hq : q < l.length := by omega
     simp only [Int.toNat_natCast] at h ⊢
     have hc1 := cut_one l q hq
     generalize hc : l.getD q 0 = c at h hc1
     have hcl := c.toNat_lt
     split at h
     · rename_i c3
       simp only [Prod.mk.injEq] at h
       obtain ⟨rfl, rfl, _⟩ := h
       have e : ((q : Int) + 1).toNat = q + 1 := by omega
       refine ⟨by omega, by omega, by omega, by omega, by omega, ?_⟩
       rw [e, hc1]
       unfold putN
       rw [if_neg (by omega), if_pos (by omega)]
       simp
     · rename_i c3
       split at h
       · simp at h
       · rename_i c4
         split at h
         · simp at h
         · rename_i c5
           generalize hM : (l.drop (q + 1)).take (c.toNat - 128) = M at h
           have hML : M.length = c.toNat - 128 := by rw [← hM, List.length_take, List.length_drop]; omega
           obtain ⟨d, M', rfl⟩ : ∃ d M', M = d :: M' := by
             cases M with
             | nil => simp at hML; omega
             | cons d M' => exact ⟨d, M', rfl⟩
           unfold greatN at h
           split at h
           · simp at h
           · rename_i c6
             split at h
             · simp at h
             · rename_i c7
               simp only [ne_eq, not_true_eq_false, if_false, Prod.mk.injEq] at h
               obtain ⟨rfl, rfl, _⟩ := h
               have hd : d ≠ 0 := fun e => c6 (.inl (by simpa using e))
               have h128 : 128 ≤ val (d :: M') := by
                 rcases Nat.lt_or_ge (val (d :: M')) 128 with e | e
                 · exact absurd (Or.inr e) c6
                 · exact e
               simp at hML
               have hbe : be (val (d :: M')) = d :: M' := beF_val 8 d M' hd (by omega)
               generalize val (d :: M') = V at hbe h128 c7 ⊢
               have hV : (128 : Int) ≤ (V : Int) := by omega
               have e : ((q : Int) + 1 + ((c.toNat - 128 : Nat) : Int)).toNat = q + 1 + (c.toNat - 128) := by omega
               refine ⟨by omega, by omega, by omega, by omega, by omega, ?_⟩
               rw [e, cut_join l q (q + 1) _ (by omega) (by omega), hc1]
               unfold putN
               rw [if_neg (Int.not_lt.mpr (Int.natCast_nonneg V)), if_neg (Int.not_lt.mpr hV), Int.toNat_natCast, hbe]
               have e4 : (l.take (q + 1 + (c.toNat - 128))).drop (q + 1) = d :: M' := by
                 rw [List.drop_take, Nat.add_sub_cancel_left]; exact hM
               rw [e4]
               simp only [List.length_cons, List.cons_append, List.nil_append, List.cons.injEq, and_true]
               apply UInt8.toNat_inj.1
               rw [UInt8.toNat_ofNat']; omega
theorem unrowF_least (l : List UInt8) (k : Nat) : ∀ (t : Nat) (acc xs : List Int) (to : Int), t ≤ l.length → unrowF l k t acc = (xs, to, 0) →
   ∃ ys : List Int, xs = acc ++ ys ∧ ys.length = k ∧ (∀ y, y ∈ ys → 0 ≤ y ∧ y ≤ 9223372036854775807) ∧ (t : Int) ≤ to ∧ to ≤ l.length ∧ (l.take to.toNat).drop t = rowBytes ys := by
 induction k with
 | zero =>
   intro t acc xs to ht h
   simp only [unrowF, Prod.mk.injEq] at h
   obtain ⟨rfl, rfl, _⟩ := h
   refine ⟨[], by simp, rfl, (fun y hy => by cases hy), by omega, by omega, ?_⟩
   rw [Int.toNat_natCast]
   simp [rowBytes]
 | succ k ih =>
   intro t acc xs to ht h
   rw [unrowF] at h
   split at h
   · rename_i c; simp only [Prod.mk.injEq] at h; exact absurd h.2.2 c
   · rename_i c
     generalize hg : getN l t = g at h c
     obtain ⟨x, t2, e⟩ := g
     simp only at c h
     have he : e = 0 := by simpa using c
     subst he
     obtain ⟨h0, h1, _, h3, h4, h5⟩ := get_least l t x t2 hg
     obtain ⟨u, rfl⟩ := Int.eq_ofNat_of_zero_le (show 0 ≤ t2 by omega)
     obtain ⟨ys, e1, e2, e3, e4, e5, e6⟩ := ih u _ _ _ (by omega) h
     rw [Int.toNat_natCast, Int.toNat_natCast] at h5
     refine ⟨x :: ys, by rw [e1]; simp, by simp [e2], ?_, by omega, e5, ?_⟩
     · intro y hy
       cases hy with
       | head => exact ⟨h0, h1⟩
       | tail _ hy => exact e3 y hy
     · rw [cut_join l t u _ (by omega) (by omega), h5, e6]
       simp [rowBytes]
theorem unrow_least (l : List UInt8) (p to : Int) (xs : List Int) (h : unrowN l p 1000 = (xs, to, 0)) :
   xs.length ≤ 1000 ∧ (∀ y, y ∈ xs → 0 ≤ y ∧ y ≤ 9223372036854775807) ∧ 0 ≤ p ∧ p < to ∧ to ≤ l.length ∧ rowN xs = ((l.take to.toNat).drop p.toNat, 0) := by
 unfold unrowN at h
 split at h
 · rename_i c; simp only [Prod.mk.injEq] at h; exact absurd h.2.2 c
 · rename_i c
   split at h
   · simp at h
   · rename_i c2
     generalize hg : getN l p = g at h c c2
     obtain ⟨x, t, e⟩ := g
     simp only at c c2 h
     have he : e = 0 := by simpa using c
     subst he
     obtain ⟨h0, h1, h2, h3, h4, h5⟩ := get_least l p x t hg
     obtain ⟨u, rfl⟩ := Int.eq_ofNat_of_zero_le (show 0 ≤ t by omega)
     obtain ⟨n, rfl⟩ := Int.eq_ofNat_of_zero_le h0
     rw [Int.toNat_natCast] at h h5
     obtain ⟨ys, e1, e2, e3, e4, e5, e6⟩ := unrowF_least l n u _ _ _ (by omega) h
     rw [List.nil_append] at e1
     subst e1
     refine ⟨by omega, e3, h2, by omega, e5, ?_⟩
     have hn : nneg xs = true := by
       unfold nneg; rw [List.all_eq_true]; intro y hy; simpa using (e3 y hy).1
     unfold rowN
     rw [if_pos hn, cut_join l p.toNat u _ (by omega) (by omega), h5, e6, e2]
end Go.Proofs.YtnlpojjfkgnhhaaGreatDoor.NumP
namespace Go.Proofs.YtnlpojjfkgnhhaaGreatDoor
open NumP
def tNum : ByteArray := ⟨#[110, 117, 109]⟩
def tText : ByteArray := ⟨#[116, 101, 120, 116]⟩
def tRow : ByteArray := ⟨#[114, 111, 119]⟩
def tFlag : ByteArray := ⟨#[102, 108, 97, 103]⟩
def tEnd : ByteArray := ⟨#[101, 110, 100]⟩
def tRead : ByteArray := ⟨#[114, 101, 97, 100]⟩
def tWrite : ByteArray := ⟨#[119, 114, 105, 116, 101]⟩
def errOf (op p : ByteArray) (e : Int) : Er := if e = 0 then .none else .wr op (.wr p (.no e))
theorem errOf_zero (op p : ByteArray) : errOf op p 0 = .none := if_pos rfl
theorem errOf_none (op p : ByteArray) (e : Int) : (errOf op p e).isNone = decide (e = 0) := by
 unfold errOf; split <;> simp_all [Er.isNone]
theorem errOf_isWr (op p : ByteArray) (e : Int) : (errOf op p e).isWr = !decide (e = 0) := by
 unfold errOf; split <;> simp_all [Er.isWr]
theorem errOf_mk (op p : ByteArray) (e : Int) : Er.wrap op (Er.new p e) = errOf op p e := by
 unfold errOf Er.wrap Er.new; split <;> simp [Er.isNone]
/-! ### a reader -/
structure RdS where
 s : ByteArray
 at_ : Int
 p : ByteArray
 e : Int
def RdS.new (s : ByteArray) : RdS := ⟨s, 0, ⟨#[]⟩, 0⟩
def RdS.ok (r : RdS) : Prop := 0 ≤ r.at_ ∧ r.at_ ≤ r.s.size ∧ r.s.size ≤ 1000000
def RdS.moved (r : RdS) (p : ByteArray) (to e : Int) : RdS := if e ≠ 0 then { r with p := p, e := e } else { r with at_ := to }
def numE (r : RdS) (most : Int) : Int := if (getN (bl r.s) r.at_).2.2 = 0 ∧ (getN (bl r.s) r.at_).1 > most then 3 else (getN (bl r.s) r.at_).2.2
def rdNum (r : RdS) (most : Int) : RdS × Int :=
 if r.e ≠ 0 then (r, 0) else (r.moved tNum (getN (bl r.s) r.at_).2.1 (numE r most), if numE r most ≠ 0 then 0 else (getN (bl r.s) r.at_).1)
def textE (r : RdS) (most : Int) : Int :=
 if (getN (bl r.s) r.at_).2.2 ≠ 0 then (getN (bl r.s) r.at_).2.2 else if (getN (bl r.s) r.at_).1 > most then 3 else if (getN (bl r.s) r.at_).1 > (r.s.size : Int) - (getN (bl r.s) r.at_).2.1 then 4 else 0
def rdText (r : RdS) (most : Int) : RdS × ByteArray :=
 if r.e ≠ 0 then (r, ⟨#[]⟩) else
 (r.moved tText ((getN (bl r.s) r.at_).2.1 + (getN (bl r.s) r.at_).1) (textE r most), if textE r most ≠ 0 then ⟨#[]⟩ else r.s.extract (getN (bl r.s) r.at_).2.1.toNat ((getN (bl r.s) r.at_).2.1 + (getN (bl r.s) r.at_).1).toNat)
def rdRow (r : RdS) (most : Int) : RdS × List Int :=
 if r.e ≠ 0 then (r, []) else (r.moved tRow (unrowN (bl r.s) r.at_ most).2.1 (unrowN (bl r.s) r.at_ most).2.2, (unrowN (bl r.s) r.at_ most).1)
def rdFlag (r : RdS) : RdS × Bool :=
 if r.e ≠ 0 then (r, false) else if r.at_ ≥ r.s.size then (r.moved tFlag 0 4, false) else
 if ((bl r.s).getD r.at_.toNat 0).toNat > 1 then (r.moved tFlag 0 5, false) else (r.moved tFlag (r.at_ + 1) 0, decide (((bl r.s).getD r.at_.toNat 0).toNat = 1))
def rdEnd (r : RdS) : RdS := if r.e = 0 ∧ r.at_ < r.s.size then r.moved tEnd 0 6 else r
theorem moved_ok {r : RdS} (h : r.ok) (p : ByteArray) (to e : Int) (ht : e = 0 → 0 ≤ to ∧ to ≤ r.s.size) : (r.moved p to e).ok := by
 unfold RdS.moved RdS.ok at *
 split
 · exact h
 · rename_i h0
   have := ht (by omega)
   exact ⟨this.1, this.2, h.2.2⟩
theorem unrowF_bd (l : List UInt8) (hl : l.length ≤ 1000000) (k : Nat) : ∀ (to : Int) (acc : List Int), 0 ≤ to → to ≤ l.length → 0 ≤ (unrowF l k to acc).2.1 ∧ (unrowF l k to acc).2.1 ≤ l.length := by
 induction k with
 | zero => intro to acc h1 h2; exact ⟨h1, h2⟩
 | succ k ih =>
   intro to acc h1 h2
   rw [unrow_step]
   split
   · dsimp only; omega
   · have := getN_bd l to hl
     exact ih _ _ this.2.2.1 this.2.2.2
theorem unrowN_bd (l : List UInt8) (hl : l.length ≤ 1000000) (p top : Int) : 0 ≤ (unrowN l p top).2.1 ∧ (unrowN l p top).2.1 ≤ l.length := by
 unfold unrowN
 split
 · dsimp only; omega
 · split
   · dsimp only; omega
   · have := getN_bd l p hl
     exact unrowF_bd l hl _ _ _ this.2.2.1 this.2.2.2
theorem rdNum_ok {r : RdS} (h : r.ok) (most : Int) : (rdNum r most).1.ok := by
 unfold rdNum
 split
 · exact h
 · have := getN_bd (bl r.s) r.at_ (by rw [bl_len]; exact h.2.2)
   rw [bl_len] at this
   exact moved_ok h _ _ _ fun _ => ⟨this.2.2.1, this.2.2.2⟩
theorem textE_zero {r : RdS} {most : Int} (h : textE r most = 0) : (getN (bl r.s) r.at_).2.2 = 0 ∧ (getN (bl r.s) r.at_).1 ≤ most ∧ (getN (bl r.s) r.at_).1 ≤ (r.s.size : Int) - (getN (bl r.s) r.at_).2.1 := by
 unfold textE at h
 split at h
 · rename_i h1; exact absurd h h1
 · rename_i h1
   split at h
   · cases h
   · split at h
     · cases h
     · omega
theorem rdText_ok {r : RdS} (h : r.ok) (most : Int) : (rdText r most).1.ok := by
 unfold rdText
 split
 · exact h
 · have := getN_bd (bl r.s) r.at_ (by rw [bl_len]; exact h.2.2)
   rw [bl_len] at this
   refine moved_ok h _ _ _ fun h0 => ?_
   have := textE_zero h0
   omega
theorem rdRow_ok {r : RdS} (h : r.ok) (most : Int) : (rdRow r most).1.ok := by
 unfold rdRow
 split
 · exact h
 · have := unrowN_bd (bl r.s) (by rw [bl_len]; exact h.2.2) r.at_ most
   rw [bl_len] at this
   exact moved_ok h _ _ _ fun _ => this
theorem rdFlag_ok {r : RdS} (h : r.ok) : (rdFlag r).1.ok := by
 unfold rdFlag
 split
 · exact h
 · split
   · exact moved_ok h _ _ _ (by simp)
   · split
     · exact moved_ok h _ _ _ (by simp)
     · have := h.1; exact moved_ok h _ _ _ fun _ => by omega
theorem moved_s (r : RdS) (p : ByteArray) (to e : Int) : (r.moved p to e).s = r.s := by unfold RdS.moved; split <;> rfl
theorem moved_e (r : RdS) (p : ByteArray) (to e : Int) (h : r.e = 0) : (r.moved p to e).e = e := by
 unfold RdS.moved; split
 · rfl
 · rename_i h0; show r.e = e; omega
theorem rdNum_s (r : RdS) (most : Int) : (rdNum r most).1.s = r.s := by unfold rdNum; split <;> simp [moved_s]
theorem rdText_s (r : RdS) (most : Int) : (rdText r most).1.s = r.s := by unfold rdText; split <;> simp [moved_s]
theorem rdRow_s (r : RdS) (most : Int) : (rdRow r most).1.s = r.s := by unfold rdRow; split <;> simp [moved_s]
theorem rdFlag_s (r : RdS) : (rdFlag r).1.s = r.s := by unfold rdFlag; split <;> (try split) <;> (try split) <;> simp [moved_s]
/-! ### a writer -/
structure WrS where
 s : List UInt8
 p : ByteArray
 e : Int
def WrS.new : WrS := ⟨[], ⟨#[]⟩, 0⟩
def WrS.out (w : WrS) : ByteArray := if w.e = 0 then bs w.s else ⟨#[]⟩
def wrPut (w : WrS) (p : ByteArray) (t : List UInt8) (e : Int) : WrS := if w.e ≠ 0 then w else if e ≠ 0 then { w with p := p, e := e } else { w with s := w.s ++ t }
def wrNum (w : WrS) (n : Int) : WrS := wrPut w tNum (putN n).1 (putN n).2
def wrNums (w : WrS) (l : List Int) : WrS := l.foldl wrNum w
def wrText (w : WrS) (s : ByteArray) : WrS := wrPut w tText ((putN s.size).1 ++ bl s) 0
def wrRow (w : WrS) (l : List Int) : WrS := wrPut w tRow (rowN l).1 (rowN l).2
def flagB (b : Bool) : ByteArray := if b then ⟨#[1]⟩ else ⟨#[0]⟩
def wrFlag (w : WrS) (b : Bool) : WrS := wrPut w tFlag (bl (flagB b)) 0
theorem wrPut_len (w : WrS) (p : ByteArray) (t : List UInt8) (e : Int) : (wrPut w p t e).s.length ≤ w.s.length + t.length := by
 unfold wrPut
 split
 · omega
 · split
   · dsimp only; omega
   · simp
theorem wrNum_len (w : WrS) (n : Int) : (wrNum w n).s.length ≤ w.s.length + 9 := Nat.le_trans (wrPut_len _ _ _ _) (by have := putN_len n; omega)
theorem wrNums_len (l : List Int) : ∀ (w : WrS), (wrNums w l).s.length ≤ w.s.length + 9 * l.length := by
 induction l with
 | nil => intro w; simp [wrNums]
 | cons x l ih =>
   intro w
   have h1 := ih (wrNum w x)
   have h2 := wrNum_len w x
   show (wrNums (wrNum w x) l).s.length ≤ _
   simp; omega
theorem wrNums_snoc (w : WrS) (l : List Int) (x : Int) : wrNums w (l ++ [x]) = wrNum (wrNums w l) x := by simp [wrNums]
theorem wrNums_succ (w : WrS) (l : List Int) (k : Nat) (h : k < l.length) : wrNums w (l.take (k + 1)) = wrNum (wrNums w (l.take k)) (l.getD k default) := by
 rw [List.take_succ_eq_append_getElem h, wrNums_snoc]; simp [List.getD, h]
theorem wrText_len (w : WrS) (s : ByteArray) : (wrText w s).s.length ≤ w.s.length + 9 + s.size := by
 refine Nat.le_trans (wrPut_len _ _ _ _) ?_
 have := putN_len s.size
 have := bl_len s
 simp; omega
theorem wrRow_len (w : WrS) (l : List Int) : (wrRow w l).s.length ≤ w.s.length + 9 * (l.length + 1) := Nat.le_trans (wrPut_len _ _ _ _) (by have := rowN_len l; omega)
end Go.Proofs.YtnlpojjfkgnhhaaGreatDoor
namespace Go.Proofs.YtnlpojjfkgnhhaaGreatDoor
open NumP
structure Pc where
 kind : Int
 n : Int
 s : ByteArray
 l : List Int
instance : Inhabited Pc := ⟨⟨0, 0, ⟨#[]⟩, []⟩⟩
/-! ### what was read, laid again -/
theorem moved_zero {r : RdS} {p : ByteArray} {to e : Int} (h : (r.moved p to e).e = 0) (h0 : r.e = 0) : e = 0 ∧ r.moved p to e = { r with at_ := to } := by
 rw [moved_e _ _ _ _ h0] at h
 subst h
 exact ⟨rfl, by simp [RdS.moved]⟩
def Upto (r : RdS) (w : WrS) : Prop := r.e = 0 → w.e = 0 ∧ w.s = (bl r.s).take r.at_.toNat
theorem wrPut_ok {w : WrS} (h : w.e = 0) (p : ByteArray) (t : List UInt8) : wrPut w p t 0 = { w with s := w.s ++ t } := by
 unfold wrPut; rw [if_neg (by omega), if_neg (by omega)]
theorem upto_put {r : RdS} {w : WrS} {p : ByteArray} {t : List UInt8} {to : Int} (hU : Upto r w) (h0 : r.e = 0) (hr : 0 ≤ r.at_ ∧ r.at_ ≤ to) (ht : ((bl r.s).take to.toNat).drop r.at_.toNat = t) :
   (wrPut w p t 0).e = 0 ∧ (wrPut w p t 0).s = (bl r.s).take to.toNat := by
 obtain ⟨h1, h2⟩ := hU h0
 rw [wrPut_ok h1]
 refine ⟨h1, ?_⟩
 show w.s ++ t = _
 rw [h2, ← ht]
 have := cut_join (bl r.s) 0 r.at_.toNat to.toNat (by omega) (by omega)
 simp only [List.drop_zero] at this
 exact this.symm
theorem first_num {r : RdS} (hr : r.ok) (w : WrS) (most : Int) (hU : Upto r w) : Upto (rdNum r most).1 (wrNum w (rdNum r most).2) := by
 intro h
 unfold rdNum at h ⊢
 by_cases he : r.e = 0
 · rw [if_neg (by omega)] at h ⊢
   obtain ⟨h1, h2⟩ := moved_zero h he
   rw [h2, h1]
   have h3 : (getN (bl r.s) r.at_).2.2 = 0 := by
     unfold numE at h1; split at h1 <;> omega
   have hg : getN (bl r.s) r.at_ = ((getN (bl r.s) r.at_).1, (getN (bl r.s) r.at_).2.1, 0) := by rw [← h3]
   obtain ⟨g1, g2, g3, g4, g5, g6⟩ := get_least _ _ _ _ hg
   have := upto_put (p := tNum) hU he ⟨hr.1, by omega⟩ g6
   have e0 : (putN (getN (bl r.s) r.at_).1).2 = 0 := by rw [putN_err, if_pos g1]
   simp only [ne_eq, not_true_eq_false, if_false]
   unfold wrNum
   rw [e0]; exact this
 · rw [if_pos he] at h; exact absurd h he
theorem first_text {r : RdS} (hr : r.ok) (w : WrS) (most : Int) (hU : Upto r w) : Upto (rdText r most).1 (wrText w (rdText r most).2) := by
 intro h
 unfold rdText at h ⊢
 by_cases he : r.e = 0
 · rw [if_neg (by omega)] at h ⊢
   obtain ⟨h1, h2⟩ := moved_zero h he
   rw [h2, h1]
   obtain ⟨h3, h4, h5⟩ := textE_zero h1
   have hg : getN (bl r.s) r.at_ = ((getN (bl r.s) r.at_).1, (getN (bl r.s) r.at_).2.1, 0) := by rw [← h3]
   obtain ⟨g1, g2, g3, g4, g5, g6⟩ := get_least _ _ _ _ hg
   simp only [ne_eq, not_true_eq_false, if_false]
   generalize hN : (getN (bl r.s) r.at_).1 = N at *
   generalize hT : (getN (bl r.s) r.at_).2.1 = T at *
   have hsz : (r.s.extract T.toNat (T + N).toNat).size = N.toNat := by
     rw [ByteArray.size_extract]; omega
   unfold wrText
   rw [hsz, Int.toNat_of_nonneg g1, bl_extract]
   refine upto_put (to := T + N) hU he ⟨hr.1, by omega⟩ ?_
   rw [cut_join (bl r.s) r.at_.toNat T.toNat (T + N).toNat (by omega) (by omega), g6]
 · rw [if_pos he] at h; exact absurd h he
theorem unrowN_least (l : List UInt8) (p top to : Int) (xs : List Int) (h : unrowN l p top = (xs, to, 0)) : unrowN l p 1000 = (xs, to, 0) := by
 unfold unrowN at h ⊢
 split at h
 · rename_i h1; simp at h; exact absurd h.2.2 h1
 · rename_i h1
   rw [if_neg h1]
   split at h
   · simp at h
   · rename_i h2
     rw [if_neg (by omega)]; exact h
theorem first_row {r : RdS} (hr : r.ok) (w : WrS) (most : Int) (hU : Upto r w) : Upto (rdRow r most).1 (wrRow w (rdRow r most).2) := by
 intro h
 unfold rdRow at h ⊢
 by_cases he : r.e = 0
 · rw [if_neg (by omega)] at h ⊢
   obtain ⟨h1, h2⟩ := moved_zero h he
   rw [h2]
   have hg : unrowN (bl r.s) r.at_ most = ((unrowN (bl r.s) r.at_ most).1, (unrowN (bl r.s) r.at_ most).2.1, 0) := by rw [← h1]
   obtain ⟨g1, g2, g3, g4, g5, g6⟩ := unrow_least _ _ _ _ (unrowN_least _ _ _ _ _ hg)
   have := upto_put (p := tRow) (to := (unrowN (bl r.s) r.at_ most).2.1) hU he ⟨hr.1, by omega⟩ rfl
   unfold wrRow
   rw [g6]; exact this
 · rw [if_pos he] at h; exact absurd h he
theorem first_flag {r : RdS} (hr : r.ok) (w : WrS) (hU : Upto r w) : Upto (rdFlag r).1 (wrFlag w (rdFlag r).2) := by
 intro h
 unfold rdFlag at h ⊢
 by_cases he : r.e = 0
 · rw [if_neg (by omega)] at h ⊢
   by_cases h1 : r.at_ ≥ r.s.size
   · rw [if_pos h1] at h; rw [moved_e _ _ _ _ he] at h; cases h
   · rw [if_neg h1] at h ⊢
     by_cases h2 : ((bl r.s).getD r.at_.toNat 0).toNat > 1
     · rw [if_pos h2] at h; rw [moved_e _ _ _ _ he] at h; cases h
     · rw [if_neg h2] at h ⊢
       obtain ⟨_, h4⟩ := moved_zero h he
       rw [h4]
       have hr0 := hr.1
       dsimp only
       refine upto_put (r := r) (to := r.at_ + 1) hU he ⟨hr.1, by omega⟩ ?_
       rw [show (r.at_ + 1).toNat = r.at_.toNat + 1 by omega, cut_one _ _ (by rw [bl_len]; omega)]
       generalize (bl r.s).getD r.at_.toNat 0 = b at h2 ⊢
       have hb : b = 0 ∨ b = 1 := by
         rcases Nat.lt_or_ge b.toNat 1 with h | h
         · left; apply UInt8.toNat_inj.1; show b.toNat = 0; omega
         · right; apply UInt8.toNat_inj.1; show b.toNat = 1; omega
       rcases hb with rfl | rfl <;> rfl
 · rw [if_pos he] at h; exact absurd h he
theorem unrowF_len (l : List UInt8) (k : Nat) : ∀ (to : Int) (acc : List Int), (unrowF l k to acc).1.length ≤ acc.length + k := by
 induction k with
 | zero => intro to acc; exact Nat.le_refl _
 | succ k ih =>
   intro to acc
   rw [unrow_step]
   split
   · simp
   · have := ih (getN l to).2.1 (acc ++ [(getN l to).1]); simp at this; omega
theorem unrowN_len (l : List UInt8) (p top : Int) : (unrowN l p top).1.length ≤ 1000 := by
 unfold unrowN
 split
 · exact Nat.zero_le _
 · split
   · exact Nat.zero_le _
   · have := unrowF_len l (getN l p).1.toNat (getN l p).2.1 []
     simp at this; omega
theorem rdRow_len (r : RdS) (most : Int) : (rdRow r most).2.length ≤ 1000 := by
 unfold rdRow
 split
 · exact Nat.zero_le _
 · exact unrowN_len _ _ _
theorem rdText_len {r : RdS} (most : Int) : (rdText r most).2.size ≤ r.s.size := by
 unfold rdText
 split
 · exact Nat.zero_le _
 · dsimp only
   split
   · exact Nat.zero_le _
   · rw [ByteArray.size_extract]; omega
theorem rd_new_ok {s : ByteArray} (h : s.size ≤ 1000000) : (RdS.new s).ok := ⟨Int.le_refl 0, by show (0 : Int) ≤ s.size; omega, h⟩
theorem upto_new (s : ByteArray) : Upto (RdS.new s) WrS.new := fun _ => ⟨rfl, by simp [RdS.new, WrS.new]⟩
theorem upto_end {r : RdS} {w : WrS} (hr : r.ok) (h : Upto r w) (he : (rdEnd r).e = 0) : w.out = r.s ∧ w.e = 0 := by
 unfold rdEnd at he
 have h1 : ¬ (r.e = 0 ∧ r.at_ < r.s.size) := by
   intro h2; rw [if_pos h2, moved_e _ _ _ _ h2.1] at he; cases he
 rw [if_neg h1] at he
 obtain ⟨h2, h3⟩ := h he
 refine ⟨?_, h2⟩
 unfold WrS.out
 rw [if_pos h2, h3]
 apply bl_inj
 rw [bl_bs, List.take_of_length_le (by rw [bl_len]; have := hr.2.1; omega)]
end Go.Proofs.YtnlpojjfkgnhhaaGreatDoor
