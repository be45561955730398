/- The abstract machine: the operations. -/
import Derived.Test.YtopmppnnihdnaaaAmCode
import Derived.IntWalk
namespace Go.Proofs.Ytopmppnnihdnaaa
set_option linter.unusedVariables false
set_option linter.unusedSimpArgs false
open Go.RowKit
/-- an operand, where the guard holds -/
def Ev (gd : Bool) (σ : Sl) (x : Operand) (X : AV) : Prop := evS σ x = some X ∨ ∃ d, evS σ x = some (.opt d X) ∧ (gd = true → d = true)
theorem Ev.plain {gd : Bool} {σ : Sl} {x : Operand} {X : AV} (h : evS σ x = some X) : Ev gd σ x X := .inl h
theorem Ev.opt {gd d : Bool} {σ : Sl} {x : Operand} {X : AV} (h : evS σ x = some (.opt d X)) (hd : gd = true → d = true) : Ev gd σ x X := .inr ⟨d, h, hd⟩
theorem looks_mem {ops : Array Oper} {o : Oper} {t : Tmp} (h : Operand.tmp t ∈ o.op.operands) : t ∈ o.looksAt ops :=
  List.mem_append_left _ (List.mem_filterMap.2 ⟨.tmp t, by simpa using h, rfl⟩)
theorem Ev.rep {gd : Bool} {σ : Sl} {x : Operand} {X : AV} (h : Ev gd σ x X) (hg : gd = true) {β : List Hd} {W : World} {a : Act} {ops : Array Oper} {o : Oper} (hl : LRep β W a σ (o.looksAt ops)) (hx : x ∈ o.op.operands) : VRep β W (a.eval x) X := by
  have key : ∀ Y, evS σ x = some Y → VRep β W (a.eval x) Y := by
    intro Y hY
    cases x with
    | tmp t =>
      obtain ⟨u, h1, h2⟩ := hl t (looks_mem hx) Y hY
      have e : a.eval (.tmp t) = u := by show a.tmps.getD t undef = u; rw [Array.getD_eq_getD_getElem?, h1]; rfl
      rw [e]; exact h2
    | const v => cases hY; exact cAV_rep _ _ _
    | func f => cases hY; exact .fn _ _ _ _ _ rfl rfl (fun j u x h => by simp at h) (fun j u x h => by simp at h)
    | global g => cases hY; exact .raw _
  rcases h with h | ⟨d, h, hd⟩
  · exact key X h
  · have h3 := key _ h
    generalize a.eval x = v at h3
    cases h3 with | opt _ _ _ h2 _ => exact h2 (hd hg)
/-- the guard, as what is known of the slots tells -/
def gdS (ops : Array Oper) (σ : Sl) : Option (Nat × Bool) → Option Bool
  | none => some true
  | some (g, w) => match (ops[g]?).bind (·.dst) with
    | some t => match look σ t with
      | some (.bool b) => some (b == w)
      | some (.opt d (.bool b)) => some (d && (b == w))
      | _ => none
    | none => none
def optA (g : Option (Nat × Bool)) (gd : Bool) (X : AV) : AV := match g with | none => X | some _ => .opt gd X
theorem optN {gd : Bool} {X : AV} : optA none gd X = X := rfl
theorem optS {g : Nat × Bool} {gd : Bool} {X : AV} : optA (some g) gd X = .opt gd X := rfl
theorem gd_wanted {ops : Array Oper} {o : Oper} {σ : Sl} {gd : Bool} (h : gdS ops σ o.guard = some gd) {β : List Hd} {W : World} {a : Act} (hl : LRep β W a σ (o.looksAt ops)) : Region.wanted o (yielded ops a.tmps) = gd := by
  unfold Region.wanted
  cases hg : o.guard with
  | none => rw [hg] at h; simp only [gdS] at h; cases h; rfl
  | some gw =>
    obtain ⟨g, w⟩ := gw
    rw [hg] at h
    simp only [gdS] at h
    cases ht : (ops[g]?).bind (·.dst) with
    | none => rw [ht] at h; cases h
    | some t =>
      rw [ht] at h
      simp only at h
      split at h
      · rename_i b hb
        cases h
        obtain ⟨u, h1, h2⟩ := hl t (by unfold Oper.looksAt; rw [hg]; simp [ht]) _ hb
        obtain rfl := h2.bool_inv
        have hy : yielded ops a.tmps g = some b := by unfold yielded; rw [ht]; simp [h1]
        show (yielded ops a.tmps g == some w) = _
        rw [hy]
        cases b <;> cases w <;> rfl
      · rename_i d b hb
        cases h
        obtain ⟨u, h1, h2⟩ := hl t (by unfold Oper.looksAt; rw [hg]; simp [ht]) _ hb
        show (yielded ops a.tmps g == some w) = _
        cases h2 with
        | opt _ _ _ k1 k2 =>
          cases d with
          | true =>
            obtain rfl := (k1 rfl).bool_inv
            have hy : yielded ops a.tmps g = some b := by unfold yielded; rw [ht]; simp [h1]
            rw [hy]
            cases b <;> cases w <;> rfl
          | false =>
            obtain rfl := k2 rfl
            have hy : yielded ops a.tmps g = none := by unfold yielded; rw [ht]; simp [h1, undef]
            rw [hy]; cases w <;> rfl
      · cases h
/-- an operation that tells a value -/
theorem OpStep.val {P : Program} {ops : Array Oper} {o : Oper} {σ : Sl} {H H' : List AO} {X : AV} {gd : Bool} (hG : gdS ops σ o.guard = some gd) (hH : gd = true ∨ H' = H) (hX : o.guard = none ∨ gd = true → True)
    (h : gd = true → ∀ (a : Act) (W : World) (β : List Hd), HRel β H W → LRep β W a σ (o.looksAt ops) → ∃ v W' β', (execOp a.eval o).run P W = .ok (.value v) W' ∧ Ext β W β' W' ∧ HRel β' H' W' ∧ VRep β' W' v X) :
    OpStep P ops o σ H (optA o.guard gd X) H' := by
  intro a W β hHr hl K Q hK
  rw [gd_wanted hG hl]
  cases gd with
  | true =>
    rw [if_pos rfl]
    obtain ⟨v, W', β', hr, h1, h2, h3⟩ := h rfl a W β hHr hl
    unfold Oper.wp
    rw [hr, Oper.upon_value]
    refine hK v W' β' h1 h2 ?_
    cases o.guard with
    | none => exact h3
    | some g => exact .opt _ _ _ (fun _ => h3) (fun e => by cases e)
  | false =>
    rw [if_neg (by simp)]
    rcases hH with hH | rfl
    · cases hH
    refine hK undef W β (Ext.refl _ _) hHr ?_
    cases hg : o.guard with
    | none => rw [hg] at hG; cases hG
    | some g => exact .opt _ _ _ (fun e => by cases e) (fun _ => rfl)
section
variable {P : Program} {ops : Array Oper} {n : Nat} {QQ : List Kd → Sl → List AO → Prop} {l : List Oper} {ks : List Kd} {σ : Sl} {H : List AO} {o : Oper} {gd : Bool}
/-- a pure operation: its value is known, the world at most grows -/
theorem ARun.val {X Y : AV} {d : Option Tmp} (hd : o.dst = d) (hn : dstLt n d = true) (hG : gdS ops σ o.guard = some gd) (hY : optA o.guard gd X = Y)
    (h : gd = true → ∀ (a : Act) (W : World) (β : List Hd), LRep β W a σ (o.looksAt ops) → ∃ v W', (execOp a.eval o).run P W = .ok (.value v) W' ∧ Below W.heap.size W W' ∧ VRep β W' v X)
    (hr : ARun P ops n QQ l (ks ++ [.pure]) (putS σ d Y) H) : ARun P ops n QQ (o :: l) ks σ H := by
  subst hd; subst hY
  refine ⟨.pure, _, H, hn, ⟨rfl, fun G => OpStep.val hG (.inr rfl) (fun _ => trivial) fun hg a W β hHr hl => ?_⟩, hr⟩
  obtain ⟨v, W', h1, h2, h3⟩ := h hg a W β hl
  exact ⟨v, W', β, h1, Ext.of_below β h2, hHr.below h2, h3⟩
theorem ARun.same {X Y : AV} {d : Option Tmp} (hd : o.dst = d) (hn : dstLt n d = true) (hG : gdS ops σ o.guard = some gd) (hY : optA o.guard gd X = Y)
    (h : gd = true → ∀ (a : Act) (W : World) (β : List Hd), LRep β W a σ (o.looksAt ops) → ∃ v, (execOp a.eval o).run P W = .ok (.value v) W ∧ VRep β W v X)
    (hr : ARun P ops n QQ l (ks ++ [.pure]) (putS σ d Y) H) : ARun P ops n QQ (o :: l) ks σ H :=
  ARun.val hd hn hG hY (fun hg a W β hl => by obtain ⟨v, h1, h2⟩ := h hg a W β hl; exact ⟨v, W, h1, Below.refl _ _, h2⟩) hr
theorem ARun.move {x : Operand} {X Y : AV} {d : Option Tmp} (ho : o.op = .move x ∨ o.op = .assign x) (hd : o.dst = d) (hn : dstLt n d = true) (hG : gdS ops σ o.guard = some gd) (hx : Ev gd σ x X) (hY : optA o.guard gd X = Y)
    (hr : ARun P ops n QQ l (ks ++ [.pure]) (putS σ d Y) H) : ARun P ops n QQ (o :: l) ks σ H := by
  refine ARun.same hd hn hG hY (fun hg a W β hl => ⟨a.eval x, ?_, hx.rep hg hl ?_⟩) hr
  · rcases ho with ho | ho <;> simp [execOp, ho]
  · rcases ho with ho | ho <;> simp [ho, Op.operands]
/-- && and || -/
theorem ARun.pick {c x y : Operand} {cb u v r : Bool} {Y : AV} {d : Option Tmp} (ho : o.op = .pick c x y) (hd : o.dst = d) (hn : dstLt n d = true) (hG : gdS ops σ o.guard = some gd)
    (hc : Ev gd σ c (.bool cb)) (hx : Ev (gd && cb) σ x (.bool u)) (hy : Ev (gd && !cb) σ y (.bool v)) (hb : (bif cb then u else v) = r) (hY : optA o.guard gd (.bool r) = Y)
    (hr : ARun P ops n QQ l (ks ++ [.pure]) (putS σ d Y) H) : ARun P ops n QQ (o :: l) ks σ H := by
  refine ARun.same hd hn hG hY (fun hg a W β hl => ⟨.bool r, ?_, .bool _⟩) hr
  subst hb
  have h1 := (hc.rep hg hl (by simp [ho, Op.operands])).bool_inv
  cases cb with
  | true =>
    have h2 := (hx.rep (by simp [hg]) hl (by simp [ho, Op.operands])).bool_inv
    simp [execOp, ho, h1, h2, asBool]
  | false =>
    have h2 := (hy.rep (by simp [hg]) hl (by simp [ho, Op.operands])).bool_inv
    simp [execOp, ho, h1, h2, asBool]
def arithI : BinOp → Int → Int → Option Int
  | .add, a, b => some (a + b)
  | .sub, a, b => some (a - b)
  | .mul, a, b => some (a * b)
  | _, _, _ => none
/-- + - * -/
theorem ARun.arith {bo : BinOp} {x y : Operand} {t1 t2 : TypeId} {k : IntKind} {i j e r : Int} {Y : AV} {d : Option Tmp} (ho : o.op = .binOp bo t1 x y t2) (hd : o.dst = d) (hn : dstLt n d = true) (hG : gdS ops σ o.guard = some gd)
    (hx : Ev gd σ x (.int k i)) (hy : Ev gd σ y (.int k j)) (he : arithI bo i j = some e) (hw : gd = true → k.wrap e = r) (hY : optA o.guard gd (.int k r) = Y)
    (hr : ARun P ops n QQ l (ks ++ [.pure]) (putS σ d Y) H) : ARun P ops n QQ (o :: l) ks σ H := by
  refine ARun.same hd hn hG hY (fun hg a W β hl => ⟨.int k r, ?_, .int _ _⟩) hr
  rw [← hw hg]
  have h1 := (hx.rep hg hl (by simp [ho, Op.operands])).int_inv
  have h2 := (hy.rep hg hl (by simp [ho, Op.operands])).int_inv
  cases bo <;> cases he <;> simp [execOp, ho, h1, h2, eqGuard, binOp, Op.intArith]
def cmpI : BinOp → Int → Int → Option Bool
  | .eql, a, b => some (decide (a = b))
  | .neq, a, b => some (!decide (a = b))
  | .lss, a, b => some (decide (a < b))
  | .leq, a, b => some (decide (a ≤ b))
  | .gtr, a, b => some (decide (b < a))
  | .geq, a, b => some (decide (b ≤ a))
  | _, _, _ => none
theorem ibeq (a b : Int) : (a == b) = decide (a = b) := rfl
theorem ARun.cmp {bo : BinOp} {x y : Operand} {t1 t2 : TypeId} {k : IntKind} {i j : Int} {r : Bool} {Y : AV} {d : Option Tmp} (ho : o.op = .binOp bo t1 x y t2) (hd : o.dst = d) (hn : dstLt n d = true) (hG : gdS ops σ o.guard = some gd)
    (hx : Ev gd σ x (.int k i)) (hy : Ev gd σ y (.int k j)) (he : cmpI bo i j = some r) (hY : optA o.guard gd (.bool r) = Y)
    (hr : ARun P ops n QQ l (ks ++ [.pure]) (putS σ d Y) H) : ARun P ops n QQ (o :: l) ks σ H := by
  refine ARun.same hd hn hG hY (fun hg a W β hl => ⟨.bool r, ?_, .bool _⟩) hr
  have h1 := (hx.rep hg hl (by simp [ho, Op.operands])).int_inv
  have h2 := (hy.rep hg hl (by simp [ho, Op.operands])).int_inv
  cases bo <;> cases he <;> simp [execOp, ho, h1, h2, eqGuard, binOp, Op.intCmp, ibeq, bne]
def cmpS : BinOp → ByteArray → ByteArray → Option Bool
  | .eql, a, b => some (decide (a = b))
  | .neq, a, b => some (!decide (a = b))
  | _, _, _ => none
theorem toList_beq (s t : ByteArray) : (s.toList == t.toList) = decide (s = t) := by
  by_cases h : s = t
  · subst h; simp
  · rw [decide_eq_false h, beq_eq_false_iff_ne]
    intro e
    apply h
    rw [ByteArray.toList_eq, ByteArray.toList_eq] at e
    exact ByteArray.ext (Array.toList_inj.1 e)
theorem ARun.cmpS {bo : BinOp} {x y : Operand} {t1 t2 : TypeId} {i j : ByteArray} {r : Bool} {Y : AV} {d : Option Tmp} (ho : o.op = .binOp bo t1 x y t2) (hd : o.dst = d) (hn : dstLt n d = true) (hG : gdS ops σ o.guard = some gd)
    (hx : Ev gd σ x (.str i)) (hy : Ev gd σ y (.str j)) (he : cmpS bo i j = some r) (hY : optA o.guard gd (.bool r) = Y)
    (hr : ARun P ops n QQ l (ks ++ [.pure]) (putS σ d Y) H) : ARun P ops n QQ (o :: l) ks σ H := by
  refine ARun.same hd hn hG hY (fun hg a W β hl => ⟨.bool r, ?_, .bool _⟩) hr
  have h1 := (hx.rep hg hl (by simp [ho, Op.operands])).str_inv
  have h2 := (hy.rep hg hl (by simp [ho, Op.operands])).str_inv
  cases bo <;> cases he <;> simp [execOp, ho, h1, h2, eqGuard, binOp, Op.stringOp, toList_beq]
theorem ARun.cat {x y : Operand} {t1 t2 : TypeId} {i j : ByteArray} {Y : AV} {d : Option Tmp} (ho : o.op = .binOp .add t1 x y t2) (hd : o.dst = d) (hn : dstLt n d = true) (hG : gdS ops σ o.guard = some gd)
    (hx : Ev gd σ x (.str i)) (hy : Ev gd σ y (.str j)) (hs : gd = true → i.size + j.size ≤ 9223372036854775807) (hY : optA o.guard gd (.str (i ++ j)) = Y)
    (hr : ARun P ops n QQ l (ks ++ [.pure]) (putS σ d Y) H) : ARun P ops n QQ (o :: l) ks σ H := by
  refine ARun.same hd hn hG hY (fun hg a W β hl => ⟨.string (i ++ j), ?_, .str _⟩) hr
  have h1 := (hx.rep hg hl (by simp [ho, Op.operands])).str_inv
  have h2 := (hy.rep hg hl (by simp [ho, Op.operands])).str_inv
  have h3 := hs hg
  have h4 : (i.size : Int) + (j.size : Int) ≤ 9223372036854775807 := by omega
  simp [execOp, ho, h1, h2, eqGuard, binOp, Op.stringOp, IntKind.max, IntKind.signed, IntKind.bits, h4]
theorem ARun.not {x : Operand} {t1 : TypeId} {b : Bool} {Y : AV} {d : Option Tmp} (ho : o.op = .unOp .not t1 x) (hd : o.dst = d) (hn : dstLt n d = true) (hG : gdS ops σ o.guard = some gd)
    (hx : Ev gd σ x (.bool b)) (hY : optA o.guard gd (.bool (!b)) = Y)
    (hr : ARun P ops n QQ l (ks ++ [.pure]) (putS σ d Y) H) : ARun P ops n QQ (o :: l) ks σ H := by
  refine ARun.same hd hn hG hY (fun hg a W β hl => ⟨.bool (!b), ?_, .bool _⟩) hr
  have h1 := (hx.rep hg hl (by simp [ho, Op.operands])).bool_inv
  simp [execOp, ho, h1, Op.unary]
theorem ARun.extract {x : Operand} {xs : List AV} {i : Nat} {X Y : AV} {d : Option Tmp} (ho : o.op = .extract x i) (hd : o.dst = d) (hn : dstLt n d = true) (hG : gdS ops σ o.guard = some gd)
    (hx : Ev gd σ x (.tup xs)) (hi : xs[i]? = some X) (hY : optA o.guard gd X = Y)
    (hr : ARun P ops n QQ l (ks ++ [.pure]) (putS σ d Y) H) : ARun P ops n QQ (o :: l) ks σ H := by
  refine ARun.same hd hn hG hY (fun hg a W β hl => ?_) hr
  have h0 := hx.rep hg hl (by simp [ho, Op.operands])
  generalize hv : a.eval x = v at h0
  cases h0 with
  | tup vs _ hl2 h =>
    have hlt : i < vs.size := by rw [hl2]; exact (List.getElem?_eq_some_iff.1 hi).1
    refine ⟨vs[i], ?_, h i _ _ (Array.getElem?_eq_getElem hlt) hi⟩
    simp [execOp, ho, hv, Instr.extract, hlt]
theorem goInt_run (k : Nat) : goInt k = .int .i64 k := rfl
theorem ARun.lenStr {x : Operand} {t : TypeId} {s : ByteArray} {Y : AV} {d : Option Tmp} (ho : o.op = .call { callee := .builtin .len, args := #[x], argTypes := #[t] }) (hd : o.dst = d) (hn : dstLt n d = true) (hG : gdS ops σ o.guard = some gd)
    (hu : P.underlying t = some .string) (hx : Ev gd σ x (.str s)) (hY : optA o.guard gd (.int .i64 (s.size : Int)) = Y)
    (hr : ARun P ops n QQ l (ks ++ [.pure]) (putS σ d Y) H) : ARun P ops n QQ (o :: l) ks σ H := by
  refine ARun.same hd hn hG hY (fun hg a W β hl => ⟨.int .i64 s.size, ?_, .int _ _⟩) hr
  have h1 := (hx.rep hg hl (by simp [ho, Op.operands, Call.operands])).str_inv
  simp [execOp, ho, resolve, h1, invoke, builtin, Builtin.len_, run_underlying hu, goInt_run]
theorem ARun.lenSl {x : Operand} {t e : TypeId} {xs : List AV} {Y : AV} {d : Option Tmp} (ho : o.op = .call { callee := .builtin .len, args := #[x], argTypes := #[t] }) (hd : o.dst = d) (hn : dstLt n d = true) (hG : gdS ops σ o.guard = some gd)
    (hu : P.underlying t = some (.slice e)) (hx : Ev gd σ x (.sl xs)) (hY : optA o.guard gd (.int .i64 (xs.length : Int)) = Y)
    (hr : ARun P ops n QQ l (ks ++ [.pure]) (putS σ d Y) H) : ARun P ops n QQ (o :: l) ks σ H := by
  refine ARun.same hd hn hG hY (fun hg a W β hl => ⟨.int .i64 xs.length, ?_, .int _ _⟩) hr
  have h0 := hx.rep hg hl (by simp [ho, Op.operands, Call.operands])
  generalize hv : a.eval x = v at h0
  cases h0 <;> simp [execOp, ho, resolve, hv, invoke, builtin, Builtin.len_, run_underlying hu, goInt_run]
theorem pkT {g c : Bool} : (g && c) = true → (c == true) = true := by cases g <;> cases c <;> decide
theorem pkF {g c : Bool} : (g && !c) = true → (c == false) = true := by cases g <;> cases c <;> decide
theorem pkT2 {g c : Bool} : (g && c) = true → (g && (c == true)) = true := by cases g <;> cases c <;> decide
theorem pkF2 {g c : Bool} : (g && !c) = true → (g && (c == false)) = true := by cases g <;> cases c <;> decide
theorem andB (c u : Bool) : (bif c then u else false) = (c && u) := by cases c <;> rfl
theorem orB (c u : Bool) : (bif c then true else u) = (c || u) := by cases c <;> rfl
theorem i64w {a : Int} (h : -9223372036854775808 ≤ a ∧ a ≤ 9223372036854775807) : IntKind.i64.wrap a = a := IntWalk.i64_in _ h
/-- the bools -/
def cmpB : BinOp → Bool → Bool → Option Bool
  | .eql, a, b => some (a == b)
  | .neq, a, b => some (a != b)
  | _, _, _ => none
theorem ARun.minmax {x y : Operand} {b : Builtin} {ts : Array TypeId} {k : IntKind} {i j r : Int} {Y : AV} {d : Option Tmp} (ho : o.op = .call { callee := .builtin b, args := #[x, y], argTypes := ts }) (hd : o.dst = d) (hn : dstLt n d = true) (hG : gdS ops σ o.guard = some gd)
    (hx : Ev gd σ x (.int k i)) (hy : Ev gd σ y (.int k j)) (hb : (b = .min ∧ r = min i j) ∨ (b = .max ∧ r = max i j)) (hY : optA o.guard gd (.int k r) = Y)
    (hr : ARun P ops n QQ l (ks ++ [.pure]) (putS σ d Y) H) : ARun P ops n QQ (o :: l) ks σ H := by
  refine ARun.same hd hn hG hY (fun hg a W β hl => ⟨.int k r, ?_, .int _ _⟩) hr
  have h1 := (hx.rep hg hl (by simp [ho, Op.operands, Call.operands])).int_inv
  have h2 := (hy.rep hg hl (by simp [ho, Op.operands, Call.operands])).int_inv
  rcases hb with ⟨rfl, rfl⟩ | ⟨rfl, rfl⟩
  · have : (if j < i then j else i) = min i j := by omega
    have hm : (Builtin.min_ ts o.type #[.int k i, .int k j]).run P W = .ok (.int k (min i j)) W := by simp [go_sem, this]
    simp [execOp, ho, resolve, h1, h2, invoke, builtin, hm]
  · have : (if i < j then j else i) = max i j := by omega
    have hm : (Builtin.max_ ts o.type #[.int k i, .int k j]).run P W = .ok (.int k (max i j)) W := by simp [go_sem, this]
    simp [execOp, ho, resolve, h1, h2, invoke, builtin, hm]
end
end Go.Proofs.Ytopmppnnihdnaaa
