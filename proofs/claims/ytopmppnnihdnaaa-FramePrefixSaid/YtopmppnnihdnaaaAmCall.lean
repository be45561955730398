/- The abstract machine: slices that are made, calls, texts cut. -/
import Derived.Test.YtopmppnnihdnaaaAmMake
namespace Go.Proofs.Ytopmppnnihdnaaa
set_option linter.unusedVariables false
set_option linter.unusedSimpArgs false
open Go.RowKit
theorem CRep.newrow {β : List Hd} {W : World} {vs : Array Value} {C : List AV} {xs : List AV} {z : Nat} {t : TypeId} (hβ : ∀ h, h ∈ β → ∀ b, b ∈ h.blks → b < W.heap.size) (h : CRep β W vs C) (hC : C = xs.flatMap AV.cells) (hz : ∀ x, x ∈ xs → x.cells.length = z) (hm : xs.length ≤ maxLen) :
    VRep β (W.alloc (.cells vs t)) (.slice (some ⟨W.heap.size, 0, none⟩) xs.length xs.length) (.sl xs) := by
  have hget : ∀ (ys : List AV), (∀ x, x ∈ ys → x.cells.length = z) → ∀ (i j : Nat) (x y : AV), ys[i]? = some x → x.cells[j]? = some y → (ys.flatMap AV.cells)[i * z + j]? = some y := by
    intro ys
    induction ys with
    | nil => intro _ i j x y h1; simp at h1
    | cons x0 ys ih =>
      intro hz2 i j x y h1 h2
      rw [List.flatMap_cons]
      have hl0 := hz2 x0 List.mem_cons_self
      cases i with
      | zero =>
        simp at h1; subst h1
        have hj := (List.getElem?_eq_some_iff.1 h2).1
        rw [Nat.zero_mul, Nat.zero_add, List.getElem?_append_left hj]; exact h2
      | succ i =>
        rw [List.getElem?_append_right (by rw [hl0, Nat.add_mul]; omega), hl0, show (i + 1) * z + j - z = i * z + j by rw [Nat.add_mul]; omega]
        exact ih (fun x hx => hz2 x (List.mem_cons_of_mem _ hx)) i j x y (by simpa using h1) h2
  have hcell : ∀ q, (W.alloc (.cells vs t)).cell? ⟨W.heap.size, q, none⟩ = vs[q]? := fun q => World.cell?_alloc_new _ _ _ _
  have hext : Ext β W β (W.alloc (.cells vs t)) := Ext.of_below β ((Below.refl _ _).alloc (Nat.le_refl _) _)
  refine .sl W.heap.size 0 xs.length z xs (Nat.le_refl _) hm (by simp) (fun y hy e => by have := hβ y hy _ e; omega) hz (fun i j x y h1 h2 => ?_) (fun i j x y u h1 h2 h3 => ?_)
  · have h4 := hget xs hz i j x y h1 h2
    rw [← hC] at h4
    have hlt : i * z + j < vs.size := by rw [h.1]; exact (List.getElem?_eq_some_iff.1 h4).1
    exact ⟨_, by rw [Nat.zero_add, hcell]; exact Array.getElem?_eq_getElem hlt⟩
  · have h4 := hget xs hz i j x y h1 h2
    rw [← hC] at h4
    rw [Nat.zero_add, hcell] at h3
    exact (h.2 _ u y h3 h4).ext hext
theorem zeros_eq (zv : Value) (n : Nat) : ((Array.range n).map (zv.cells[· % zv.cells.size]!)).toList.map cAV = (List.range n).map fun j => cAV (zv.cells.toList.getD (j % zv.cells.size) default) := by
  rw [Array.toList_map, Array.toList_range, List.map_map]
  apply List.map_congr_left
  intro j _
  simp only [Function.comp]
  congr 1
  rw [getElem!_def, List.getD]
  by_cases h : j % zv.cells.size < zv.cells.size
  · rw [Array.getElem?_eq_getElem h, List.getElem?_eq_getElem (by simpa using h)]; simp
  · rw [Array.getElem?_eq_none (by omega), List.getElem?_eq_none (by simpa using h)]; rfl
section
variable {P : Program} {ops : Array Oper} {n m : Nat} {QQ : List Kd → Sl → List AO → Prop} {l : List Oper} {ks : List Kd} {σ : Sl} {G L H : List AO} {o : Oper} {gd : Bool}
/-- a pure operation that needs to know that what stands for things lies below -/
theorem ARun.valH {X Y : AV} {d : Option Tmp} (hd : o.dst = d) (hn : dstLt n d = true) (hG : gdS ops σ o.guard = some gd) (hY : optA o.guard gd X = Y)
    (h : gd = true → ∀ (a : Act) (W : World) (β : List Hd), (∀ h, h ∈ β → ∀ b, b ∈ h.blks → b < W.heap.size) → LRep β W a σ (o.looksAt ops) → ∃ v W', (execOp a.eval o).run P W = .ok (.value v) W' ∧ Below W.heap.size W W' ∧ VRep β W' v X)
    (hr : ARun P ops n QQ l (ks ++ [.pure]) (putS σ d Y) H) : ARun P ops n QQ (o :: l) ks σ H := by
  subst hd; subst hY
  refine ⟨.pure, _, H, hn, ⟨rfl, fun G => OpStep.val hG (.inr rfl) (fun _ => trivial) fun hg a W β hHr hl => ?_⟩, hr⟩
  obtain ⟨v, W', h1, h2, h3⟩ := h hg a W β (fun y hy b hb => by
    obtain ⟨i, hi, rfl⟩ := List.mem_iff_getElem.1 hy
    exact hHr.lt (List.getElem?_eq_getElem hi) hb) hl
  exact ⟨v, W', β, h1, Ext.of_below β h2, hHr.below h2, h3⟩
/-- a slice's literal -/
theorem ARun.buildSl {t e : TypeId} {len : Nat} {parts : Array (Nat × Operand)} {ps : List (Nat × AV)} {z : Nat} {zv : Value} {C xs : List AV} {Y : AV} {d : Option Tmp} (ho : o.op = .buildSlice t len parts) (hd : o.dst = d) (hn : dstLt n d = true) (hG : gdS ops σ o.guard = some gd)
    (hu : P.underlying t = some (.slice e)) (hz : Sz P e z) (hzv : Zv P e zv) (hzs : zv.cells.size = z) (hbig : len * z ≤ 2 ^ 24)
    (hx : EvP gd σ parts.toList ps) (hs : (ps.all fun p => shaped p.2) = true) (hxs : ps.map (·.2) = xs) (hlen : xs.length = len) (hall : (xs.all fun x => Nat.beq x.cells.length z) = true) (hm : len ≤ maxLen)
    (hC : fillA (fun i => some (i * z, z)) ((List.range (len * z)).map fun j => cAV (zv.cells.toList.getD (j % zv.cells.size) default)) ps = some C) (hCx : C = xs.flatMap AV.cells) (hY : optA o.guard gd (.sl xs) = Y)
    (hr : ARun P ops n QQ l (ks ++ [.pure]) (putS σ d Y) H) : ARun P ops n QQ (o :: l) ks σ H := by
  rw [← zeros_eq] at hC
  refine ARun.valH hd hn hG hY (fun hg a W β hβ hl => ?_) hr
  obtain ⟨vs', h1, h2⟩ := fill_rep (β := β) (w := W) (a := a) (fun i => some (i * z, z)) parts.toList ps hx (EvP.looks hg hl (by simp [ho, Op.operands])) hs _ _ C (CRep.zero β W ((Array.range (len * z)).map (zv.cells[· % zv.cells.size]!))) hC
  refine ⟨.slice (some ⟨W.heap.size, 0, none⟩) len len, W.alloc (.cells vs' e), ?_, (Below.refl _ _).alloc (Nat.le_refl _) _, ?_⟩
  · have hnb : ¬ len * z > 2 ^ 24 := by omega
    by_cases h0 : len * z = 0
    · have e1 : ((Array.range (len * z)).map (zv.cells[· % zv.cells.size]!)) = (#[] : Array Value) := by rw [h0]; simp
      rw [e1] at h1
      have e2 : Array.range 0 = #[] := rfl
      simp [execOp, ho, Instr.buildSlice, run_underlying hu, hz.run, h0, h1, e2, newRow]
    · simp [execOp, ho, Instr.buildSlice, run_underlying hu, hz.run, h0, hnb, hzv.run, h1, newRow]
  · have := CRep.newrow (t := e) (xs := xs) (z := z) hβ h2 hCx (fun x hx => Nat.eq_of_beq_eq_true (List.all_eq_true.1 hall x hx)) (by omega)
    rw [hlen] at this
    exact this
theorem ARun.makeFunc {fn : Fn} {fs cs : Array Operand} {xs ys : List AV} {Y : AV} {d : Option Tmp} (ho : o.op = .makeFunc fn fs cs) (hd : o.dst = d) (hn : dstLt n d = true) (hG : gdS ops σ o.guard = some gd)
    (hx : EvL gd σ fs.toList xs) (hy : EvL gd σ cs.toList ys) (hY : optA o.guard gd (.fn fn xs ys) = Y)
    (hr : ARun P ops n QQ l (ks ++ [.pure]) (putS σ d Y) H) : ARun P ops n QQ (o :: l) ks σ H := by
  have key : ∀ (l : List Operand) (xs : List AV), EvL gd σ l xs → l.length = xs.length ∧ ∀ (j : Nat) (x : Operand) (X : AV), l[j]? = some x → xs[j]? = some X → Ev gd σ x X := by
    intro l xs h
    induction h with
    | nil => exact ⟨rfl, fun j x X h => by simp at h⟩
    | cons h t ih =>
      refine ⟨by simp [ih.1], fun j x X h1 h2 => ?_⟩
      cases j with
      | zero => simp at h1 h2; subst h1; subst h2; exact h
      | succ j => exact ih.2 j x X (by simpa using h1) (by simpa using h2)
  obtain ⟨k1, k2⟩ := key _ _ hx
  obtain ⟨k3, k4⟩ := key _ _ hy
  refine ARun.same hd hn hG hY (fun hg a W β hl => ⟨.func fn (fs.map a.eval) (cs.map a.eval), ?_, ?_⟩) hr
  · simp [execOp, ho, Instr.makeFunc]
  · refine .fn _ _ _ _ _ (by simpa using k1) (by simpa using k3) (fun j u X h1 h2 => ?_) (fun j u X h1 h2 => ?_)
    · simp only [Array.getElem?_map, Option.map_eq_some_iff] at h1
      obtain ⟨x, hx1, rfl⟩ := h1
      have hx2 : fs.toList[j]? = some x := by simpa using hx1
      exact (k2 j x X hx2 h2).rep hg hl (by simp only [ho, Op.operands]; exact Array.mem_append.2 (.inl (Array.mem_of_getElem? hx1)))
    · simp only [Array.getElem?_map, Option.map_eq_some_iff] at h1
      obtain ⟨x, hx1, rfl⟩ := h1
      have hx2 : cs.toList[j]? = some x := by simpa using hx1
      exact (k4 j x X hx2 h2).rep hg hl (by simp only [ho, Op.operands]; exact Array.mem_append.2 (.inr (Array.mem_of_getElem? hx1)))
theorem ARun.iface {t : TypeId} {x : Operand} {X Y : AV} {d : Option Tmp} (ho : o.op = .makeInterface t x) (hd : o.dst = d) (hn : dstLt n d = true) (hG : gdS ops σ o.guard = some gd) (hc : P.concrete t = true)
    (hx : Ev gd σ x X) (hY : optA o.guard gd (.ifc t X) = Y)
    (hr : ARun P ops n QQ l (ks ++ [.pure]) (putS σ d Y) H) : ARun P ops n QQ (o :: l) ks σ H := by
  refine ARun.same hd hn hG hY (fun hg a W β hl => ⟨.iface t (a.eval x), ?_, .ifc _ _ _ (hx.rep hg hl (by simp [ho, Op.operands]))⟩) hr
  simp [execOp, ho, run_makeInterface W t _ hc]
/-- what is called -/
inductive EvF (gd : Bool) (σ : Sl) : Operand → FuncId → List AV → List AV → Prop where
  | fn {x : Operand} {f : FuncId} {fs cs : List AV} (h : Ev gd σ x (.fn (.func f) fs cs)) : EvF gd σ x f fs cs
theorem EvL.reps {β : List Hd} {W : World} {a : Act} : ∀ {ls : List Operand} {xs : List AV}, EvL gd σ ls xs → (∀ x, x ∈ ls → ∀ X, Ev gd σ x X → VRep β W (a.eval x) X) → (ls.map a.eval).length = xs.length ∧ ∀ (j : Nat) (u : Value) (x : AV), (ls.map a.eval)[j]? = some u → xs[j]? = some x → VRep β W u x := by
  intro ls xs h
  induction h with
  | nil => intro _; exact ⟨rfl, fun j u x h => by simp at h⟩
  | cons h t ih =>
    intro hr
    obtain ⟨i1, i2⟩ := ih (fun x hx => hr x (List.mem_cons_of_mem _ hx))
    refine ⟨by simpa using i1, fun j u x h1 h2 => ?_⟩
    cases j with
    | zero => simp at h1 h2; subst h1; subst h2; exact hr _ List.mem_cons_self _ h
    | succ j => exact i2 j u x (by simpa using h1) (by simpa using h2)
theorem reps_append {β : List Hd} {W : World} {us vs : List Value} {xs ys : List AV} (h : us.length = xs.length ∧ ∀ (j : Nat) (u : Value) (x : AV), us[j]? = some u → xs[j]? = some x → VRep β W u x)
    (k : vs.length = ys.length ∧ ∀ (j : Nat) (u : Value) (x : AV), vs[j]? = some u → ys[j]? = some x → VRep β W u x) : (us ++ vs).length = (xs ++ ys).length ∧ ∀ (j : Nat) (u : Value) (x : AV), (us ++ vs)[j]? = some u → (xs ++ ys)[j]? = some x → VRep β W u x := by
  refine ⟨by simp [h.1, k.1], fun j u x h1 h2 => ?_⟩
  by_cases hj : j < us.length
  · rw [List.getElem?_append_left hj] at h1
    rw [List.getElem?_append_left (by rw [← h.1]; exact hj)] at h2
    exact h.2 j u x h1 h2
  · rw [List.getElem?_append_right (by omega)] at h1
    rw [List.getElem?_append_right (by rw [← h.1]; omega), ← h.1] at h2
    exact k.2 _ u x h1 h2
theorem call_step {f : Operand} {args : Array Operand} {ats : Array TypeId} {F : FuncId} {fs cs xs : List AV} {r : AV} {H H' : List AO} (ho : o.op = .call { callee := .value f, args := args, argTypes := ats }) (hG : gdS ops σ o.guard = some gd) (hH : gd = true ∨ H' = H)
    (hcf : ∀ (as : Array Value) (W : World), (callFunc F as).run P W = .ok (.enter F as) W)
    (hf : Ev gd σ f (.fn (.func F) fs cs)) (hx : EvL gd σ args.toList xs) (hF : gd = true → FnH P F (fs ++ xs ++ cs) H r H') : OpStep P ops o σ H (optA o.guard gd r) H' := by
  intro a W β hHr hl K Q hK
  rw [gd_wanted hG hl]
  cases gd with
  | false =>
    rw [if_neg (by simp)]
    rcases hH with hH | rfl
    · cases hH
    refine hK undef W β (Ext.refl _ _) hHr ?_
    cases hg : o.guard with
    | none => rw [hg] at hG; cases hG
    | some g => exact .opt _ _ _ (fun e => by cases e) (fun _ => rfl)
  | true =>
    rw [if_pos rfl]
    have h0 := hf.rep rfl hl (by simp [ho, Op.operands, Call.operands])
    generalize hv : a.eval f = v at h0
    cases h0 with
    | fn _ us vs _ _ hl1 hl2 h1 h2 =>
      have ha := EvL.reps (β := β) (W := W) (a := a) hx (fun x hx X h => h.rep rfl hl (by simp only [ho, Op.operands, Call.operands]; exact Array.mem_append.2 (.inr (by simpa using hx))))
      have hus : us.toList.length = fs.length ∧ ∀ (j : Nat) (u : Value) (x : AV), us.toList[j]? = some u → fs[j]? = some x → VRep β W u x := ⟨by simpa using hl1, fun j u x p q => h1 j u x (by simpa using p) q⟩
      have hvs : vs.toList.length = cs.length ∧ ∀ (j : Nat) (u : Value) (x : AV), vs.toList[j]? = some u → cs[j]? = some x → VRep β W u x := ⟨by simpa using hl2, fun j u x p q => h2 j u x (by simpa using p) q⟩
      have hall := reps_append (reps_append hus ha) hvs
      have hrun : (execOp a.eval o).run P W = .ok (.enter F (us ++ args.map a.eval ++ vs)) W := by
        simp [execOp, ho, resolve, hv, Deferred.ofValue, invoke, hcf]
      unfold Oper.wp
      rw [hrun, Oper.upon_enter]
      refine (hF rfl W β (us ++ args.map a.eval ++ vs) hHr ⟨?_, ?_⟩).mono ?_
      · rw [← Array.length_toList]; simpa using hall.1
      · intro j u x p q
        exact hall.2 j u x (by rw [← Array.getElem?_toList] at p; simpa using p) q
      · rintro e w' ⟨v', β', rfl, k1, k2, k3⟩
        refine hK v' w' β' k1 k2 ?_
        cases o.guard with
        | none => exact k3
        | some g => exact .opt _ _ _ (fun _ => k3) (fun e => by cases e)
theorem callP_step {f : Operand} {args : Array Operand} {ats : Array TypeId} {F : FuncId} {fs cs xs : List AV} {r : AV} {H : List AO} (ho : o.op = .call { callee := .value f, args := args, argTypes := ats }) (hG : gdS ops σ o.guard = some gd)
    (hcf : ∀ (as : Array Value) (W : World), (callFunc F as).run P W = .ok (.enter F as) W)
    (hf : Ev gd σ f (.fn (.func F) fs cs)) (hx : EvL gd σ args.toList xs) (hF : gd = true → FnP P F (fs ++ xs ++ cs) r) : OpStep P ops o σ H (optA o.guard gd r) H := by
  intro a W β hHr hl K Q hK
  rw [gd_wanted hG hl]
  cases gd with
  | false =>
    rw [if_neg (by simp)]
    refine hK undef W β (Ext.refl _ _) hHr ?_
    cases hg : o.guard with
    | none => rw [hg] at hG; cases hG
    | some g => exact .opt _ _ _ (fun e => by cases e) (fun _ => rfl)
  | true =>
    rw [if_pos rfl]
    have h0 := hf.rep rfl hl (by simp [ho, Op.operands, Call.operands])
    generalize hv : a.eval f = v at h0
    cases h0 with
    | fn _ us vs _ _ hl1 hl2 h1 h2 =>
      have ha := EvL.reps (β := β) (W := W) (a := a) hx (fun x hx X h => h.rep rfl hl (by simp only [ho, Op.operands, Call.operands]; exact Array.mem_append.2 (.inr (by simpa using hx))))
      have hus : us.toList.length = fs.length ∧ ∀ (j : Nat) (u : Value) (x : AV), us.toList[j]? = some u → fs[j]? = some x → VRep β W u x := ⟨by simpa using hl1, fun j u x p q => h1 j u x (by simpa using p) q⟩
      have hvs : vs.toList.length = cs.length ∧ ∀ (j : Nat) (u : Value) (x : AV), vs.toList[j]? = some u → cs[j]? = some x → VRep β W u x := ⟨by simpa using hl2, fun j u x p q => h2 j u x (by simpa using p) q⟩
      have hall := reps_append (reps_append hus ha) hvs
      have hrun : (execOp a.eval o).run P W = .ok (.enter F (us ++ args.map a.eval ++ vs)) W := by
        simp [execOp, ho, resolve, hv, Deferred.ofValue, invoke, hcf]
      unfold Oper.wp
      rw [hrun, Oper.upon_enter]
      refine (pure_call (hF rfl) hHr (vs := us ++ args.map a.eval ++ vs) ⟨?_, ?_⟩).mono ?_
      · rw [← Array.length_toList]; simpa using hall.1
      · intro j u x p q
        exact hall.2 j u x (by rw [← Array.getElem?_toList] at p; simpa using p) q
      · rintro e w' ⟨v', rfl, k1, k3⟩
        refine hK v' w' β (Ext.of_below β k1) (hHr.below k1) ?_
        cases o.guard with
        | none => exact k3
        | some g => exact .opt _ _ _ (fun _ => k3) (fun e => by cases e)
/-- a call that leaves what may be written -/
theorem ARun.call {f : Operand} {args : Array Operand} {ats : Array TypeId} {F : FuncId} {fs cs xs as : List AV} {r Y : AV} {d : Option Tmp} (ho : o.op = .call { callee := .value f, args := args, argTypes := ats }) (hd : o.dst = d) (hn : dstLt n d = true) (hG : gdS ops σ o.guard = some gd)
    (hcf : ∀ (as : Array Value) (W : World), (callFunc F as).run P W = .ok (.enter F as) W)
    (hf : Ev gd σ f (.fn (.func F) fs cs)) (hx : EvL gd σ args.toList xs) (has : fs ++ xs ++ cs = as) (hF : gd = true → FnP P F as r) (hY : optA o.guard gd r = Y)
    (hr : ARun P ops n QQ l (ks ++ [.pure]) (putS σ d Y) H) : ARun P ops n QQ (o :: l) ks σ H := by
  subst hd; subst hY; subst has
  exact ⟨.pure, _, H, hn, ⟨rfl, fun G => callP_step ho hG hcf hf hx hF⟩, hr⟩
/-- a call that writes -/
theorem ARun.callH {f : Operand} {args : Array Operand} {ats : Array TypeId} {F : FuncId} {fs cs xs as : List AV} {r Y : AV} {d : Option Tmp} {H' : List AO} (ho : o.op = .call { callee := .value f, args := args, argTypes := ats }) (hd : o.dst = d) (hn : dstLt n d = true) (hG : gdS ops σ o.guard = some true)
    (hcf : ∀ (as : Array Value) (W : World), (callFunc F as).run P W = .ok (.enter F as) W)
    (hf : Ev true σ f (.fn (.func F) fs cs)) (hx : EvL true σ args.toList xs) (has : fs ++ xs ++ cs = as) (hF : FnH P F as H r H') (hY : optA o.guard true r = Y)
    (hr : ARun P ops n QQ l (ks ++ [.write]) (putS σ d Y) H') : ARun P ops n QQ (o :: l) ks σ H := by
  subst hd; subst hY; subst has
  exact ⟨.write, _, H', hn, call_step ho hG (.inl rfl) hcf hf hx (fun _ => hF), hr⟩
/-! ### texts and slices, cut -/
def BO (gd : Bool) (σ : Sl) (x : Option Operand) (dflt l : Nat) : Prop := match x with
  | none => gd = true → l = dflt
  | some x => ∃ k i, Ev gd σ x (.int k i) ∧ (gd = true → i = (l : Int))
theorem bound_run {P : Program} {W : World} (k : IntKind) (l y : Nat) (code : BoundsCode) (h : l ≤ y) : (Instr.sliceBound (.int k (l : Int)) y code).run P W = .ok l W := by
  unfold Instr.sliceBound
  simp [asIntOf, h]
theorem bounds_run {P : Program} {W : World} {gd : Bool} {σ : Sl} {lo hi : Option Operand} {s : Bool} {len cap a b : Nat} {act : Act} (hg : gd = true) (hlo : BO gd σ lo 0 a) (hhi : BO gd σ hi len b) (h1 : a ≤ b) (h2 : b ≤ cap) {β : List Hd}
    (hr : ∀ x, (lo = some x ∨ hi = some x) → ∀ X, Ev gd σ x X → VRep β W (act.eval x) X) : (Instr.sliceBounds s len cap (lo.map act.eval) (hi.map act.eval) none).run P W = .ok (a, b, cap) W := by
  unfold Instr.sliceBounds
  cases lo with
  | none =>
    have ha : a = 0 := hlo hg
    subst ha
    cases hi with
    | none =>
      have hb : b = len := hhi hg
      subst hb
      simp
    | some y =>
      obtain ⟨k, i, e1, e2⟩ := hhi
      have e3 := (hr y (.inr rfl) _ e1).int_inv
      rw [e2 hg] at e3
      simp [e3, bound_run _ _ _ _ h2]
  | some x =>
    obtain ⟨k, i, e1, e2⟩ := hlo
    have e3 := (hr x (.inl rfl) _ e1).int_inv
    rw [e2 hg] at e3
    cases hi with
    | none =>
      have hb : b = len := hhi hg
      subst hb
      simp [e3, bound_run _ _ _ _ h1]
    | some y =>
      obtain ⟨k', i', f1, f2⟩ := hhi
      have f3 := (hr y (.inr rfl) _ f1).int_inv
      rw [f2 hg] at f3
      simp [e3, f3, bound_run _ _ _ _ h2, bound_run _ _ _ _ h1]
theorem ARun.cutStr {t : TypeId} {x : Operand} {lo hi : Option Operand} {a b : Nat} {s r : ByteArray} {Y : AV} {d : Option Tmp} (ho : o.op = .slice t x lo hi none) (hd : o.dst = d) (hn : dstLt n d = true) (hG : gdS ops σ o.guard = some gd)
    (hu : P.underlying t = some .string) (hx : Ev gd σ x (.str s)) (hlo : BO gd σ lo 0 a) (hhi : BO gd σ hi s.size b) (h1 : gd = true → a ≤ b ∧ b ≤ s.size) (hr' : s.extract a b = r) (hY : optA o.guard gd (.str r) = Y)
    (hr : ARun P ops n QQ l (ks ++ [.pure]) (putS σ d Y) H) : ARun P ops n QQ (o :: l) ks σ H := by
  refine ARun.same hd hn hG hY (fun hg act W β hl => ⟨.string r, ?_, .str _⟩) hr
  have h0 := (hx.rep hg hl (by simp [ho, Op.operands])).str_inv
  have hb := bounds_run (P := P) (W := W) (s := false) (β := β) (act := act) hg hlo hhi (h1 hg).1 (h1 hg).2 (fun y hy X hX => hX.rep hg hl (by rcases hy with rfl | rfl <;> simp [ho, Op.operands]))
  simp [execOp, ho, h0, Instr.sliceAt, Instr.slice, run_underlying hu, hb, hr']
theorem ARun.cutSl {t e : TypeId} {x : Operand} {lo hi : Option Operand} {a b z : Nat} {xs r : List AV} {Y : AV} {d : Option Tmp} (ho : o.op = .slice t x lo hi none) (hd : o.dst = d) (hn : dstLt n d = true) (hG : gdS ops σ o.guard = some gd)
    (hu : P.underlying t = some (.slice e)) (hz : Sz P e z) (hx : Ev gd σ x (.sl xs)) (hxz : gd = true → ∀ x, x ∈ xs → x.cells.length = z) (hlo : BO gd σ lo 0 a) (hhi : BO gd σ hi xs.length b) (h1 : gd = true → a ≤ b ∧ b ≤ xs.length) (hr' : (xs.take b).drop a = r) (hY : optA o.guard gd (.sl r) = Y)
    (hr : ARun P ops n QQ l (ks ++ [.pure]) (putS σ d Y) H) : ARun P ops n QQ (o :: l) ks σ H := by
  refine ARun.same hd hn hG hY (fun hg act W β hl => ?_) hr
  have h0 := hx.rep hg hl (by simp [ho, Op.operands])
  obtain ⟨hab, hbn⟩ := h1 hg
  generalize hv : act.eval x = v at h0
  subst hr'
  cases h0 with
  | slnil =>
    have hb0 : b = 0 := by simpa using hbn
    have ha0 : a = 0 := by omega
    subst hb0; subst ha0
    have hb := bounds_run (P := P) (W := W) (s := true) (cap := 0) (β := β) (act := act) hg hlo hhi (Nat.le_refl _) (Nat.le_refl _) (fun y hy X hX => hX.rep hg hl (by rcases hy with rfl | rfl <;> simp [ho, Op.operands]))
    refine ⟨.slice none 0 0, ?_, .slnil⟩
    simp only [List.length_nil] at hb
    simp [execOp, ho, hv, Instr.sliceAt, Instr.slice, run_underlying hu, hb, hz.run]
  | slemp p cap hm =>
    have hb0 : b = 0 := by simpa using hbn
    have ha0 : a = 0 := by omega
    subst hb0; subst ha0
    have hb := bounds_run (P := P) (W := W) (s := true) (cap := cap) (β := β) (act := act) hg hlo hhi (Nat.le_refl _) (Nat.zero_le _) (fun y hy X hX => hX.rep hg hl (by rcases hy with rfl | rfl <;> simp [ho, Op.operands]))
    simp only [List.length_nil] at hb
    by_cases hca : cap = 0
    · subst hca
      refine ⟨.slice (some p) 0 0, ?_, .slemp p 0 (Nat.zero_le _)⟩
      simp [execOp, ho, hv, Instr.sliceAt, Instr.slice, run_underlying hu, hb, hz.run]
    · refine ⟨.slice (some (p.add 0)) 0 cap, ?_, .slemp _ cap hm⟩
      have hca' : ¬ cap = 0 := hca
      simp [execOp, ho, hv, Instr.sliceAt, Instr.slice, run_underlying hu, hb, hz.run, hca']
  | sl p off cap z' _ hc hm hbk hS hz' hdd h =>
    have hb := bounds_run (P := P) (W := W) (s := true) (cap := cap) (β := β) (act := act) hg hlo hhi hab (by omega) (fun y hy X hX => hX.rep hg hl (by rcases hy with rfl | rfl <;> simp [ho, Op.operands]))
    have hget : ∀ i x, ((xs.take b).drop a)[i]? = some x → xs[a + i]? = some x := by
      intro i x hi
      rw [List.getElem?_drop, List.getElem?_take] at hi
      split at hi
      · exact hi
      · cases hi
    have hlen : ((xs.take b).drop a).length = b - a := by simp; omega
    have hmem : ∀ x, x ∈ (xs.take b).drop a → x ∈ xs := fun x hx => List.mem_of_mem_take (List.mem_of_mem_drop hx)
    by_cases hca : cap = a
    · subst hca
      refine ⟨.slice (some ⟨p, off, none⟩) (b - cap) (cap - cap), ?_, ?_⟩
      · simp [execOp, ho, hv, Instr.sliceAt, Instr.slice, run_underlying hu, hb, hz.run]
      · have e0 : (xs.take b).drop cap = [] := List.eq_nil_of_length_eq_zero (by rw [hlen]; omega)
        rw [e0, show b - cap = ([] : List AV).length by simp; omega]
        exact .sl p off _ z [] (by simp) (by omega) hbk hS (fun x hx => by cases hx) (fun i j x y hi => by simp at hi) (fun i j x y u hi => by simp at hi)
    · refine ⟨.slice (some ⟨p, off + a * z, none⟩) (b - a) (cap - a), ?_, ?_⟩
      · simp [execOp, ho, hv, Instr.sliceAt, Instr.slice, run_underlying hu, hb, hz.run, hca, aadd]
      · rw [← hlen]
        have ez : ∀ x, x ∈ xs → z' = z := fun x hx => by rw [← hz' x hx, hxz hg x hx]
        refine .sl p _ _ z _ (by rw [hlen]; omega) (by omega) hbk hS (fun x hx => hxz hg x (hmem x hx)) (fun i j x y hi hj => ?_) (fun i j x y u hi hj hu2 => ?_)
        · have h3 := hget i x hi
          rw [show off + a * z + i * z + j = off + (a + i) * z + j by rw [Nat.add_mul]; omega, ← ez x (List.mem_of_getElem? h3)]
          exact hdd _ j x y h3 hj
        · have h3 := hget i x hi
          rw [show off + a * z + i * z + j = off + (a + i) * z + j by rw [Nat.add_mul]; omega, ← ez x (List.mem_of_getElem? h3)] at hu2
          exact h _ j x y u h3 hj hu2
end
end Go.Proofs.Ytopmppnnihdnaaa
