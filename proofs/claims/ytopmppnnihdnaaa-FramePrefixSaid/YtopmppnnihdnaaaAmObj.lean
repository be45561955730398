/- The abstract machine: a thing that was handed in by its pointer. -/
import Derived.Test.YtopmppnnihdnaaaAmErr
namespace Go.Proofs.Ytopmppnnihdnaaa
set_option linter.unusedVariables false
set_option linter.unusedSimpArgs false
open Go.RowKit
theorem atO {H : List AO} {i : Nat} {X : AO} {L : List AO} (hi : i < H.length) : (H.set i X ++ L)[i]? = some X := by
  rw [List.getElem?_append_left (by simpa using hi), List.getElem?_set_self hi]
theorem setO {H : List AO} {i : Nat} {X Y : AO} {L : List AO} (hi : i < H.length) : (H.set i X ++ L).set i Y = H.set i Y ++ L := by
  rw [List.set_append_left _ _ (by simpa using hi), List.set_set]
theorem set_of_get {H : List AO} {i : Nat} {X : AO} (h : H[i]? = some X) : H.set i X = H := by
  obtain ⟨hi, rfl⟩ := List.getElem?_eq_some_iff.1 h
  exact List.set_getElem_self hi
theorem GOK.setO {m : Nat} {H : List AO} {i : Nat} {X Y : AO} (h : GOK m (H.set i X)) (hY : ∀ x, x ∈ Y.conts → NoH m x) : GOK m (H.set i Y) := by
  refine ⟨by simpa using h.1, fun o ho x hx => ?_⟩
  rw [← List.set_set (a := X)] at ho
  rcases List.mem_or_eq_of_mem_set ho with ho | rfl
  · exact h.2 o ho x hx
  · exact hY x hx
/-- a method of a thing: what it tells, and what becomes of the thing -/
def FnM (P : Program) (F : FuncId) (args : Nat → List AV) (cs : List AV) (r : AV) (cs' : List AV) : Prop :=
  ∀ (H : List AO) (i : Nat), H[i]? = some (.box cs) → FnH P F (args i) H r (H.set i (.box cs'))
theorem FnM.keep {P : Program} {F : FuncId} {args : Nat → List AV} {cs : List AV} {r : AV} (h : FnM P F args cs r cs) {H : List AO} {i : Nat} (hi : H[i]? = some (.box cs)) : FnH P F (args i) H r H := by
  have := h H i hi
  rwa [set_of_get hi] at this
theorem FnM.of {P : Program} {f : FuncId} {fn : Func} {c : Code} {args : Nat → List AV} {cs cs' : List AV} {r : AV} {n : Nat} (hf : P.funcs[f]? = some fn) (hb : fn.body = some c) (hn : fn.ntmps = n) (hna : ∀ i, (args i).length ≤ n)
    (h : ∀ (H : List AO) (i m : Nat), H.length = m → i < H.length → GOK m (H.set i (.box cs)) → AWP P n m c (endF P fn r (H.set i (.box cs'))) (zipS (args i) 0) (H.set i (.box cs)) []) : FnM P f args cs r cs' := by
  intro H i hi
  have hlt := (List.getElem?_eq_some_iff.1 hi).1
  refine FnH.of0 hf hb hn (hna i) (fun hG => ?_)
  have e := set_of_get hi
  have := h H i H.length rfl hlt (by rw [e]; exact hG)
  rwa [e] at this
/-- one of two things: its own slot, whatever stands elsewhere -/
theorem endF.toG {P : Program} {fn : Func} {r : AV} {G G' : List AO} {e : Exit} {σ : Sl} {L : List AO} (h : G = G') (k : endF P fn r G e σ G L) : endF P fn r G' e σ G L := by subst h; exact k
section
variable {P : Program} {ops : Array Oper} {n m : Nat} {QQ : List Kd → Sl → List AO → Prop} {l : List Oper} {ks : List Kd} {σ : Sl} {G L H : List AO} {o : Oper} {gd : Bool}
theorem ARun.storeO {H0 : List AO} {x y : Operand} {t : TypeId} {i off z : Nat} {cs C cs' : List AV} {X : AV} (hi : i < H0.length) (hm : GOK m (H0.set i (.box cs))) (ho : o.op = .store t x y) (hd : o.dst = none) (hg : gdS ops σ o.guard = some true) (hz : Sz P t z)
    (hx : Ev true σ x (.box i off)) (hy : Ev true σ y X) (hX : shaped X = true) (hC : X.cells = C) (hCz : C.length = z) (hone : C.all AV.one = true)
    (hoff : off + z ≤ cs.length) (hcs : cs.take off ++ C ++ cs.drop (off + z) = cs') (hno : ∀ x, x ∈ C → NoH m x)
    (hr : GOK m (H0.set i (.box cs')) → ARun P ops n QQ l (ks ++ [.write]) σ (H0.set i (.box cs') ++ L)) (hsp : ((cs.drop off).take z).all AV.plainC = true := by first | rfl | exact plain_take rfl | exact plain_take (by simp [AV.plainC])) : ARun P ops n QQ (o :: l) ks σ (H0.set i (.box cs) ++ L) := by
  refine ARun.store ho hd hg hz hx hy (atO hi) hX hC hCz hone hoff hcs ?_ hsp
  rw [_root_.Go.Proofs.Ytopmppnnihdnaaa.setO hi]
  refine hr (hm.setO fun x hx => ?_)
  have hx' : x ∈ cs' := hx
  rw [← hcs] at hx'
  have hold : ∀ y, y ∈ cs → NoH m y := fun y hy => hm.2 (.box cs) (List.mem_iff_getElem?.2 ⟨i, List.getElem?_set_self hi⟩) y hy
  rcases List.mem_append.1 hx' with h | h
  · rcases List.mem_append.1 h with h | h
    · exact hold x (List.mem_of_mem_take h)
    · exact hno x h
  · exact hold x (List.mem_of_mem_drop h)
theorem ARun.storeO1 {H0 : List AO} {x y : Operand} {t : TypeId} {i off : Nat} {cs cs' : List AV} {X : AV} (hi : i < H0.length) (hm : GOK m (H0.set i (.box cs))) (ho : o.op = .store t x y) (hd : o.dst = none) (hg : gdS ops σ o.guard = some true) (hz : Sz P t 1)
    (hx : Ev true σ x (.box i off)) (hy : Ev true σ y X) (hX : X.one = true)
    (hoff : off + 1 ≤ cs.length) (hcs : cs.take off ++ [X] ++ cs.drop (off + 1) = cs') (hno : NoH m X)
    (hr : GOK m (H0.set i (.box cs')) → ARun P ops n QQ l (ks ++ [.write]) σ (H0.set i (.box cs') ++ L)) (hsp : ((cs.drop off).take 1).all AV.plainC = true := by first | rfl | exact plain_take rfl | exact plain_take (by simp [AV.plainC])) : ARun P ops n QQ (o :: l) ks σ (H0.set i (.box cs) ++ L) :=
  ARun.storeO hi hm ho hd hg hz hx hy (one_shaped hX) (one_cells hX) rfl (by simp [hX]) hoff hcs (by simpa using hno) hr hsp
/-- a method of the thing is called -/
theorem ARun.callO {H0 : List AO} {f : Operand} {args : Array Operand} {ats : Array TypeId} {F i : Nat} {fs cs xs ax cA cB : List AV} {r Y : AV} {d : Option Tmp} (hi : i < H0.length) (hm : GOK m (H0.set i (.box cA))) (ho : o.op = .call { callee := .value f, args := args, argTypes := ats }) (hd : o.dst = d) (hn : dstLt n d = true) (hG : gdS ops σ o.guard = some true)
    (hcf : ∀ (va : Array Value) (W : World), (callFunc F va).run P W = .ok (.enter F va) W)
    (hf : Ev true σ f (.fn (.func F) fs cs)) (hx : EvL true σ args.toList xs) (has : fs ++ xs ++ cs = ax) (hF : FnH P F ax (H0.set i (.box cA) ++ L) r ((H0.set i (.box cA) ++ L).set i (.box cB))) (hno : ∀ x, x ∈ cB → NoH m x) (hY : optA o.guard true r = Y)
    (hr : GOK m (H0.set i (.box cB)) → ARun P ops n QQ l (ks ++ [.write]) (putS σ d Y) (H0.set i (.box cB) ++ L)) : ARun P ops n QQ (o :: l) ks σ (H0.set i (.box cA) ++ L) :=
  ARun.callH ho hd hn hG hcf hf hx has hF hY (by rw [_root_.Go.Proofs.Ytopmppnnihdnaaa.setO hi]; exact hr (hm.setO hno))
/-- a method of one's own thing is called, beside which new things may be made -/
theorem ARun.callMF {f : Operand} {args : Array Operand} {ats : Array TypeId} {F j : Nat} {fs cs xs cA cB : List AV} {ar : Nat → List AV} {r Y : AV} {d : Option Tmp} {L' : List AO} (hm : GOK m G) (ho : o.op = .call { callee := .value f, args := args, argTypes := ats }) (hd : o.dst = d) (hn : dstLt n d = true) (hG : gdS ops σ o.guard = some true)
    (hcf : ∀ (va : Array Value) (W : World), (callFunc F va).run P W = .ok (.enter F va) W)
    (hf : Ev true σ f (.fn (.func F) fs cs)) (hx : EvL true σ args.toList xs) (hF : FnM P F ar cA r cB) (has : fs ++ xs ++ cs = ar (m + j)) (hj : L[j]? = some (.box cA)) (hL : L.set j (.box cB) = L') (hY : optA o.guard true r = Y)
    (hr : ARun P ops n QQ l (ks ++ [.wf]) (putS σ d Y) (G ++ L')) : ARun P ops n QQ (o :: l) ks σ (G ++ L) := by
  subst hL
  refine ARun.wf (H' := G ++ L.set j (.box cB)) hd hn hY (by simp) (fun E => ?_) hr
  refine call_step ho hG (.inl rfl) hcf hf hx (fun _ => ?_)
  rw [has]
  have hget : (G ++ L ++ E)[m + j]? = some (.box cA) := by
    rw [List.append_assoc, hm.at, List.getElem?_append_left (List.getElem?_eq_some_iff.1 hj).1]; exact hj
  have := hF (G ++ L ++ E) (m + j) hget
  rw [List.append_assoc, hm.set, List.set_append_left _ _ (List.getElem?_eq_some_iff.1 hj).1, ← List.append_assoc, ← List.append_assoc] at this
  exact this
/-- an entry of the model's own changes the thing -/
theorem ARun.callXO {H0 : List AO} {f : Operand} {args : Array Operand} {ats : Array TypeId} {F i : Nat} {xs cA cB : List AV} {r Y : AV} {d : Option Tmp} (hi : i < H0.length) (hm : GOK m (H0.set i (.box cA))) (ho : o.op = .call { callee := .value f, args := args, argTypes := ats }) (hd : o.dst = d) (hn : dstLt n d = true) (hG : gdS ops σ o.guard = some true)
    (hf : Ev true σ f (.fn (.func F) [] [])) (hx : EvL true σ args.toList xs) (hF : FnX P F xs (H0.set i (.box cA) ++ L) r ((H0.set i (.box cA) ++ L).set i (.box cB))) (hno : ∀ x, x ∈ cB → NoH m x) (hY : optA o.guard true r = Y)
    (hr : GOK m (H0.set i (.box cB)) → ARun P ops n QQ l (ks ++ [.write]) (putS σ d Y) (H0.set i (.box cB) ++ L)) : ARun P ops n QQ (o :: l) ks σ (H0.set i (.box cA) ++ L) :=
  ARun.callX ho hd hn hG hf hx hF hY (by rw [_root_.Go.Proofs.Ytopmppnnihdnaaa.setO hi]; exact hr (hm.setO hno))
/-- a call that only reads what may be written -/
theorem ARun.callR {f : Operand} {args : Array Operand} {ats : Array TypeId} {F : FuncId} {fs cs xs ax : List AV} {r Y : AV} {d : Option Tmp} (ho : o.op = .call { callee := .value f, args := args, argTypes := ats }) (hd : o.dst = d) (hn : dstLt n d = true) (hG : gdS ops σ o.guard = some gd)
    (hcf : ∀ (va : Array Value) (W : World), (callFunc F va).run P W = .ok (.enter F va) W)
    (hf : Ev gd σ f (.fn (.func F) fs cs)) (hx : EvL gd σ args.toList xs) (has : fs ++ xs ++ cs = ax) (hF : gd = true → FnH P F ax H r H) (hY : optA o.guard gd r = Y)
    (hr : ARun P ops n QQ l (ks ++ [.read]) (putS σ d Y) H) : ARun P ops n QQ (o :: l) ks σ H := by
  subst hd; subst hY; subst has
  exact ⟨.read, _, H, hn, ⟨rfl, call_step ho hG (.inr rfl) hcf hf hx hF⟩, hr⟩
/-- an array's literal -/
theorem ARun.buildArr {t e : TypeId} {len z : Nat} {parts : Array (Nat × Operand)} {ps : List (Nat × AV)} {zv : Value} {C : List AV} {Y : AV} {d : Option Tmp} (ho : o.op = .build t parts) (hd : o.dst = d) (hn : dstLt n d = true) (hG : gdS ops σ o.guard = some gd)
    (hu : P.underlying t = some (.array len e)) (hz : Sz P e z) (hzv : Zv P t zv)
    (hx : EvP gd σ parts.toList ps) (hs : (ps.all fun p => shaped p.2) = true) (hC : fillA (fun i => some (i * z, z)) (zv.cells.toList.map cAV) ps = some C) (hY : optA o.guard gd (.agg C) = Y)
    (hr : ARun P ops n QQ l (ks ++ [.pure]) (putS σ d Y) H) : ARun P ops n QQ (o :: l) ks σ H := by
  refine ARun.same hd hn hG hY (fun hg a W β hl => ?_) hr
  obtain ⟨vs', h1, h2⟩ := fill_rep (β := β) (w := W) (a := a) (fun i => some (i * z, z)) parts.toList ps hx (EvP.looks hg hl (by simp [ho, Op.operands])) hs zv.cells _ C (CRep.zero _ _ _) hC
  refine ⟨.agg vs', ?_, .agg _ _ h2.1 h2.2⟩
  have h6 : (Instr.build t (parts.map fun (i, x) => (i, a.eval x))).run P W = .ok (.agg vs') W := by
    unfold Instr.build
    simp only [Sem.run_bind, hzv.run, run_underlying hu]
    simp [hz.run, h1]
  simp only [execOp, ho]
  simp [h6]
/-- what is not wanted -/
theorem ARun.dead {X : AV} {d : Option Tmp} {g : Nat × Bool} (hd : o.dst = d) (hn : dstLt n d = true) (hgu : o.guard = some g) (hG : gdS ops σ o.guard = some false)
    (hr : ARun P ops n QQ l (ks ++ [.pure]) (putS σ d (.opt false X)) H) : ARun P ops n QQ (o :: l) ks σ H := by
  subst hd
  refine ⟨.pure, _, H, hn, ⟨rfl, fun G => ?_⟩, hr⟩
  intro a W β hHr hl K Q hK
  rw [gd_wanted hG hl, if_neg (by simp)]
  exact hK undef W β (Ext.refl _ _) hHr (.opt _ _ _ (fun e => by cases e) (fun _ => rfl))
/-- a place of an array that lies in a variable -/
theorem ARun.indexBox {x y : Operand} {t e : TypeId} {len z j i off fo : Nat} {k : IntKind} {q : Int} {cs : List AV} {Y : AV} {d : Option Tmp} (ho : o.op = .indexAddr t x y) (hd : o.dst = d) (hn : dstLt n d = true) (hG : gdS ops σ o.guard = some gd)
    (hu : P.underlying t = some (.array len e)) (hz : Sz P e z)
    (hx : Ev gd σ x (.box i off)) (hH : H[i]? = some (.box cs)) (hy : Ev gd σ y (.int k q)) (hi : gd = true → q = (j : Int)) (hj : gd = true → j < len) (hfo : off + j * z = fo) (hY : optA o.guard gd (.box i fo) = Y)
    (hr : ARun P ops n QQ l (ks ++ [.pure]) (putS σ d Y) H) : ARun P ops n QQ (o :: l) ks σ H := by
  refine ARun.same hd hn hG hY (fun hg a W β hl => ?_) hr
  obtain ⟨b, h2, h3⟩ := (hx.rep hg hl (by simp [ho, Op.operands])).box_inv
  have h6 := (hy.rep hg hl (by simp [ho, Op.operands])).int_inv
  have hij := hi hg
  have hjx := hj hg
  subst hij; subst hfo
  refine ⟨.pointer (some ⟨b, off + j * z, none⟩), ?_, h3 _⟩
  simp [execOp, ho, h2, h6, Instr.indexAt, asIntOf, run_underlying hu, hz.run, hjx, Instr.sureAddr, aadd]
end
/-- a function that hands out a thing of the caller's own -/
def FnNewB (P : Program) (f : FuncId) (args : List AV) (r : Nat → AV) (cs : List AV) : Prop := ∀ H : List AO, FnH P f args H (r H.length) (H ++ [.box cs])
def endN (P : Program) (fn : Func) (r : Nat → AV) (cs : List AV) (G' : List AO) : QA := fun e σ G L => (e = .normal ∨ e = .ret) ∧ G = G' ∧ (∃ J, L = .box cs :: J) ∧ NoH (G.length + 1) (r G.length) ∧ (∀ x, x ∈ cs → NoH (G.length + 1) x) ∧
  ∀ (β : List Hd) (a : Act) (W : World), HRel β (G ++ L) W → SRep β W a σ → Tells P fn β a W (r G.length)
theorem FnNewB.of {P : Program} {f : FuncId} {fn : Func} {c : Code} {args : List AV} {r : Nat → AV} {cs : List AV} {n : Nat} (hf : P.funcs[f]? = some fn) (hb : fn.body = some c) (hn : fn.ntmps = n) (hna : args.length ≤ n)
    (h : ∀ G, GOK G.length G → AWP P n G.length c (endN P fn r cs G) (zipS args 0) G []) : FnNewB P f args r cs := by
  intro G w β vs hH hv
  refine calls_of_wp hf hb (Code.wp_mono ?_ (h G hH.gok [] { tmps := vs ++ Array.replicate (fn.ntmps - vs.size) undef, defers := [] } w β hH.gok ?_ rfl (by rw [List.append_nil]; exact hH) ?_))
  · intro e a' W' ⟨β', σ', G2, L', k1, k2, k3, k4, k5, k6, k7⟩
    obtain ⟨he, rfl, ⟨J, rfl⟩, hnh, hcn, ht⟩ := k1
    obtain ⟨v, hr, hvr⟩ := ht β' a' W' k6 k7
    have hlen : (G2 ++ [AO.box cs]).length = G2.length + 1 := by simp
    have hfin : ∃ v' β'', Ending.returned v = Ending.returned v' ∧ Ext β w β'' W' ∧ HRel β'' (G2 ++ [.box cs]) W' ∧ VRep β'' W' v' (r G2.length) := by
      have k6' : HRel β' ((G2 ++ [.box cs]) ++ J) W' := by simpa using k6
      have hl2 := k6'.len
      rw [List.length_append, hlen] at hl2
      refine ⟨v, β'.take (G2.length + 1), rfl, ?_, ?_, hvr.take (by omega) hnh⟩
      · have e1 := k5
        refine ⟨e1.os, e1.tape, e1.output, e1.size, e1.block, fun k hk hs x hx => e1.apart k hk hs x (List.mem_of_mem_take hx), fun i x hx => ?_, e1.guard⟩
        have hi := (List.getElem?_eq_some_iff.1 hx).1
        have hgl : G2.length = β.length := hH.len.symm
        rw [List.getElem?_take_of_lt (by omega)]; exact e1.hd i x hx
      · rw [← hlen]
        refine k6'.take fun o ho x hx => ?_
        rw [hlen]
        rcases List.mem_append.1 ho with ho | ho
        · exact (k2.2 o ho x hx).mono (by omega)
        · simp at ho; subst ho; exact hcn x hx
    rcases he with rfl | rfl
    · exact ⟨k4, v, hr, hfin⟩
    · exact ⟨k4, v, hr, hfin⟩
  · rw [Array.size_append, Array.size_replicate, hv.1, hn]; omega
  · intro t X ht
    obtain ⟨_, h2⟩ := look_zip _ _ _ _ ht
    rw [Nat.sub_zero] at h2
    have hlt : t < vs.size := by rw [hv.1]; exact (List.getElem?_eq_some_iff.1 h2).1
    refine ⟨vs[t], ?_, hv.2 t _ _ (Array.getElem?_eq_getElem hlt) h2⟩
    show (vs ++ _)[t]? = _
    rw [Array.getElem?_append_left hlt, Array.getElem?_eq_getElem hlt]
theorem endN.many {P : Program} {fn : Func} {Xs : List AV} {r : Nat → AV} {cs : List AV} {σ : Sl} {G J : List AO} {rs : List ResultVar} {e : Exit} (he : e = .normal ∨ e = .ret) (hr : fn.results = rs.toArray) (h : RVs P σ (G ++ (.box cs :: J)) rs Xs) (h1 : Xs.length ≠ 1) (hX : .tup Xs = r G.length) (hn : NoH (G.length + 1) (r G.length)) (hc : ∀ x, x ∈ cs → NoH (G.length + 1) x) : endN P fn r cs G e σ G (.box cs :: J) :=
  ⟨he, rfl, ⟨J, rfl⟩, hn, hc, fun β a W hH hs => by rw [← hX]; exact Tells.list hH hs hr h h1⟩
theorem endN.one {P : Program} {fn : Func} {X : AV} {r : Nat → AV} {cs : List AV} {σ : Sl} {G J : List AO} {rv : ResultVar} {e : Exit} (he : e = .normal ∨ e = .ret) (hr : fn.results = #[rv]) (h : RV1 P σ (G ++ (.box cs :: J)) rv X) (hX : X = r G.length) (hn : NoH (G.length + 1) (r G.length)) (hc : ∀ x, x ∈ cs → NoH (G.length + 1) x) : endN P fn r cs G e σ G (.box cs :: J) :=
  ⟨he, rfl, ⟨J, rfl⟩, hn, hc, fun β a W hH hs => by rw [← hX]; exact Tells.single hH hs hr h⟩
theorem ARun.callNewB {P : Program} {ops : Array Oper} {n m : Nat} {QQ : List Kd → Sl → List AO → Prop} {l : List Oper} {ks : List Kd} {σ : Sl} {G L : List AO} {o : Oper} {f : Operand} {args : Array Operand} {ats : Array TypeId} {F j : Nat} {fs cs xs ax cb : List AV} {r : Nat → AV} {Y : AV} {d : Option Tmp} (hm : GOK m G) (hj : L.length = j) (ho : o.op = .call { callee := .value f, args := args, argTypes := ats }) (hd : o.dst = d) (hn : dstLt n d = true) (hG : gdS ops σ o.guard = some true)
    (hcf : ∀ (va : Array Value) (W : World), (callFunc F va).run P W = .ok (.enter F va) W)
    (hf : Ev true σ f (.fn (.func F) fs cs)) (hx : EvL true σ args.toList xs) (has : fs ++ xs ++ cs = ax) (hF : FnNewB P F ax r cb) (hY : optA o.guard true (r (m + j)) = Y)
    (hr : ARun P ops n QQ l (ks ++ [.write]) (putS σ d Y) (G ++ (L ++ [.box cb]))) : ARun P ops n QQ (o :: l) ks σ (G ++ L) := by
  have h := hF (G ++ L)
  rw [List.length_append, hm.1, hj] at h
  exact ARun.callH ho hd hn hG hcf hf hx has h hY (by rw [List.append_assoc]; exact hr)
/-- a loop that changes the thing that was handed in -/
theorem AWP.roundsO {P : Program} {n m : Nat} {c : Code} {Q : QA} {σ : Sl} {G L : List AO} {α : Type} (I : α → Prop) (lit : α → Sl) (Gf Lf : α → List AO) (μ : α → Nat) (len : Nat) (a0 : α) (h0 : I a0) (hs : SubS σ (lit a0)) (hGf : G = Gf a0) (hL : L = Lf a0)
    (hlen : ∀ a, (Lf a).length = len) (hnh : ∀ a, (∀ p, p ∈ lit a → NoH (m + len) p.2) ∧ ∀ o, o ∈ Lf a → ∀ x, x ∈ o.conts → NoH (m + len) x)
    (round : ∀ a, I a → GOK m (Gf a) → AWP P n m c (thenA (fun σ' G' L' => ∃ a' J, G' = Gf a' ∧ I a' ∧ SubS σ' (lit a') ∧ L' = Lf a' ++ J ∧ μ a' < μ a) Q) (lit a) (Gf a) (Lf a)) : AWP P n m (.loop c) Q σ G L := by
  subst hL
  subst hGf
  refine AWP.to (lit a0) hs ?_
  intro D
  have key : ∀ N a, μ a = N → I a → ∀ (act : Act) (W : World) (β : List Hd), GOK m (Gf a) → act.tmps.size = n → act.defers = D → HRel β (Gf a ++ Lf a) W → SRep β W act (lit a) → ∀ (b : Frame) (k : List Item) (cs : List Frame),
      ∃ e a' w', APost D n m β W Q e a' w' ∧ Arrives P (lone (b.at act (.code c :: .inLoop c :: k)) cs W) b k cs e a' w' := by
    intro N
    induction N using Nat.strongRecOn with
    | _ N ih =>
      intro x hN hI act W β h1 h2 h3 h4 h5 b k cs
      obtain ⟨e, a₁, w₁, hq, harr⟩ := round x hI h1 D act W β h1 h2 h3 h4 h5 b (.inLoop c :: k) cs
      obtain ⟨β', σ', G', L', k1, k2, k3, k4, k5, k6, k7⟩ := hq
      cases e with
      | normal =>
        obtain ⟨x', J, rfl, hI', hsub', rfl, hlt⟩ := k1
        have e1 : (Gf x' ++ Lf x').length = m + len := by rw [List.length_append, hlen, k2.1]
        have e2 : β.length = (Gf x' ++ Lf x').length := by rw [h4.len, e1, List.length_append, hlen, h1.1]
        rw [← List.append_assoc] at k6
        have hH := k6.take (fun o ho y hy => by
          rw [e1]
          rcases List.mem_append.1 ho with ho | ho
          · exact (k2.2 o ho y hy).mono (by omega)
          · exact (hnh x').2 o ho y hy)
        have hx := k5.take
        rw [e2] at hx
        have hl := k6.len
        have hle : (Gf x' ++ Lf x').length ≤ β'.length := by rw [hl]; simp
        have hS : SRep (β'.take (Gf x' ++ Lf x').length) w₁ a₁ (lit x') := by
          intro t X ht
          obtain ⟨u, q1, q2⟩ := k7 t X (hsub'.look t X ht)
          refine ⟨u, q1, q2.take hle ?_⟩
          rw [e1]
          have : ∀ (l : Sl), look l t = some X → ∃ p, p ∈ l ∧ p.2 = X := by
            intro l
            induction l with
            | nil => intro h; cases h
            | cons p l ihl =>
              intro h
              obtain ⟨k0, Y⟩ := p
              change (bif Nat.beq k0 t then some Y else look l t) = some X at h
              cases hb : Nat.beq k0 t with
              | true => rw [hb] at h; cases h; exact ⟨_, List.mem_cons_self, rfl⟩
              | false => rw [hb] at h; obtain ⟨p, m1, m2⟩ := ihl h; exact ⟨p, List.mem_cons_of_mem _ m1, m2⟩
          obtain ⟨p, m1, m2⟩ := this _ ht
          rw [← m2]; exact (hnh x').1 p m1
        obtain ⟨e₂, a₂, w₂, hq₂, harr₂⟩ := ih _ (hN ▸ hlt) x' rfl hI' a₁ w₁ _ k2 k3 k4 hH hS b k cs
        exact ⟨e₂, a₂, w₂, hq₂.ext hx, .of_steps (Steps.trans harr (.one step_inLoop)) harr₂⟩
      | exit id => exact ⟨_, a₁, w₁, ⟨β', σ', G', L', k1, k2, k3, k4, k5, k6, k7⟩, .pass (x := .inLoop c) rfl (fun _ _ => .inl (by simp)) harr⟩
      | goto l => exact ⟨_, a₁, w₁, ⟨β', σ', G', L', k1, k2, k3, k4, k5, k6, k7⟩, .pass (x := .inLoop c) rfl (fun _ _ => .inl (by simp)) harr⟩
      | ret => exact ⟨_, a₁, w₁, ⟨β', σ', G', L', k1, k2, k3, k4, k5, k6, k7⟩, .pass (x := .inLoop c) rfl (fun _ _ => .inl (by simp)) harr⟩
      | panic ch => exact ⟨_, a₁, w₁, ⟨β', σ', G', L', k1, k2, k3, k4, k5, k6, k7⟩, .pass (x := .inLoop c) rfl (fun _ _ => .inl (by simp)) harr⟩
      | outgrown => exact ⟨_, a₁, w₁, ⟨β', σ', G', L', k1, k2, k3, k4, k5, k6, k7⟩, .pass (x := .inLoop c) rfl (fun _ _ => .inl (by simp)) harr⟩
  intro act W β h1 h2 h3 h4 h5 b k cs
  obtain ⟨e, a', w', hq, harr⟩ := key _ a0 rfl h0 act W β h1 h2 h3 h4 h5 b k cs
  exact ⟨e, a', w', hq, .of_steps (.one step_loop) harr⟩
end Go.Proofs.Ytopmppnnihdnaaa
