/- The abstract machine: a method of a thing that defers a call as its first act. -/
import Derived.Test.YtfjmmebjfllciaaDoorAmObj
import Derived.Defers
namespace Go.Proofs.YtfjmmebjfllciaaDoor
set_option linter.unusedVariables false
set_option linter.unusedSimpArgs false
open Go.RowKit
/-- what a deferred call does -/
def FnDef (P : Program) (f : FuncId) (args : List AV) (H : List AO) (H' : List AO) : Prop :=
  ∀ (w : World) (β : List Hd) (vs : Array Value), HRel β H w → VReps β w vs args → ∀ u : FrameMode,
    CallsD P f vs u w fun e u' w' => u' = u ∧ ∃ v β', e = .returned v ∧ Ext β w β' w' ∧ HRel β' H' w'
theorem FnDef.of {P : Program} {f : FuncId} {fn : Func} {c : Code} {args : List AV} {G G' : List AO} {r : AV} {n : Nat} (hf : P.funcs[f]? = some fn) (hb : fn.body = some c) (hn : fn.ntmps = n) (hna : args.length ≤ n)
    (h : GOK G.length G → AWP P n G.length c (endF P fn r G') (zipS args 0) G []) : FnDef P f args G G' := by
  intro w β vs hH hv u
  refine (callsD_of_wp (R := fun e w' => ∃ v β', e = .returned v ∧ Ext β w β' w' ∧ HRel β' G' w') hf hb (Code.wp_mono ?_ (h hH.gok [] { tmps := vs ++ Array.replicate (fn.ntmps - vs.size) undef, defers := [] } w β hH.gok ?_ rfl (by rw [List.append_nil]; exact hH) ?_))).mono ?_
  · intro e a' W' ⟨β', σ', G2, L', k1, k2, k3, k4, k5, k6, k7⟩
    obtain ⟨he, rfl, hnh, ht⟩ := k1
    obtain ⟨v, hr, hvr⟩ := ht β' a' W' k6 k7
    have hl : G2.length = β.length := by rw [k2.1, hH.len]
    have hfin : ∃ v' β'', Ending.returned v = Ending.returned v' ∧ Ext β w β'' W' ∧ HRel β'' G2 W' := by
      refine ⟨v, β'.take β.length, rfl, k5.take, ?_⟩
      rw [← hl]; exact k6.take (fun o ho x hx => by rw [k2.1]; exact k2.2 o ho x hx)
    rcases he with rfl | rfl
    · exact ⟨k4, v, hr, hfin⟩
    · exact ⟨k4, v, hr, hfin⟩
  · rw [Array.size_append, Array.size_replicate, hv.1, hn]; omega
  · intro t X ht
    obtain ⟨_, h2⟩ := look_zip _ _ _ _ ht
    rw [Nat.sub_zero] at h2
    have hlt : t < vs.size := by rw [hv.1]; exact (List.getElem?_eq_some_iff.1 h2).1
    refine ⟨vs[t], ?_, hv.2 t _ _ (Array.getElem?_eq_getElem hlt) h2⟩
    show (vs ++ _)[t]? = _
    rw [Array.getElem?_append_left hlt, Array.getElem?_eq_getElem hlt]
  · rintro e u' w' ⟨rfl, h⟩
    exact ⟨rfl, h⟩
def DefQ {α : Type} (aV : α → List AV) (up : α → α) (H : List AO) (i : Nat) (cs' : List AV) (r : AV) (t : Nat) : QA := fun e σ G L => (e = .normal ∨ e = .ret) ∧ ∃ x : α, G = H.set i (.box (aV x)) ∧ aV (up x) = cs' ∧ NoH H.length r ∧ look σ t = some r
/-- makeFunc, defer, and the rest -/
theorem FnM.of_defer {α : Type} (aV : α → List AV) (up : α → α) {P : Program} {f : FuncId} {fn : Func} {r0 rest : Code} {i1 : Nat} {o1 o2 : Oper} {args : Nat → List AV} {cs cs' : List AV} {r : AV} {n t td : Nat} {F : FuncId} {caps : Array Operand} (hf : P.funcs[f]? = some fn)
    (hb : fn.body = some (.seq r0 (.seq (.region i1 #[o1, o2] false) rest))) (hn : fn.ntmps = n) (hna : ∀ i, (args i).length ≤ n) (hres : fn.results = #[.tmp t])
    (ho1 : o1.op = .makeFunc (.func F) #[] caps) (hd1 : o1.dst = some td) (hg1 : o1.guard = none) (htd : td < n) (ho2 : o2.op = .defer { callee := .value (.tmp td), args := #[], argTypes := #[] }) (hd2 : o2.dst = none) (hg2 : o2.guard = none)
    (hcf : ∀ (va : Array Value) (W : World), (callFunc F va).run P W = .ok (.enter F va) W)
    (hD : ∀ (x : α) (H : List AO) (i : Nat) (L : List AO), i < H.length → FnDef P F [.pe [.box i 0]] (H.set i (.box (aV x)) ++ L) (H.set i (.box (aV (up x))) ++ L))
    (hcs : ∀ y, y ∈ cs' → NoH 0 y)
    (h : ∀ (H : List AO) (i m : Nat), H.length = m → i < H.length → GOK m (H.set i (.box cs)) → AWP P n m r0 (fun e σ G L => e = .normal ∧ EvL true σ caps.toList [.pe [.box i 0]] ∧ look σ td = none ∧ AWP P n m rest (DefQ aV up H i cs' r t) σ G L) (zipS (args i) 0) (H.set i (.box cs)) []) : FnM P f args cs r cs' := by
  intro H i hi w β vs hH hv
  have hlt := (List.getElem?_eq_some_iff.1 hi).1
  have hcsn : ∀ y, y ∈ (AO.box cs').conts → NoH H.length y := fun y hy => (hcs y hy).mono (Nat.zero_le _)
  have e0 := set_of_get hi
  have hG0 : GOK H.length (H.set i (.box cs)) := by rw [e0]; exact hH.gok
  refine calls_of_wp_defers hf hb (wp_seq (Code.wp_mono ?_ (h H i H.length rfl hlt hG0 [] { tmps := vs ++ Array.replicate (fn.ntmps - vs.size) undef, defers := [] } w β hG0 ?_ rfl (by rw [e0, List.append_nil]; exact hH) ?_)))
  · intro e a W ⟨β1, σ, G, L, ⟨he, hev, hno, hrest⟩, g1, g2, g3, g4, g5, g6⟩
    subst he
    have ha := EvL.reps (β := β1) (W := W) (a := a) (σ := σ) (gd := true) hev (fun x hx X hX => by
      rcases hX with hX | ⟨d, hX, hd⟩
      · exact g6.ev hX
      · have := g6.ev hX
        generalize a.eval x = v at this
        cases this with | opt _ _ _ k _ => exact k (hd rfl))
    have hsz : td < a.tmps.size := by rw [g2]; exact htd
    refine wp_seq (wp_region_list ?_)
    refine wpList_plain hg1 fun K hK => ?_
    unfold Oper.wp
    have hr1 : (execOp a.eval o1).run P W = .ok (.value (.func (.func F) #[] (caps.map a.eval))) W := by simp [execOp, ho1, Instr.makeFunc]
    rw [hr1, Oper.upon_value]
    refine hK _ _ (wpList_plain hg2 fun K2 hK2 => ?_)
    unfold Oper.wp
    have hev2 : (a.put o1.dst (.func (.func F) #[] (caps.map a.eval))).eval (.tmp td) = .func (.func F) #[] (caps.map a.eval) := by
      rw [hd1]
      show (a.tmps.setIfInBounds td _).getD td undef = _
      rw [Array.getD_eq_getD_getElem?, Array.getElem?_setIfInBounds_self_of_lt hsz]; rfl
    have hr2 : (execOp (a.put o1.dst (.func (.func F) #[] (caps.map a.eval))).eval o2).run P W = .ok (.defer ⟨.fn (.func F) (caps.map a.eval), #[]⟩) W := by
      simp [execOp, ho2, resolve, hev2, Deferred.ofValue]
    rw [hr2, Oper.upon_defer]
    refine hK2 _ _ ?_
    rw [hd1, hd2]
    have hS : SRep β1 W { (a.put (some td) (.func (.func F) #[] (caps.map a.eval))) with defers := ⟨.fn (.func F) (caps.map a.eval), #[]⟩ :: (a.put (some td) (.func (.func F) #[] (caps.map a.eval))).defers } σ := by
      intro q X hq
      have hne : q ≠ td := fun e => by rw [e, hno] at hq; cases hq
      obtain ⟨u, k1, k2⟩ := g6 q X hq
      refine ⟨u, ?_, k2⟩
      show (a.tmps.setIfInBounds td _)[q]? = some u
      rw [Array.getElem?_setIfInBounds_ne (Ne.symm hne)]; exact k1
    have hdef : (a.put (some td) (.func (.func F) #[] (caps.map a.eval))).defers = [] := g3
    rw [hdef] at hS
    have hfin := hrest [⟨.fn (.func F) (caps.map a.eval), #[]⟩] { (a.put (some td) (.func (.func F) #[] (caps.map a.eval))) with defers := [⟨.fn (.func F) (caps.map a.eval), #[]⟩] } W β1 g1 (by show (a.put _ _).tmps.size = n; rw [put_size]; exact g2) rfl g5 hS
    rw [hdef]
    refine Code.wp_mono ?_ hfin
    intro e a' W' ⟨β', σ', G', L', ⟨he, x, hG', hup, hnr, hlk⟩, k2, k3, k4, k5, k6, k7⟩
    subst hG'
    have hcap : VReps β' W' (#[] ++ caps.map a.eval) [.pe [.box i 0]] := by
      refine ⟨by simpa using ha.1, fun j u y p q => ?_⟩
      exact (ha.2 j u y (by simpa using p) q).ext k5
    have hleave : Leaves P fn a'.tmps (fun e w' => ∃ v β', e = .returned v ∧ Ext β w β' w' ∧ HRel β' (H.set i (.box cs')) w' ∧ VRep β' w' v r) a'.defers .returning W' := by
      rw [k4]
      refine ⟨by simp, .func F, caps.map a.eval, F, #[] ++ caps.map a.eval, rfl, ?_, ?_⟩
      · simp [invoke, hcf]
      · refine (hD x H i L' hlt W' β' _ k6 hcap .returning).mono ?_
        rintro e u' w' ⟨rfl, v, β2, rfl, q1, q2⟩
        obtain ⟨u, r1, r2⟩ := k7 t r hlk
        have hext : Ext β w β2 w' := (g4.trans k5).trans q1
        rw [hup] at q2
        have hGl : (H.set i (.box cs')).length = β.length := by rw [List.length_set, hH.len]
        refine ⟨a'.tmps.getD t undef, results_tmp hres _ _ _, _, β2.take β.length, rfl, hext.take, ?_, ?_⟩
        · rw [← hGl]
          refine q2.take (fun o ho y hy => ?_)
          have hg := q2.gok
          have hk : GOK H.length (H.set i (.box (aV x))) := k2
          have hH0 := hH.gok
          rw [List.length_set]
          rcases List.mem_or_eq_of_mem_set ho with ho | rfl
          · exact hH0.2 o ho y hy
          · exact hcsn y hy
        · have : a'.tmps.getD t undef = u := by rw [Array.getD_eq_getD_getElem?, r1]; rfl
          rw [this]
          have hle := q2.len
          rw [List.length_append, hGl] at hle
          refine ((r2.ext q1).take (by omega) ?_)
          rw [hH.len]; exact hnr
    rcases he with rfl | rfl
    · exact hleave
    · exact hleave
  · rw [Array.size_append, Array.size_replicate, hv.1, hn]; have := hna i; omega
  · intro q X ht
    obtain ⟨_, h2⟩ := look_zip _ _ _ _ ht
    rw [Nat.sub_zero] at h2
    have hl2 : q < vs.size := by rw [hv.1]; exact (List.getElem?_eq_some_iff.1 h2).1
    refine ⟨vs[q], ?_, hv.2 q _ _ (Array.getElem?_eq_getElem hl2) h2⟩
    show (vs ++ _)[q]? = _
    rw [Array.getElem?_append_left hl2, Array.getElem?_eq_getElem hl2]
end Go.Proofs.YtfjmmebjfllciaaDoor
