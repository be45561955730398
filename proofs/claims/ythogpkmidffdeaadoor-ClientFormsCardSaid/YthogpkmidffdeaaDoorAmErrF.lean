/- Package fail, by the abstract machine. -/
import Derived.Test.YthogpkmidffdeaaDoorAmTys
import Derived.Test.YthogpkmidffdeaaDoorErrLib
import Derived.Test.YthogpkmidffdeaaDoorAmObj
namespace Go.Proofs.YthogpkmidffdeaaDoor
set_option linter.unusedVariables false
set_option linter.unusedSimpArgs false
open Go.RowKit
set_option maxRecDepth 100000
/-- where the first one stands -/
def idxOf {α : Type} (p : α → Bool) (l : List α) : Int := match l.findIdx? p with
  | some i => (i : Int)
  | none => -1
theorem idx_hit {α : Type} [Inhabited α] {p : α → Bool} {l : List α} {k : Nat} (hk : k < l.length) (h : ∀ j, j < k → p (l.getD j default) = false) (hp : p (l.getD k default) = true) : idxOf p l = (k : Int) := by
  have : l.findIdx? p = some k := by
    rw [List.findIdx?_eq_some_iff_getElem]
    refine ⟨hk, ?_, fun j hj => ?_⟩
    · simpa [List.getD, hk] using hp
    · have := h j hj
      simp [List.getD, show j < l.length by omega] at this
      simp [this]
  unfold idxOf; rw [this]
theorem idx_none {α : Type} [Inhabited α] {p : α → Bool} {l : List α} (h : ∀ j, j < l.length → p (l.getD j default) = false) : idxOf p l = -1 := by
  have : l.findIdx? p = none := by
    rw [List.findIdx?_eq_none_iff]
    intro x hx
    obtain ⟨j, hj, rfl⟩ := List.mem_iff_getElem.1 hx
    have := h j hj
    simpa [List.getD, hj] using this
  unfold idxOf; rw [this]
theorem any_idx {α : Type} (p : α → Bool) (l : List α) : decide (0 ≤ idxOf p l) = l.any p := by
  unfold idxOf
  cases h : l.findIdx? p with
  | none =>
    have := List.findIdx?_eq_none_iff.1 h
    symm; simp; exact this
  | some i =>
    obtain ⟨hi, h2, _⟩ := List.findIdx?_eq_some_iff_getElem.1 h
    have : l.any p = true := List.any_eq_true.2 ⟨_, List.getElem_mem hi, h2⟩
    rw [this]; simp
theorem neg_one_cv : cAV (.int .i64 (-1)) = .int .i64 (-1) := rfl
theorem take_eq_go {α : Type} [Inhabited α] {a b : List α} {k : Nat} (h : a.take k = b.take k) (ha : k < a.length) (hb : k < b.length) (he : a.getD k default = b.getD k default) : a.take (k + 1) = b.take (k + 1) := by
  rw [List.take_succ_eq_append_getElem ha, List.take_succ_eq_append_getElem hb, h]
  simp [List.getD, ha, hb] at he
  rw [he]
theorem ne_of_get {α : Type} [Inhabited α] {a b : List α} {k : Nat} (he : a.getD k default ≠ b.getD k default) : a ≠ b := fun e => he (by rw [e])
theorem found_congr {x e : Er} (h : x.inner = e.inner) : x.found = e.found := by unfold Er.found; rw [h]
theorem ty_no {x : Er} (hx : x.isNone = false) (h : x.ty = 29) : ∃ c, x = .no c := by
  cases x with
  | none => cases hx
  | no c => exact ⟨c, rfl⟩
  | wr op e => exact absurd h (show ¬ (94 : Nat) = 29 by decide)
theorem ty_wr {x : Er} (h : x.ty ≠ 29) : ∃ op e, x = .wr op e := by
  cases x with
  | none => exact absurd rfl h
  | no c => exact absurd rfl h
  | wr op e => exact ⟨op, e, rfl⟩
theorem is_wr {x : Er} (h : x.isWr = true) : ∃ op e, x = .wr op e := by
  cases x with
  | none => cases h
  | no c => cases h
  | wr op e => exact ⟨op, e, rfl⟩
theorem is_none {x : Er} (h : x.isNone = true) : x = .none := by cases x <;> first | rfl | cases h
set_option maxHeartbeats 1000000 in
theorem unwrap_fn (op : ByteArray) (e : Er) : FnP Tryd.prog 92 [aFl (.wr op e)] (aEr e) := by
  show FnP _ _ [.pe [.str op, aEr e]] _
  refine FnP.of Tryd.func92 rfl rfl (by simp) (by simp [AV.cells]) (fun G hG => ?_)
  have hN : NoH G.length (aEr e) := (by simp [AV.cells])
  refine AWP.seq ?_
  refine AWP.region (fun _ => ?_)
  refine ARun.move (.inr rfl) rfl rfl rfl (Ev.plain rfl) optN ?_
  refine ⟨_, _, rfl, hG, ?_⟩
  refine thenA_n ?_
  refine AWP.seq ?_
  refine AWP.seq ?_
  refine AWP.region (fun _ => ?_)
  refine ARun.move (.inl rfl) rfl rfl rfl (Ev.plain rfl) optN ?_
  refine ARun.isNilP rfl rfl rfl rfl Tryd.underlying94 (Ev.plain rfl) (fun hg => by first | rfl | exact nilP_aFl _) (.inl ⟨rfl, rfl⟩) optN ?_
  refine ⟨_, _, rfl, hG, ?_⟩
  refine thenA_n ?_
  refine AWP.cond rfl (fun h0 => ?_) (fun h0 => ?_)
  · skip
    simp at h0
  · skip
    refine AWP.skip ?_
    refine thenA_n ?_
    refine AWP.seq ?_
    refine AWP.region (fun _ => ?_)
    refine ARun.move (.inl rfl) rfl rfl rfl (Ev.plain rfl) optN ?_
    first | refine ARun.nilPe rfl rfl rfl rfl (Ev.plain rfl) optN ?_ | refine ARun.nilFn rfl rfl rfl rfl (Ev.plain rfl) optN ?_ | refine ARun.nilBox rfl rfl rfl rfl (Ev.plain rfl) ((hG.at _ _).trans rfl) optN ?_
    first | refine ARun.fieldPe rfl rfl rfl rfl Tryd.underlying96 rfl rfl sz52 (by decide) (Ev.plain rfl) rfl optN ?_ | refine ARun.fieldBox (fo := 1) rfl rfl rfl rfl Tryd.underlying96 rfl rfl sz52 (by decide) (Ev.plain rfl) ((hG.at _ _).trans rfl) optN ?_
    first | refine ARun.loadPe rfl rfl rfl rfl Tryd.underlying52 rfl (Ev.plain rfl) rfl optN ?_ | refine ARun.loadBox rfl rfl rfl rfl Tryd.underlying52 rfl (Ev.plain rfl) ((hG.at _ _).trans rfl) rfl optN ?_
    refine ARun.move (.inr rfl) rfl rfl rfl (Ev.plain rfl) optN ?_
    refine ⟨_, _, rfl, hG, ?_⟩
    refine thenA_n ?_
    refine AWP.ret ?_
    refine endF.one (.inr rfl) rfl (.tmp rfl) ?_ hN
    rfl
set_option maxHeartbeats 1000000 in
theorem asE_fn (e : Er) (old : Int) (he : e.isNone = false) : FnM Tryd.prog 59 (fun i => [aEr e, .ifc 75 (.box i 0), .agg [hT 75, .pe [.box i 0], .int .u64 150], rT 29]) [.int .i64 old] (.bool e.found.isSome) [.int .i64 (e.found.getD old)] := by
  refine FnM.of Tryd.func59 rfl rfl (fun i => by simp) (fun H i m hHm hi hG => ?_)
  have hN : NoH H.length (.bool e.found.isSome) := (by simp [AV.cells])
  refine AWP.seq ?_
  refine AWP.region (fun _ => ?_)
  refine ARun.box (j := 0) hG rfl rfl rfl rfl rfl (Ev.plain rfl) rfl rfl optN ?_
  refine ARun.move (.inr rfl) rfl rfl rfl (Ev.plain rfl) optN ?_
  refine ⟨_, _, rfl, hG, ?_⟩
  refine thenA_n ?_
  refine AWP.block ?_
  refine AWP.rounds (fun x => x.isNone = false ∧ x.inner = e.inner) (fun x => [(0, aEr x), (1, .ifc 75 (.box i 0)), (3, rT 29), (6, .box (m + 0) 0)]) (fun x => [.box [hT 75, .pe [.box i 0], .int .u64 150]]) (fun x => x.depth) 1 e ⟨he, rfl⟩ (by repeat (first | exact .nil | refine .cons rfl ?_)) rfl (fun _ => rfl) (fun _ => ⟨by simp [hT, rT]; omega, by simp [AO.conts, hT]; omega⟩) (fun x hI => ?_)
  obtain ⟨hx, hin⟩ := hI
  refine AWP.block ?_
  refine AWP.seq ?_
  refine AWP.seq ?_
  refine AWP.region (fun _ => ?_)
  refine ARun.move (.inl rfl) rfl rfl rfl (Ev.plain rfl) optN ?_
  refine ARun.callXP rfl rfl rfl rfl (Ev.plain rfl) (.cons (Ev.plain rfl) .nil) (fun hg => x_typeOf hx) optN ?_
  refine ARun.move (.inl rfl) rfl rfl rfl (Ev.plain rfl) optN ?_
  refine ARun.invokeX rfl rfl rfl rfl (Ev.plain rfl) (fun hg => inv_asg _) (.cons (Ev.plain rfl) .nil) (fun hg => x_asg (Er.ty_two x) (.inl rfl)) optN ?_
  refine ⟨_, _, rfl, hG, ?_⟩
  refine thenA_n ?_
  refine AWP.cond rfl (fun h0 => ?_) (fun h0 => ?_)
  · skip
    obtain ⟨c, rfl⟩ := ty_no hx (by simpa using h0)
    refine AWP.seq ?_
    refine AWP.region (fun _ => ?_)
    refine ARun.loadBoxA rfl rfl rfl rfl Tryd.underlying101 rfl sz101 (Ev.plain rfl) ((hG.at _ _).trans rfl) rfl rfl optN ?_
    refine ARun.callXR rfl rfl rfl rfl (Ev.plain rfl) (.cons (Ev.plain rfl) .nil) (fun hg => x_elemVE (atO hi)) optN ?_
    refine ARun.move (.inl rfl) rfl rfl rfl (Ev.plain rfl) optN ?_
    refine ARun.callXP rfl rfl rfl rfl (Ev.plain rfl) (.cons (Ev.plain rfl) .nil) (fun hg => x_valueOfN c) optN ?_
    refine ARun.callXO hi hG rfl rfl rfl rfl (Ev.plain rfl) (.cons (Ev.plain rfl) (.cons (Ev.plain rfl) .nil)) (x_setE (atO hi) rfl rfl) (by simp) optN (fun hG => ?_)
    refine ⟨_, _, rfl, hG, ?_⟩
    refine thenA_n ?_
    refine AWP.seq ?_
    refine AWP.region (fun _ => ?_)
    refine ARun.move (.inr rfl) rfl rfl rfl (Ev.plain rfl) optN ?_
    refine ⟨_, _, rfl, hG, ?_⟩
    refine thenA_n ?_
    refine AWP.ret ?_
    refine thenA_r ?_
    refine blockA_r ?_
    refine thenA_r ?_
    refine blockA_r ?_
    refine endF.toG (congrArg (fun c => H.set i (AO.box c)) (by rw [← found_congr hin]; rfl)) ?_
    refine endF.one (.inr rfl) rfl (.tmp rfl) ?_ (by rw [List.length_set]; exact hN)
    rw [← found_congr hin]; rfl
  · skip
    obtain ⟨op, y, rfl⟩ := ty_wr (by simpa using h0)
    refine AWP.skip ?_
    refine thenA_n ?_
    refine AWP.seq ?_
    refine AWP.seq ?_
    refine AWP.region (fun _ => ?_)
    refine ARun.move (.inl rfl) rfl rfl rfl (Ev.plain rfl) optN ?_
    refine ARun.assertV rfl rfl rfl rfl (Ev.plain rfl) (fun hg => no_as hx) optN ?_
    refine ARun.move (.inl rfl) rfl rfl rfl (Ev.plain rfl) optN ?_
    refine ARun.extract rfl rfl rfl rfl (Ev.plain rfl) rfl optN ?_
    refine ARun.extract rfl rfl rfl rfl (Ev.plain rfl) rfl optN ?_
    refine ARun.move (.inr rfl) rfl rfl rfl (Ev.plain rfl) optN ?_
    refine ARun.move (.inr rfl) rfl rfl rfl (Ev.plain rfl) optN ?_
    refine ⟨_, _, rfl, hG, ?_⟩
    refine thenA_n ?_
    refine AWP.seq ?_
    refine AWP.region (fun _ => ?_)
    refine ARun.move (.inl rfl) rfl rfl rfl (Ev.plain rfl) optN ?_
    refine ARun.move (.inl rfl) rfl rfl rfl (Ev.plain rfl) optN ?_
    refine ARun.move (.inl rfl) rfl rfl rfl (Ev.plain rfl) optS ?_
    refine ARun.move (.inl rfl) rfl rfl rfl (Ev.plain rfl) optS ?_
    refine ARun.invokeX (F := 0) (X' := .bool false) (r := .bool false) rfl rfl rfl rfl (Ev.opt rfl (fun h => h)) (fun hg => absurd hg (by decide)) (.cons (Ev.opt rfl (fun h => h)) .nil) (fun hg => absurd hg (by decide)) optS ?_
    refine ARun.pick rfl rfl rfl rfl (Ev.plain rfl) (Ev.opt rfl (by first | exact pkT | exact pkT2 | simp +contextual)) (Ev.plain rfl) (andB _ _) optN ?_
    refine ⟨_, _, rfl, hG, ?_⟩
    refine thenA_n ?_
    refine AWP.cond rfl (fun h1 => ?_) (fun h1 => ?_)
    · skip
      exact absurd h1 (by decide)
    · skip
      refine AWP.skip ?_
      refine thenA_n ?_
      refine AWP.seq ?_
      refine AWP.region (fun _ => ?_)
      refine ARun.move (.inl rfl) rfl rfl rfl (Ev.plain rfl) optN ?_
      refine ⟨_, _, rfl, hG, ?_⟩
      refine thenA_n ?_
      refine AWP.block ?_
      refine AWP.seq ?_
      refine AWP.region (fun _ => ?_)
      refine ARun.assertV rfl rfl rfl rfl (Ev.plain rfl) (fun hg => to_unwrap hx) optN ?_
      refine ARun.extract rfl rfl rfl rfl (Ev.plain rfl) rfl optN ?_
      refine ARun.extract rfl rfl rfl rfl (Ev.plain rfl) rfl optN ?_
      refine ⟨_, _, rfl, hG, ?_⟩
      refine thenA_n ?_
      refine AWP.cond rfl (fun h2 => ?_) (fun h2 => ?_)
      · skip
        refine AWP.seq ?_
        refine AWP.region (fun _ => ?_)
        refine ARun.move (.inr rfl) rfl rfl rfl (Ev.plain rfl) optN ?_
        refine ⟨_, _, rfl, hG, ?_⟩
        refine thenA_n ?_
        refine AWP.seq ?_
        refine AWP.region (fun _ => ?_)
        refine ARun.move (.inl rfl) rfl rfl rfl (Ev.plain rfl) optN ?_
        refine ARun.invokeP rfl rfl rfl rfl cf92 (Ev.plain rfl) (fun hg => inv_unwrap op y) .nil (fun hg => unwrap_fn op y) optN ?_
        refine ARun.move (.inr rfl) rfl rfl rfl (Ev.plain rfl) optN ?_
        refine ⟨_, _, rfl, hG, ?_⟩
        refine thenA_n ?_
        refine AWP.seq ?_
        refine AWP.region (fun _ => ?_)
        refine ARun.move (.inl rfl) rfl rfl rfl (Ev.plain rfl) optN ?_
        refine ARun.isNil rfl rfl rfl rfl Tryd.underlying52 (Ev.plain rfl) (fun hg => by first | rfl | exact nilA_aEr _) (.inl ⟨rfl, rfl⟩) optN ?_
        refine ⟨_, _, rfl, hG, ?_⟩
        refine thenA_n ?_
        refine AWP.cond rfl (fun h3 => ?_) (fun h3 => ?_)
        · skip
          refine AWP.seq ?_
          refine AWP.region (fun _ => ?_)
          refine ARun.move (.inr rfl) rfl rfl rfl (Ev.plain rfl) optN ?_
          refine ⟨_, _, rfl, hG, ?_⟩
          refine thenA_n ?_
          refine AWP.ret ?_
          refine blockA_r ?_
          refine blockA_r ?_
          refine thenA_r ?_
          refine blockA_r ?_
          refine endF.toG (congrArg (fun c => H.set i (AO.box c)) (by rw [← found_congr hin, is_none h3]; rfl)) ?_
          refine endF.one (.inr rfl) rfl (.tmp rfl) ?_ (by rw [List.length_set]; exact hN)
          rw [← found_congr hin, is_none h3]; rfl
        · skip
          refine AWP.skip ?_
          refine blockA_n ?_
          refine blockA_n ?_
          refine thenA_n ⟨rfl, y, _, ?_, ?_, rfl, ?_⟩
          · exact ⟨h3, hin⟩
          · repeat (first | exact .nil | refine .cons rfl ?_)
          · show y.depth < y.depth + 1; omega
      · skip
        cases h2
set_option maxHeartbeats 1000000 in
theorem asF_fn (e : Er) (he : e.isNone = false) : FnM Tryd.prog 59 (fun i => [aEr e, .ifc 117 (.box i 0), .agg [hT 117, .pe [.box i 0], .int .u64 150], rT 94]) [.raw (.pointer .none)] (.bool e.isWr) [aFl e] := by
  refine FnM.of Tryd.func59 rfl rfl (fun i => by simp) (fun H i m hHm hi hG => ?_)
  have hN : NoH H.length (.bool e.isWr) := (by simp [AV.cells])
  refine AWP.seq ?_
  refine AWP.region (fun _ => ?_)
  refine ARun.box (j := 0) hG rfl rfl rfl rfl rfl (Ev.plain rfl) rfl rfl optN ?_
  refine ARun.move (.inr rfl) rfl rfl rfl (Ev.plain rfl) optN ?_
  refine ⟨_, _, rfl, hG, ?_⟩
  refine thenA_n ?_
  refine AWP.block ?_
  refine AWP.rounds (fun x => x.isNone = false ∧ x = e) (fun x => [(0, aEr x), (1, .ifc 117 (.box i 0)), (3, rT 94), (6, .box (m + 0) 0)]) (fun x => [.box [hT 117, .pe [.box i 0], .int .u64 150]]) (fun x => x.depth) 1 e ⟨he, rfl⟩ (by repeat (first | exact .nil | refine .cons rfl ?_)) rfl (fun _ => rfl) (fun _ => ⟨by simp [hT, rT]; omega, by simp [AO.conts, hT]; omega⟩) (fun x hI => ?_)
  obtain ⟨hx, hin⟩ := hI
  refine AWP.block ?_
  refine AWP.seq ?_
  refine AWP.seq ?_
  refine AWP.region (fun _ => ?_)
  refine ARun.move (.inl rfl) rfl rfl rfl (Ev.plain rfl) optN ?_
  refine ARun.callXP rfl rfl rfl rfl (Ev.plain rfl) (.cons (Ev.plain rfl) .nil) (fun hg => x_typeOf hx) optN ?_
  refine ARun.move (.inl rfl) rfl rfl rfl (Ev.plain rfl) optN ?_
  refine ARun.invokeX rfl rfl rfl rfl (Ev.plain rfl) (fun hg => inv_asg _) (.cons (Ev.plain rfl) .nil) (fun hg => x_asg (Er.ty_two x) (.inr rfl)) optN ?_
  refine ⟨_, _, rfl, hG, ?_⟩
  refine thenA_n ?_
  refine AWP.cond rfl (fun h0 => ?_) (fun h0 => ?_)
  · skip
    obtain rfl := hin
    obtain ⟨op, y, rfl⟩ := ty_wr (x := x) (by rw [show x.ty = 94 from by simpa using h0]; decide)
    refine AWP.seq ?_
    refine AWP.region (fun _ => ?_)
    refine ARun.loadBoxA rfl rfl rfl rfl Tryd.underlying101 rfl sz101 (Ev.plain rfl) ((hG.at _ _).trans rfl) rfl rfl optN ?_
    refine ARun.callXR rfl rfl rfl rfl (Ev.plain rfl) (.cons (Ev.plain rfl) .nil) (fun hg => x_elemVF (atO hi)) optN ?_
    refine ARun.move (.inl rfl) rfl rfl rfl (Ev.plain rfl) optN ?_
    refine ARun.callXP rfl rfl rfl rfl (Ev.plain rfl) (.cons (Ev.plain rfl) .nil) (fun hg => x_valueOfF op y) optN ?_
    refine ARun.callXO hi hG rfl rfl rfl rfl (Ev.plain rfl) (.cons (Ev.plain rfl) (.cons (Ev.plain rfl) .nil)) (x_setF (atO hi) rfl rfl) (by simp) optN (fun hG => ?_)
    refine ⟨_, _, rfl, hG, ?_⟩
    refine thenA_n ?_
    refine AWP.seq ?_
    refine AWP.region (fun _ => ?_)
    refine ARun.move (.inr rfl) rfl rfl rfl (Ev.plain rfl) optN ?_
    refine ⟨_, _, rfl, hG, ?_⟩
    refine thenA_n ?_
    refine AWP.ret ?_
    refine thenA_r ?_
    refine blockA_r ?_
    refine thenA_r ?_
    refine blockA_r ?_
    refine endF.toG (congrArg (fun c => H.set i (AO.box c)) rfl) ?_
    refine endF.one (.inr rfl) rfl (.tmp rfl) ?_ (by rw [List.length_set]; exact hN)
    rfl
  · skip
    obtain rfl := hin
    obtain ⟨c, rfl⟩ : ∃ c, x = .no c := by
      cases x with
      | none => cases hx
      | no c => exact ⟨c, rfl⟩
      | wr op e => simp [Er.ty] at h0
    refine AWP.skip ?_
    refine thenA_n ?_
    refine AWP.seq ?_
    refine AWP.seq ?_
    refine AWP.region (fun _ => ?_)
    refine ARun.move (.inl rfl) rfl rfl rfl (Ev.plain rfl) optN ?_
    refine ARun.assertV rfl rfl rfl rfl (Ev.plain rfl) (fun hg => no_as hx) optN ?_
    refine ARun.move (.inl rfl) rfl rfl rfl (Ev.plain rfl) optN ?_
    refine ARun.extract rfl rfl rfl rfl (Ev.plain rfl) rfl optN ?_
    refine ARun.extract rfl rfl rfl rfl (Ev.plain rfl) rfl optN ?_
    refine ARun.move (.inr rfl) rfl rfl rfl (Ev.plain rfl) optN ?_
    refine ARun.move (.inr rfl) rfl rfl rfl (Ev.plain rfl) optN ?_
    refine ⟨_, _, rfl, hG, ?_⟩
    refine thenA_n ?_
    refine AWP.seq ?_
    refine AWP.region (fun _ => ?_)
    refine ARun.move (.inl rfl) rfl rfl rfl (Ev.plain rfl) optN ?_
    refine ARun.move (.inl rfl) rfl rfl rfl (Ev.plain rfl) optN ?_
    refine ARun.move (.inl rfl) rfl rfl rfl (Ev.plain rfl) optS ?_
    refine ARun.move (.inl rfl) rfl rfl rfl (Ev.plain rfl) optS ?_
    refine ARun.invokeX (F := 0) (X' := .bool false) (r := .bool false) rfl rfl rfl rfl (Ev.opt rfl (fun h => h)) (fun hg => absurd hg (by decide)) (.cons (Ev.opt rfl (fun h => h)) .nil) (fun hg => absurd hg (by decide)) optS ?_
    refine ARun.pick rfl rfl rfl rfl (Ev.plain rfl) (Ev.opt rfl (by first | exact pkT | exact pkT2 | simp +contextual)) (Ev.plain rfl) (andB _ _) optN ?_
    refine ⟨_, _, rfl, hG, ?_⟩
    refine thenA_n ?_
    refine AWP.cond rfl (fun h1 => ?_) (fun h1 => ?_)
    · skip
      exact absurd h1 (by decide)
    · skip
      refine AWP.skip ?_
      refine thenA_n ?_
      refine AWP.seq ?_
      refine AWP.region (fun _ => ?_)
      refine ARun.move (.inl rfl) rfl rfl rfl (Ev.plain rfl) optN ?_
      refine ⟨_, _, rfl, hG, ?_⟩
      refine thenA_n ?_
      refine AWP.block ?_
      refine AWP.seq ?_
      refine AWP.region (fun _ => ?_)
      refine ARun.assertV rfl rfl rfl rfl (Ev.plain rfl) (fun hg => to_unwrap hx) optN ?_
      refine ARun.extract rfl rfl rfl rfl (Ev.plain rfl) rfl optN ?_
      refine ARun.extract rfl rfl rfl rfl (Ev.plain rfl) rfl optN ?_
      refine ⟨_, _, rfl, hG, ?_⟩
      refine thenA_n ?_
      refine AWP.cond rfl (fun h2 => ?_) (fun h2 => ?_)
      · skip
        cases h2
      · skip
        refine AWP.seq ?_
        refine AWP.region (fun _ => ?_)
        refine ARun.assertV rfl rfl rfl rfl (Ev.plain rfl) (fun hg => no_unwraps0 hx) optN ?_
        refine ARun.extract rfl rfl rfl rfl (Ev.plain rfl) rfl optN ?_
        refine ARun.extract rfl rfl rfl rfl (Ev.plain rfl) rfl optN ?_
        refine ⟨_, _, rfl, hG, ?_⟩
        refine thenA_n ?_
        refine AWP.cond rfl (fun h3 => ?_) (fun h3 => ?_)
        · skip
          cases h3
        · skip
          refine AWP.seq ?_
          refine AWP.region (fun _ => ?_)
          refine ARun.move (.inr rfl) rfl rfl rfl (Ev.plain rfl) optN ?_
          refine ⟨_, _, rfl, hG, ?_⟩
          refine thenA_n ?_
          refine AWP.seq ?_
          refine AWP.region (fun _ => ?_)
          refine ARun.move (.inr rfl) rfl rfl rfl (Ev.plain rfl) optN ?_
          refine ⟨_, _, rfl, hG, ?_⟩
          refine thenA_n ?_
          refine AWP.ret ?_
          refine blockA_r ?_
          refine blockA_r ?_
          refine thenA_r ?_
          refine blockA_r ?_
          refine endF.toG (congrArg (fun c => H.set i (AO.box c)) rfl) ?_
          refine endF.one (.inr rfl) rfl (.tmp rfl) ?_ (by rw [List.length_set]; exact hN)
          rfl
set_option maxHeartbeats 1000000 in
theorem As_E (e : Er) (old : Int) : FnM Tryd.prog 42 (fun i => [aEr e, .ifc 75 (.box i 0)]) [.int .i64 old] (.bool e.found.isSome) [.int .i64 (e.found.getD old)] := by
  refine FnM.of Tryd.func42 rfl rfl (fun i => by simp) (fun H i m hHm hi hG => ?_)
  have hN : NoH H.length (.bool e.found.isSome) := (by simp [AV.cells])
  refine AWP.seq ?_
  refine AWP.region (fun _ => ?_)
  refine ARun.move (.inr rfl) rfl rfl rfl (Ev.plain rfl) optN ?_
  refine ⟨_, _, rfl, hG, ?_⟩
  refine thenA_n ?_
  refine AWP.seq ?_
  refine AWP.seq ?_
  refine AWP.region (fun _ => ?_)
  refine ARun.move (.inl rfl) rfl rfl rfl (Ev.plain rfl) optN ?_
  refine ARun.isNil rfl rfl rfl rfl Tryd.underlying52 (Ev.plain rfl) (fun hg => by first | rfl | exact nilA_aEr _) (.inl ⟨rfl, rfl⟩) optN ?_
  refine ⟨_, _, rfl, hG, ?_⟩
  refine thenA_n ?_
  refine AWP.cond rfl (fun h0 => ?_) (fun h0 => ?_)
  · skip
    obtain rfl := is_none h0
    refine AWP.seq ?_
    refine AWP.region (fun _ => ?_)
    refine ARun.move (.inr rfl) rfl rfl rfl (Ev.plain rfl) optN ?_
    refine ⟨_, _, rfl, hG, ?_⟩
    refine thenA_n ?_
    refine AWP.ret ?_
    refine thenA_r ?_
    refine endF.toG (congrArg (fun c => H.set i (AO.box c)) rfl) ?_
    refine endF.one (.inr rfl) rfl (.tmp rfl) ?_ (by rw [List.length_set]; exact hN)
    rfl
  · skip
    refine AWP.skip ?_
    refine thenA_n ?_
    refine AWP.seq ?_
    refine AWP.seq ?_
    refine AWP.region (fun _ => ?_)
    refine ARun.move (.inl rfl) rfl rfl rfl (Ev.plain rfl) optN ?_
    refine ARun.isNil rfl rfl rfl rfl Tryd.underlying20 (Ev.plain rfl) (fun hg => by first | rfl | exact nilA_aEr _) (.inl ⟨rfl, rfl⟩) optN ?_
    refine ⟨_, _, rfl, hG, ?_⟩
    refine thenA_n ?_
    refine AWP.cond rfl (fun h1 => ?_) (fun h1 => ?_)
    · skip
      first | (exact absurd h1 (by decide)) | (simp at h1; done)
    · skip
      refine AWP.skip ?_
      refine thenA_n ?_
      refine AWP.seq ?_
      refine AWP.region (fun _ => ?_)
      refine ARun.move (.inl rfl) rfl rfl rfl (Ev.plain rfl) optN ?_
      refine ARun.callXR rfl rfl rfl rfl (Ev.plain rfl) (.cons (Ev.plain rfl) .nil) (fun hg => x_valueOfPE (atO hi)) optN ?_
      refine ARun.alloc (j := 0) hG rfl rfl rfl rfl rfl zv101 rfl optN ?_
      refine ARun.storeL hG rfl rfl rfl sz101 (Ev.plain rfl) (Ev.plain rfl) rfl rfl rfl rfl rfl (Nat.le_of_ble_eq_true rfl) rfl rfl ?_
      refine ⟨_, _, rfl, hG, ?_⟩
      refine thenA_n ?_
      refine AWP.seq ?_
      refine AWP.region (fun _ => ?_)
      refine ARun.loadBoxA rfl rfl rfl rfl Tryd.underlying101 rfl sz101 (Ev.plain rfl) ((hG.at _ _).trans rfl) rfl rfl optN ?_
      refine ARun.callXP rfl rfl rfl rfl (Ev.plain rfl) (.cons (Ev.plain rfl) .nil) (fun hg => x_typeE _) optN ?_
      refine ARun.move (.inr rfl) rfl rfl rfl (Ev.plain rfl) optN ?_
      refine ⟨_, _, rfl, hG, ?_⟩
      refine thenA_n ?_
      refine AWP.seq ?_
      refine AWP.seq ?_
      refine AWP.region (fun _ => ?_)
      refine ARun.move (.inl rfl) rfl rfl rfl (Ev.plain rfl) optN ?_
      refine ARun.invokeX rfl rfl rfl rfl (Ev.plain rfl) (fun hg => inv_kind _) .nil (fun hg => x_kindPE) optN ?_
      refine ARun.cmp rfl rfl rfl rfl (Ev.plain rfl) (Ev.plain rfl) rfl optN ?_
      refine ARun.move (.inl rfl) rfl rfl rfl (Ev.plain rfl) optN ?_
      refine ARun.loadBoxA rfl rfl rfl rfl Tryd.underlying101 rfl sz101 (Ev.plain rfl) ((hG.at _ _).trans rfl) rfl rfl optS ?_
      refine ARun.callXR rfl rfl rfl rfl (Ev.plain rfl) (.cons (Ev.opt rfl (fun h => h)) .nil) (fun hg => x_isNilE (atO hi)) optS ?_
      refine ARun.pick rfl rfl rfl rfl (Ev.plain rfl) (Ev.plain rfl) (Ev.opt rfl (by first | exact pkF | exact pkF2 | simp +contextual)) (orB _ _) optN ?_
      refine ⟨_, _, rfl, hG, ?_⟩
      refine thenA_n ?_
      refine AWP.cond rfl (fun h2 => ?_) (fun h2 => ?_)
      · skip
        first | (exact absurd h2 (by decide)) | (simp at h2; done)
      · skip
        refine AWP.skip ?_
        refine thenA_n ?_
        refine AWP.seq ?_
        refine AWP.region (fun _ => ?_)
        refine ARun.move (.inl rfl) rfl rfl rfl (Ev.plain rfl) optN ?_
        refine ARun.invokeX rfl rfl rfl rfl (Ev.plain rfl) (fun hg => inv_elem _) .nil (fun hg => x_elemE) optN ?_
        refine ARun.move (.inr rfl) rfl rfl rfl (Ev.plain rfl) optN ?_
        refine ⟨_, _, rfl, hG, ?_⟩
        refine thenA_n ?_
        refine AWP.seq ?_
        refine AWP.seq ?_
        refine AWP.region (fun _ => ?_)
        refine ARun.move (.inl rfl) rfl rfl rfl (Ev.plain rfl) optN ?_
        refine ARun.invokeX rfl rfl rfl rfl (Ev.plain rfl) (fun hg => inv_kind _) .nil (fun hg => x_kindE) optN ?_
        refine ARun.cmp rfl rfl rfl rfl (Ev.plain rfl) (Ev.plain rfl) rfl optN ?_
        refine ARun.move (.inl rfl) rfl rfl rfl (Ev.plain rfl) optN ?_
        refine ARun.move (.inl rfl) rfl rfl rfl (Ev.plain rfl) optS ?_
        refine ARun.loadGlob rfl rfl rfl rfl Tryd.underlying104 rfl glob_mem (fun β W => rT_mk _ _ _) optS ?_
        refine ARun.invokeX rfl rfl rfl rfl (Ev.opt rfl (fun h => h)) (fun hg => inv_impl _) (.cons (Ev.opt rfl (fun h => h)) .nil) (fun hg => x_implE) optS ?_
        refine ARun.not rfl rfl rfl rfl (Ev.opt rfl (fun h => h)) optS ?_
        refine ARun.pick rfl rfl rfl rfl (Ev.plain rfl) (Ev.opt rfl (by first | exact pkT | exact pkT2 | simp +contextual)) (Ev.plain rfl) (andB _ _) optN ?_
        refine ⟨_, _, rfl, hG, ?_⟩
        refine thenA_n ?_
        refine AWP.cond rfl (fun h3 => ?_) (fun h3 => ?_)
        · skip
          first | (exact absurd h3 (by decide)) | (simp at h3; done)
        · skip
          refine AWP.skip ?_
          refine thenA_n ?_
          refine AWP.seq ?_
          refine AWP.region (fun _ => ?_)
          refine ARun.move (.inl rfl) rfl rfl rfl (Ev.plain rfl) optN ?_
          refine ARun.move (.inl rfl) rfl rfl rfl (Ev.plain rfl) optN ?_
          refine ARun.loadBoxA rfl rfl rfl rfl Tryd.underlying101 rfl sz101 (Ev.plain rfl) ((hG.at _ _).trans rfl) rfl rfl optN ?_
          refine ARun.move (.inl rfl) rfl rfl rfl (Ev.plain rfl) optN ?_
          refine ARun.callO hi hG rfl rfl rfl rfl cf59 (Ev.plain rfl) (.cons (Ev.plain rfl) (.cons (Ev.plain rfl) (.cons (Ev.plain rfl) (.cons (Ev.plain rfl) .nil)))) rfl (asE_fn e old h0 _ _ (atO hi)) (by simp) optN (fun hG => ?_)
          refine ARun.move (.inr rfl) rfl rfl rfl (Ev.plain rfl) optN ?_
          refine ⟨_, _, rfl, hG, ?_⟩
          refine thenA_n ?_
          refine AWP.ret ?_
          refine endF.toG (congrArg (fun c => H.set i (AO.box c)) rfl) ?_
          refine endF.one (.inr rfl) rfl (.tmp rfl) ?_ (by rw [List.length_set]; exact hN)
          rfl
set_option maxHeartbeats 1000000 in
theorem As_F (e : Er) : FnM Tryd.prog 42 (fun i => [aEr e, .ifc 117 (.box i 0)]) [.raw (.pointer .none)] (.bool e.isWr) [aFl e] := by
  refine FnM.of Tryd.func42 rfl rfl (fun i => by simp) (fun H i m hHm hi hG => ?_)
  have hN : NoH H.length (.bool e.isWr) := (by simp [AV.cells])
  refine AWP.seq ?_
  refine AWP.region (fun _ => ?_)
  refine ARun.move (.inr rfl) rfl rfl rfl (Ev.plain rfl) optN ?_
  refine ⟨_, _, rfl, hG, ?_⟩
  refine thenA_n ?_
  refine AWP.seq ?_
  refine AWP.seq ?_
  refine AWP.region (fun _ => ?_)
  refine ARun.move (.inl rfl) rfl rfl rfl (Ev.plain rfl) optN ?_
  refine ARun.isNil rfl rfl rfl rfl Tryd.underlying52 (Ev.plain rfl) (fun hg => by first | rfl | exact nilA_aEr _) (.inl ⟨rfl, rfl⟩) optN ?_
  refine ⟨_, _, rfl, hG, ?_⟩
  refine thenA_n ?_
  refine AWP.cond rfl (fun h0 => ?_) (fun h0 => ?_)
  · skip
    obtain rfl := is_none h0
    refine AWP.seq ?_
    refine AWP.region (fun _ => ?_)
    refine ARun.move (.inr rfl) rfl rfl rfl (Ev.plain rfl) optN ?_
    refine ⟨_, _, rfl, hG, ?_⟩
    refine thenA_n ?_
    refine AWP.ret ?_
    refine thenA_r ?_
    refine endF.toG (congrArg (fun c => H.set i (AO.box c)) rfl) ?_
    refine endF.one (.inr rfl) rfl (.tmp rfl) ?_ (by rw [List.length_set]; exact hN)
    rfl
  · skip
    refine AWP.skip ?_
    refine thenA_n ?_
    refine AWP.seq ?_
    refine AWP.seq ?_
    refine AWP.region (fun _ => ?_)
    refine ARun.move (.inl rfl) rfl rfl rfl (Ev.plain rfl) optN ?_
    refine ARun.isNil rfl rfl rfl rfl Tryd.underlying20 (Ev.plain rfl) (fun hg => by first | rfl | exact nilA_aEr _) (.inl ⟨rfl, rfl⟩) optN ?_
    refine ⟨_, _, rfl, hG, ?_⟩
    refine thenA_n ?_
    refine AWP.cond rfl (fun h1 => ?_) (fun h1 => ?_)
    · skip
      first | (exact absurd h1 (by decide)) | (simp at h1; done)
    · skip
      refine AWP.skip ?_
      refine thenA_n ?_
      refine AWP.seq ?_
      refine AWP.region (fun _ => ?_)
      refine ARun.move (.inl rfl) rfl rfl rfl (Ev.plain rfl) optN ?_
      refine ARun.callXR rfl rfl rfl rfl (Ev.plain rfl) (.cons (Ev.plain rfl) .nil) (fun hg => x_valueOfPF (atO hi)) optN ?_
      refine ARun.alloc (j := 0) hG rfl rfl rfl rfl rfl zv101 rfl optN ?_
      refine ARun.storeL hG rfl rfl rfl sz101 (Ev.plain rfl) (Ev.plain rfl) rfl rfl rfl rfl rfl (Nat.le_of_ble_eq_true rfl) rfl rfl ?_
      refine ⟨_, _, rfl, hG, ?_⟩
      refine thenA_n ?_
      refine AWP.seq ?_
      refine AWP.region (fun _ => ?_)
      refine ARun.loadBoxA rfl rfl rfl rfl Tryd.underlying101 rfl sz101 (Ev.plain rfl) ((hG.at _ _).trans rfl) rfl rfl optN ?_
      refine ARun.callXP rfl rfl rfl rfl (Ev.plain rfl) (.cons (Ev.plain rfl) .nil) (fun hg => x_typeF _) optN ?_
      refine ARun.move (.inr rfl) rfl rfl rfl (Ev.plain rfl) optN ?_
      refine ⟨_, _, rfl, hG, ?_⟩
      refine thenA_n ?_
      refine AWP.seq ?_
      refine AWP.seq ?_
      refine AWP.region (fun _ => ?_)
      refine ARun.move (.inl rfl) rfl rfl rfl (Ev.plain rfl) optN ?_
      refine ARun.invokeX rfl rfl rfl rfl (Ev.plain rfl) (fun hg => inv_kind _) .nil (fun hg => x_kindPF) optN ?_
      refine ARun.cmp rfl rfl rfl rfl (Ev.plain rfl) (Ev.plain rfl) rfl optN ?_
      refine ARun.move (.inl rfl) rfl rfl rfl (Ev.plain rfl) optN ?_
      refine ARun.loadBoxA rfl rfl rfl rfl Tryd.underlying101 rfl sz101 (Ev.plain rfl) ((hG.at _ _).trans rfl) rfl rfl optS ?_
      refine ARun.callXR rfl rfl rfl rfl (Ev.plain rfl) (.cons (Ev.opt rfl (fun h => h)) .nil) (fun hg => x_isNilF (atO hi)) optS ?_
      refine ARun.pick rfl rfl rfl rfl (Ev.plain rfl) (Ev.plain rfl) (Ev.opt rfl (by first | exact pkF | exact pkF2 | simp +contextual)) (orB _ _) optN ?_
      refine ⟨_, _, rfl, hG, ?_⟩
      refine thenA_n ?_
      refine AWP.cond rfl (fun h2 => ?_) (fun h2 => ?_)
      · skip
        first | (exact absurd h2 (by decide)) | (simp at h2; done)
      · skip
        refine AWP.skip ?_
        refine thenA_n ?_
        refine AWP.seq ?_
        refine AWP.region (fun _ => ?_)
        refine ARun.move (.inl rfl) rfl rfl rfl (Ev.plain rfl) optN ?_
        refine ARun.invokeX rfl rfl rfl rfl (Ev.plain rfl) (fun hg => inv_elem _) .nil (fun hg => x_elemF) optN ?_
        refine ARun.move (.inr rfl) rfl rfl rfl (Ev.plain rfl) optN ?_
        refine ⟨_, _, rfl, hG, ?_⟩
        refine thenA_n ?_
        refine AWP.seq ?_
        refine AWP.seq ?_
        refine AWP.region (fun _ => ?_)
        refine ARun.move (.inl rfl) rfl rfl rfl (Ev.plain rfl) optN ?_
        refine ARun.invokeX rfl rfl rfl rfl (Ev.plain rfl) (fun hg => inv_kind _) .nil (fun hg => x_kindF) optN ?_
        refine ARun.cmp rfl rfl rfl rfl (Ev.plain rfl) (Ev.plain rfl) rfl optN ?_
        refine ARun.move (.inl rfl) rfl rfl rfl (Ev.plain rfl) optN ?_
        refine ARun.move (.inl rfl) rfl rfl rfl (Ev.plain rfl) optS ?_
        refine ARun.loadGlob rfl rfl rfl rfl Tryd.underlying104 rfl glob_mem (fun β W => rT_mk _ _ _) optS ?_
        refine ARun.invokeX rfl rfl rfl rfl (Ev.opt rfl (fun h => h)) (fun hg => inv_impl _) (.cons (Ev.opt rfl (fun h => h)) .nil) (fun hg => x_implF) optS ?_
        refine ARun.not rfl rfl rfl rfl (Ev.opt rfl (fun h => h)) optS ?_
        refine ARun.pick rfl rfl rfl rfl (Ev.plain rfl) (Ev.opt rfl (by first | exact pkT | exact pkT2 | simp +contextual)) (Ev.plain rfl) (andB _ _) optN ?_
        refine ⟨_, _, rfl, hG, ?_⟩
        refine thenA_n ?_
        refine AWP.cond rfl (fun h3 => ?_) (fun h3 => ?_)
        · skip
          first | (exact absurd h3 (by decide)) | (simp at h3; done)
        · skip
          refine AWP.skip ?_
          refine thenA_n ?_
          refine AWP.seq ?_
          refine AWP.region (fun _ => ?_)
          refine ARun.move (.inl rfl) rfl rfl rfl (Ev.plain rfl) optN ?_
          refine ARun.move (.inl rfl) rfl rfl rfl (Ev.plain rfl) optN ?_
          refine ARun.loadBoxA rfl rfl rfl rfl Tryd.underlying101 rfl sz101 (Ev.plain rfl) ((hG.at _ _).trans rfl) rfl rfl optN ?_
          refine ARun.move (.inl rfl) rfl rfl rfl (Ev.plain rfl) optN ?_
          refine ARun.callO hi hG rfl rfl rfl rfl cf59 (Ev.plain rfl) (.cons (Ev.plain rfl) (.cons (Ev.plain rfl) (.cons (Ev.plain rfl) (.cons (Ev.plain rfl) .nil)))) rfl (asF_fn e h0 _ _ (atO hi)) (by simp) optN (fun hG => ?_)
          refine ARun.move (.inr rfl) rfl rfl rfl (Ev.plain rfl) optN ?_
          refine ⟨_, _, rfl, hG, ?_⟩
          refine thenA_n ?_
          refine AWP.ret ?_
          refine endF.toG (congrArg (fun c => H.set i (AO.box c)) rfl) ?_
          refine endF.one (.inr rfl) rfl (.tmp rfl) ?_ (by rw [List.length_set]; exact hN)
          rfl
theorem code_none : Er.code .none = 0 := rfl
theorem code_of {e : Er} (h : e.isNone = false) : e.code = match e.found with | some c => if c = 0 then 2 else c | Option.none => 2 := by cases e <;> first | rfl | cases h
theorem code_two {e : Er} (h : e.isNone = false) (k : e.found = Option.none ∨ e.found.getD 0 = 0) : e.code = 2 := by
  rw [code_of h]
  cases hf : e.found with
  | none => rfl
  | some c => rw [hf] at k; simp at k; simp [k]
theorem code_got {e : Er} (h : e.isNone = false) (k : e.found.isSome = true) (k2 : ¬ e.found.getD 0 = 0) : e.code = e.found.getD 0 := by
  rw [code_of h]
  cases hf : e.found with
  | none => rw [hf] at k; cases k
  | some c => rw [hf] at k2; simp at k2; simp [k2]
set_option maxHeartbeats 1000000 in
theorem new_fn (op : ByteArray) (c : Int) : FnP Tryd.prog 40 [.str op, .int .i64 c] (aEr (Er.new op c)) := by
  refine FnP.of Tryd.func40 rfl rfl (by simp) (by simp [AV.cells]) (fun G hG => ?_)
  have hN : NoH G.length (aEr (Er.new op c)) := (by simp [AV.cells])
  refine AWP.seq ?_
  refine AWP.region (fun _ => ?_)
  refine ARun.move (.inr rfl) rfl rfl rfl (Ev.plain rfl) optN ?_
  refine ⟨_, _, rfl, hG, ?_⟩
  refine thenA_n ?_
  refine AWP.seq ?_
  refine AWP.seq ?_
  refine AWP.region (fun _ => ?_)
  refine ARun.move (.inl rfl) rfl rfl rfl (Ev.plain rfl) optN ?_
  refine ARun.cmp rfl rfl rfl rfl (Ev.plain rfl) (Ev.plain rfl) rfl optN ?_
  refine ⟨_, _, rfl, hG, ?_⟩
  refine thenA_n ?_
  refine AWP.cond rfl (fun h0 => ?_) (fun h0 => ?_)
  · skip
    refine AWP.seq ?_
    refine AWP.region (fun _ => ?_)
    refine ARun.move (.inr rfl) rfl rfl rfl (Ev.plain rfl) optN ?_
    refine ⟨_, _, rfl, hG, ?_⟩
    refine thenA_n ?_
    refine AWP.ret ?_
    refine thenA_r ?_
    refine endF.one (.inr rfl) rfl (.tmp rfl) ?_ hN
    rw [Er.new, if_pos (by simpa using h0)]; rfl
  · skip
    refine AWP.skip ?_
    refine thenA_n ?_
    refine AWP.seq ?_
    refine AWP.region (fun _ => ?_)
    refine ARun.move (.inl rfl) rfl rfl rfl (Ev.plain rfl) optN ?_
    refine ARun.move (.inl rfl) rfl rfl rfl (Ev.plain rfl) optN ?_
    refine ARun.iface rfl rfl rfl rfl (by kernel_rfl) (Ev.plain rfl) optN ?_
    refine ARun.build rfl rfl rfl rfl so96 (.cons (Ev.plain rfl) (.cons (Ev.plain rfl) .nil)) rfl rfl optN ?_
    refine ARun.boxPe rfl rfl rfl rfl (Ev.plain rfl) rfl rfl optN ?_
    refine ARun.iface rfl rfl rfl rfl (by kernel_rfl) (Ev.plain rfl) optN ?_
    refine ARun.move (.inr rfl) rfl rfl rfl (Ev.plain rfl) optN ?_
    refine ⟨_, _, rfl, hG, ?_⟩
    refine thenA_n ?_
    refine AWP.ret ?_
    refine endF.one (.inr rfl) rfl (.tmp rfl) ?_ hN
    rw [Er.new, if_neg (by simpa using h0)]; rfl
set_option maxHeartbeats 1000000 in
theorem wrap_fn (op : ByteArray) (e : Er) : FnP Tryd.prog 39 [.str op, aEr e] (aEr (Er.wrap op e)) := by
  refine FnP.of Tryd.func39 rfl rfl (by simp) (by simp [AV.cells]) (fun G hG => ?_)
  have hN : NoH G.length (aEr (Er.wrap op e)) := (by simp [AV.cells])
  refine AWP.seq ?_
  refine AWP.region (fun _ => ?_)
  refine ARun.move (.inr rfl) rfl rfl rfl (Ev.plain rfl) optN ?_
  refine ⟨_, _, rfl, hG, ?_⟩
  refine thenA_n ?_
  refine AWP.seq ?_
  refine AWP.seq ?_
  refine AWP.region (fun _ => ?_)
  refine ARun.move (.inl rfl) rfl rfl rfl (Ev.plain rfl) optN ?_
  refine ARun.isNil rfl rfl rfl rfl Tryd.underlying52 (Ev.plain rfl) (fun hg => by first | rfl | exact nilA_aEr _) (.inl ⟨rfl, rfl⟩) optN ?_
  refine ⟨_, _, rfl, hG, ?_⟩
  refine thenA_n ?_
  refine AWP.cond rfl (fun h0 => ?_) (fun h0 => ?_)
  · skip
    refine AWP.seq ?_
    refine AWP.region (fun _ => ?_)
    refine ARun.move (.inr rfl) rfl rfl rfl (Ev.plain rfl) optN ?_
    refine ⟨_, _, rfl, hG, ?_⟩
    refine thenA_n ?_
    refine AWP.ret ?_
    refine thenA_r ?_
    refine endF.one (.inr rfl) rfl (.tmp rfl) ?_ hN
    rw [Er.wrap, if_pos h0]; rfl
  · skip
    rw [aEr_ifc h0]
    refine AWP.skip ?_
    refine thenA_n ?_
    refine AWP.seq ?_
    refine AWP.region (fun _ => ?_)
    refine ARun.move (.inl rfl) rfl rfl rfl (Ev.plain rfl) optN ?_
    refine ARun.move (.inl rfl) rfl rfl rfl (Ev.plain rfl) optN ?_
    refine ARun.build rfl rfl rfl rfl so96 (.cons (Ev.plain rfl) (.cons (Ev.plain rfl) .nil)) rfl rfl optN ?_
    refine ARun.boxPe rfl rfl rfl rfl (Ev.plain rfl) rfl rfl optN ?_
    refine ARun.iface rfl rfl rfl rfl (by kernel_rfl) (Ev.plain rfl) optN ?_
    refine ARun.move (.inr rfl) rfl rfl rfl (Ev.plain rfl) optN ?_
    refine ⟨_, _, rfl, hG, ?_⟩
    refine thenA_n ?_
    refine AWP.ret ?_
    refine endF.one (.inr rfl) rfl (.tmp rfl) ?_ hN
    rw [Er.wrap, if_neg (by simp [h0])]
    show _ = AV.ifc _ (.pe [.str op, aEr e])
    rw [aEr_ifc h0]; rfl
set_option maxHeartbeats 1000000 in
theorem code_fn (e : Er) : FnP Tryd.prog 23 [aEr e] (.int .i64 e.code) := by
  refine FnP.of Tryd.func23 rfl rfl (by simp) (by simp [AV.cells]) (fun G hG => ?_)
  have hN : NoH G.length (.int .i64 e.code) := (by simp [AV.cells])
  refine AWP.seq ?_
  refine AWP.region (fun _ => ?_)
  refine ARun.move (.inr rfl) rfl rfl rfl (Ev.plain rfl) optN ?_
  refine ⟨_, _, rfl, hG, ?_⟩
  refine thenA_n ?_
  refine AWP.seq ?_
  refine AWP.seq ?_
  refine AWP.region (fun _ => ?_)
  refine ARun.move (.inl rfl) rfl rfl rfl (Ev.plain rfl) optN ?_
  refine ARun.isNil rfl rfl rfl rfl Tryd.underlying52 (Ev.plain rfl) (fun hg => by first | rfl | exact nilA_aEr _) (.inl ⟨rfl, rfl⟩) optN ?_
  refine ⟨_, _, rfl, hG, ?_⟩
  refine thenA_n ?_
  refine AWP.cond rfl (fun h0 => ?_) (fun h0 => ?_)
  · skip
    obtain rfl := is_none h0
    refine AWP.seq ?_
    refine AWP.region (fun _ => ?_)
    refine ARun.move (.inr rfl) rfl rfl rfl (Ev.plain rfl) optN ?_
    refine ⟨_, _, rfl, hG, ?_⟩
    refine thenA_n ?_
    refine AWP.ret ?_
    refine thenA_r ?_
    refine endF.one (.inr rfl) rfl (.tmp rfl) ?_ hN
    rfl
  · skip
    try simp at h0
    refine AWP.skip ?_
    refine thenA_n ?_
    refine AWP.seq ?_
    refine AWP.region (fun _ => ?_)
    refine ARun.alloc (j := 0) hG rfl rfl rfl rfl rfl zv29 rfl optN ?_
    refine ⟨_, _, rfl, hG, ?_⟩
    refine thenA_n ?_
    refine AWP.seq ?_
    refine AWP.seq ?_
    refine AWP.region (fun _ => ?_)
    refine ARun.move (.inl rfl) rfl rfl rfl (Ev.plain rfl) optN ?_
    refine ARun.iface rfl rfl rfl rfl (by kernel_rfl) (Ev.plain rfl) optN ?_
    refine ARun.callSet (j := 0) hG rfl rfl rfl rfl cf42 (Ev.plain rfl) (.cons (Ev.plain rfl) (.cons (Ev.plain rfl) .nil)) rfl (As_E e 0 _ _ ((hG.at _ _).trans rfl)) rfl optN ?_
    refine ARun.not rfl rfl rfl rfl (Ev.plain rfl) optN ?_
    refine ARun.move (.inl rfl) rfl rfl rfl (Ev.plain rfl) optN ?_
    refine ARun.loadBox rfl rfl rfl rfl Tryd.underlying29 rfl (Ev.plain rfl) ((hG.at _ _).trans rfl) rfl optS ?_
    refine ARun.cmp rfl rfl rfl rfl (Ev.opt rfl (fun h => h)) (Ev.plain rfl) rfl optS ?_
    refine ARun.pick rfl rfl rfl rfl (Ev.plain rfl) (Ev.plain rfl) (Ev.opt rfl (by first | exact pkF | exact pkF2 | simp +contextual)) (orB _ _) optN ?_
    refine ⟨_, _, rfl, hG, ?_⟩
    refine thenA_n ?_
    refine AWP.cond rfl (fun h1 => ?_) (fun h1 => ?_)
    · skip
      try simp at h1
      refine AWP.seq ?_
      refine AWP.region (fun _ => ?_)
      refine ARun.move (.inr rfl) rfl rfl rfl (Ev.plain rfl) optN ?_
      refine ⟨_, _, rfl, hG, ?_⟩
      refine thenA_n ?_
      refine AWP.ret ?_
      refine thenA_r ?_
      refine endF.one (.inr rfl) rfl (.tmp rfl) ?_ hN
      rw [code_two h0 h1]; rfl
    · skip
      try simp at h1
      refine AWP.skip ?_
      refine thenA_n ?_
      refine AWP.seq ?_
      refine AWP.region (fun _ => ?_)
      refine ARun.loadBox rfl rfl rfl rfl Tryd.underlying29 rfl (Ev.plain rfl) ((hG.at _ _).trans rfl) rfl optN ?_
      refine ARun.move (.inr rfl) rfl rfl rfl (Ev.plain rfl) optN ?_
      refine ⟨_, _, rfl, hG, ?_⟩
      refine thenA_n ?_
      refine AWP.ret ?_
      refine endF.one (.inr rfl) rfl (.tmp rfl) ?_ hN
      rw [code_got h0 h1.1 h1.2]
/-- fail.Is -/
def isP (e : Er) (c : Int) : Bool := if e.isNone = true ∨ c = 0 then e.isNone && decide (c = 0) else decide (e.found = some c) || decide (e.code = c)
theorem isWr_ops {e : Er} (h : e.isWr = false) : e.ops = [] := by cases e <;> first | rfl | cases h
theorem map_snocS (l : List ByteArray) (x : ByteArray) : l.map AV.str ++ [AV.str x] = (l ++ [x]).map AV.str := by simp
theorem ops_len (e : Er) : e.ops.length = e.depth := by
  induction e with
  | wr op e ih => simp [Er.ops, Er.depth, ih]
  | _ => rfl
def dgs (n : Nat) : List UInt8 := if n = 0 then [] else dgs (n / 10) ++ [UInt8.ofNat (48 + n % 10)]
termination_by n
def dgB (n : Int) : ByteArray := ⟨(dgs n.toNat).toArray⟩
theorem dgB_pos {n : Int} (h : 0 < n) : dgB n = dgB (n.tdiv 10) ++ ⟨#[UInt8.ofNat (48 + n.tmod 10).toNat]⟩ := by
  obtain ⟨m, rfl⟩ : ∃ m : Nat, n = (m : Int) := ⟨n.toNat, by omega⟩
  have h1 : ((m : Int).tdiv 10).toNat = m / 10 := by rw [Int.tdiv_eq_ediv_of_nonneg (by omega)]; omega
  have h2 : (48 + (m : Int).tmod 10).toNat = 48 + m % 10 := by rw [Int.tmod_eq_emod_of_nonneg (by omega)]; omega
  apply ByteArray.ext
  apply Array.toList_inj.1
  unfold dgB
  rw [h1, h2, Int.toNat_natCast]
  rw [dgs, if_neg (by omega)]
  simp
theorem dgB_zero {n : Int} (h : n ≤ 0) : dgB n = ⟨#[]⟩ := by
  unfold dgB
  rw [show n.toNat = 0 by omega, dgs, if_pos rfl]
theorem dgs_len (k : Nat) : ∀ n : Nat, n < 10 ^ k → (dgs n).length ≤ k := by
  induction k with
  | zero => intro n h; rw [dgs, if_pos (by simpa using h)]; simp
  | succ k ih =>
    intro n h
    rw [dgs]
    split
    · simp
    · have := ih (n / 10) (by rw [Nat.pow_succ] at h; omega)
      simp; omega
theorem dgB_len {n : Int} (h : n ≤ 9223372036854775807) : (dgB n).size ≤ 19 := by
  have := dgs_len 19 n.toNat (by have : n.toNat ≤ 9223372036854775807 := by omega
                                 omega)
  simpa [dgB, ByteArray.size] using this
/-- Errno.Error -/
def errText (c : Int) : ByteArray := if c ≤ 0 then ⟨#[101, 114, 114, 111, 114, 32, 48]⟩ else ⟨#[101, 114, 114, 111, 114, 32]⟩ ++ dgB c
theorem app_assoc (a b c : ByteArray) : a ++ b ++ c = a ++ (b ++ c) := by apply ByteArray.ext; simp
theorem emp_app (a : ByteArray) : (⟨#[]⟩ : ByteArray) ++ a = a := by apply ByteArray.ext; simp
theorem app_emp (a : ByteArray) : a ++ (⟨#[]⟩ : ByteArray) = a := by apply ByteArray.ext; simp
theorem u8_dig {n : Int} (h : 0 ≤ n) : IntKind.u8.wrap (48 + n.tmod 10) = 48 + n.tmod 10 := by
  rw [Int.tmod_eq_emod_of_nonneg h]
  have : IntKind.u8.wrap (48 + n % 10) = (48 + n % 10) % 256 := rfl
  rw [this]; omega
theorem dg_step {n : Int} {s T : ByteArray} (hI : dgB n ++ s = T) (h : 0 < n) : dgB (n.tdiv 10) ++ (bytesOf [.int .u8 (48 + n.tmod 10)] ++ s) = T := by
  rw [← hI, dgB_pos h, app_assoc]; rfl
/-- the reference's digits -/
def digR (c : Int) : ByteArray := if c ≤ 0 then ⟨#[48]⟩ else dgB c
/-- the text of what lies innermost -/
def innerText (e : Er) : ByteArray := match e.inner with | .no c => errText c | _ => ⟨#[]⟩
theorem inner_not {e : Er} (h : e.isWr = false) : e.inner = e := by cases e <;> first | rfl | cases h
def Er.fits : Er → Prop | .wr _ e => e.fits | .no c => c ≤ 9223372036854775807 | _ => True
theorem fits_inner {e : Er} (h : e.fits) : e.inner.fits := by
  induction e with
  | wr op e ih => exact ih h
  | none => exact h
  | no c => exact h
def opsText : List ByteArray → ByteArray | [] => ⟨#[]⟩ | op :: l => (op ++ ⟨#[58, 32]⟩) ++ opsText l
def textB (e : Er) : ByteArray := opsText e.ops ++ innerText e
theorem opsText_snoc (l : List ByteArray) (op : ByteArray) : opsText (l ++ [op]) = opsText l ++ (op ++ ⟨#[58, 32]⟩) := by
  induction l with
  | nil => show (op ++ ⟨#[58, 32]⟩) ++ (⟨#[]⟩ : ByteArray) = ⟨#[]⟩ ++ (op ++ ⟨#[58, 32]⟩); rw [app_emp, emp_app]
  | cons x l ih => rw [List.cons_append, opsText, opsText, ih]; simp only [app_assoc]
theorem opsText_take (l : List ByteArray) (k : Nat) (h : k < l.length) : opsText (l.take (k + 1)) = opsText (l.take k) ++ (l.getD k default ++ ⟨#[58, 32]⟩) := by
  rw [List.take_succ_eq_append_getElem h, opsText_snoc]; simp [List.getD, h]
theorem opsText_le (l : List ByteArray) (k : Nat) : (opsText (l.take k)).size ≤ (opsText l).size := by
  induction l generalizing k with
  | nil => simp
  | cons x l ih =>
    cases k with
    | zero => exact Nat.zero_le _
    | succ k => have := ih k; simp only [List.take_succ_cons, opsText, ByteArray.size_append]; omega
theorem innerText_le (e : Er) (hf : e.fits) : (innerText e).size ≤ 25 := by
  have := fits_inner hf
  unfold innerText
  split
  · rename_i c hc
    rw [hc] at this
    unfold errText
    split
    · decide
    · rw [ByteArray.size_append]; have := dgB_len this; have h6 : (⟨#[101, 114, 114, 111, 114, 32]⟩ : ByteArray).size = 6 := rfl; omega
  · exact Nat.zero_le _
-- instance : Inhabited ByteArray := ⟨⟨#[]⟩⟩
end Go.Proofs.YthogpkmidffdeaaDoor
