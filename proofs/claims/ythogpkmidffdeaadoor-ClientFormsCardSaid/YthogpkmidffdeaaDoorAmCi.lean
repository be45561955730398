/- Package client, by the abstract machine. -/
import Derived.Test.YthogpkmidffdeaaDoorAmCl
import Derived.Test.YthogpkmidffdeaaDoorCloneCo
namespace Go.Proofs.YthogpkmidffdeaaDoor
set_option linter.unusedVariables false
set_option linter.unusedSimpArgs false
open Go.RowKit
open NumP
set_option maxRecDepth 100000
theorem takeErr_none (s : ByteArray) : (takeErr s).isNone = decide (takeE s = 0) := by
  unfold takeErr takeE
  split
  · rw [wrap_none, errOf_none]
  · split
    · rw [new_none]
    · rw [wrap_none, new_none]
theorem may_test (o : Co) (b : Bool) (h : mayO o = (decide (takeE o.payload = 0) && decide ((takeC o.payload).client = o.client) && decide ((takeC o.payload).seq = o.seq) && momentP o.start && b)) : True := trivial
theorem may_no_t {o : Co} (h : (!decide (takeE o.payload = 0) || !decide ((takeC o.payload).client = o.client) || !decide ((takeC o.payload).seq = o.seq) || !momentP o.start) = true) : mayO o = false := by
  unfold mayO
  cases h1 : decide (takeE o.payload = 0) <;> cases h2 : decide ((takeC o.payload).client = o.client) <;> cases h3 : decide ((takeC o.payload).seq = o.seq) <;> cases h4 : momentP o.start <;> simp [h1, h2, h3, h4] at h ⊢
theorem may_yes_t {o : Co} (h : (!decide (takeE o.payload = 0) || !decide ((takeC o.payload).client = o.client) || !decide ((takeC o.payload).seq = o.seq) || !momentP o.start) = false) : mayO o = if o.end_ = 0 then decide (o.reply = ⟨#[]⟩) else decide (o.start < o.end_) && decide (o.end_ ≤ 1000000) := by
  unfold mayO
  cases h1 : decide (takeE o.payload = 0) <;> cases h2 : decide ((takeC o.payload).client = o.client) <;> cases h3 : decide ((takeC o.payload).seq = o.seq) <;> cases h4 : momentP o.start <;> simp [h1, h2, h3, h4] at h ⊢
set_option maxHeartbeats 1000000 in
theorem moment_fn (n : Int) : FnP Tryd.prog 44 [.int .i64 n] (.bool (momentP n)) := by
  refine FnP.of Tryd.func44 rfl rfl (by simp) (by simp [AV.cells, aIn, aOut, aLn, aCl, aRp, aCo]) (fun G hG => ?_)
  have hN : NoH G.length (.bool (momentP n)) := (by simp [AV.cells, aIn, aOut, aLn, aCl, aRp, aCo])
  refine AWP.seq ?_
  refine AWP.region (fun _ => ?_)
  refine ARun.move (.inr rfl) rfl rfl rfl (Ev.plain rfl) optN ?_
  refine ⟨_, _, rfl, hG, ?_⟩
  refine thenA_n ?_
  refine AWP.seq ?_
  refine AWP.region (fun _ => ?_)
  refine ARun.move (.inl rfl) rfl rfl rfl (Ev.plain rfl) optN ?_
  refine ARun.cmp rfl rfl rfl rfl (Ev.plain rfl) (Ev.plain rfl) rfl optN ?_
  refine ARun.move (.inl rfl) rfl rfl rfl (Ev.plain rfl) optN ?_
  refine ARun.move (.inl rfl) rfl rfl rfl (Ev.plain rfl) optS ?_
  refine ARun.cmp rfl rfl rfl rfl (Ev.opt rfl (fun h => h)) (Ev.plain rfl) rfl optS ?_
  refine ARun.pick rfl rfl rfl rfl (Ev.plain rfl) (Ev.opt rfl (by first | exact pkT | exact pkT2 | simp +contextual)) (Ev.plain rfl) (andB _ _) optN ?_
  refine ARun.move (.inr rfl) rfl rfl rfl (Ev.plain rfl) optN ?_
  refine ⟨_, _, rfl, hG, ?_⟩
  refine thenA_n ?_
  refine AWP.ret ?_
  refine endF.one (.inr rfl) rfl (.tmp rfl) ?_ hN
  rfl
set_option maxHeartbeats 1000000 in
theorem may_fn2 (o : Co) (hp : o.payload.size ≤ 1000000) : FnP Tryd.prog 30 [aCo o] (.bool (mayO o)) := by
  refine FnP.of Tryd.func30 rfl rfl (by simp) (by simp [AV.cells, aIn, aOut, aLn, aCl, aRp, aCo]) (fun G hG => ?_)
  have hN : NoH G.length (.bool (mayO o)) := (by simp [AV.cells, aIn, aOut, aLn, aCl, aRp, aCo])
  refine AWP.seq ?_
  refine AWP.region (fun _ => ?_)
  refine ARun.boxPe rfl rfl rfl rfl (Ev.plain rfl) rfl rfl optN ?_
  refine ARun.move (.inr rfl) rfl rfl rfl (Ev.plain rfl) optN ?_
  refine ⟨_, _, rfl, hG, ?_⟩
  refine thenA_n ?_
  refine AWP.seq ?_
  refine AWP.region (fun _ => ?_)
  refine ARun.fieldPe rfl rfl rfl rfl Tryd.underlying24 rfl rfl sz9 (by decide) (Ev.plain rfl) rfl optN ?_
  refine ARun.loadPe rfl rfl rfl rfl Tryd.underlying9 rfl (Ev.plain rfl) rfl optN ?_
  refine ARun.call rfl rfl rfl rfl cf22 (Ev.plain rfl) (.cons (Ev.plain rfl) .nil) rfl (fun hg => take_c o.payload hp) optN ?_
  refine ARun.move (.inl rfl) rfl rfl rfl (Ev.plain rfl) optN ?_
  refine ARun.extract rfl rfl rfl rfl (Ev.plain rfl) rfl optN ?_
  refine ARun.extract rfl rfl rfl rfl (Ev.plain rfl) rfl optN ?_
  refine ARun.alloc (j := 0) hG rfl rfl rfl rfl rfl zv50 rfl optN ?_
  refine ARun.storeL hG rfl rfl rfl sz50 (Ev.plain rfl) (Ev.plain rfl) rfl rfl rfl rfl rfl (Nat.le_of_ble_eq_true rfl) rfl rfl ?_
  refine ARun.move (.inr rfl) rfl rfl rfl (Ev.plain rfl) optN ?_
  refine ⟨_, _, rfl, hG, ?_⟩
  refine thenA_n ?_
  refine AWP.seq ?_
  refine AWP.seq ?_
  refine AWP.region (fun _ => ?_)
  refine ARun.move (.inl rfl) rfl rfl rfl (Ev.plain rfl) optN ?_
  refine ARun.isNil rfl rfl rfl rfl Tryd.underlying52 (Ev.plain rfl) (fun hg => by first | rfl | exact nilA_aEr _) (.inr ⟨rfl, rfl⟩) optN ?_
  refine ARun.move (.inl rfl) rfl rfl rfl (Ev.plain rfl) optN ?_
  refine ARun.fieldBox (fo := 0) rfl rfl rfl rfl Tryd.underlying50 rfl rfl sz3 (by decide) (Ev.plain rfl) ((hG.at _ _).trans rfl) optS ?_
  refine ARun.loadBox rfl rfl rfl rfl Tryd.underlying3 rfl (Ev.opt rfl (fun h => h)) ((hG.at _ _).trans rfl) rfl optS ?_
  refine ARun.fieldPe rfl rfl rfl rfl Tryd.underlying24 rfl rfl sz3 (by decide) (Ev.plain rfl) rfl optS ?_
  refine ARun.loadPe rfl rfl rfl rfl Tryd.underlying3 rfl (Ev.opt rfl (fun h => h)) rfl optS ?_
  refine ARun.cmp rfl rfl rfl rfl (Ev.opt rfl (fun h => h)) (Ev.opt rfl (fun h => h)) rfl optS ?_
  refine ARun.pick rfl rfl rfl rfl (Ev.plain rfl) (Ev.plain rfl) (Ev.opt rfl (by first | exact pkF | exact pkF2 | simp +contextual)) (orB _ _) optN ?_
  refine ARun.move (.inl rfl) rfl rfl rfl (Ev.plain rfl) optN ?_
  refine ARun.fieldBox (fo := 1) rfl rfl rfl rfl Tryd.underlying50 rfl rfl sz3 (by decide) (Ev.plain rfl) ((hG.at _ _).trans rfl) optS ?_
  refine ARun.loadBox rfl rfl rfl rfl Tryd.underlying3 rfl (Ev.opt rfl (fun h => h)) ((hG.at _ _).trans rfl) rfl optS ?_
  refine ARun.fieldPe rfl rfl rfl rfl Tryd.underlying24 rfl rfl sz3 (by decide) (Ev.plain rfl) rfl optS ?_
  refine ARun.loadPe rfl rfl rfl rfl Tryd.underlying3 rfl (Ev.opt rfl (fun h => h)) rfl optS ?_
  refine ARun.cmp rfl rfl rfl rfl (Ev.opt rfl (fun h => h)) (Ev.opt rfl (fun h => h)) rfl optS ?_
  refine ARun.pick rfl rfl rfl rfl (Ev.plain rfl) (Ev.plain rfl) (Ev.opt rfl (by first | exact pkF | exact pkF2 | simp +contextual)) (orB _ _) optN ?_
  refine ARun.move (.inl rfl) rfl rfl rfl (Ev.plain rfl) optN ?_
  refine ARun.fieldPe rfl rfl rfl rfl Tryd.underlying24 rfl rfl sz3 (by decide) (Ev.plain rfl) rfl optS ?_
  refine ARun.loadPe rfl rfl rfl rfl Tryd.underlying3 rfl (Ev.opt rfl (fun h => h)) rfl optS ?_
  refine ARun.call rfl rfl rfl rfl cf44 (Ev.plain rfl) (.cons (Ev.opt rfl (fun h => h)) .nil) rfl (fun hg => moment_fn o.start) optS ?_
  refine ARun.not rfl rfl rfl rfl (Ev.opt rfl (fun h => h)) optS ?_
  refine ARun.pick rfl rfl rfl rfl (Ev.plain rfl) (Ev.plain rfl) (Ev.opt rfl (by first | exact pkF | exact pkF2 | simp +contextual)) (orB _ _) optN ?_
  refine ⟨_, _, rfl, hG, ?_⟩
  refine thenA_n ?_
  refine AWP.cond rfl (fun h0 => ?_) (fun h0 => ?_)
  · skip
    simp only [takeErr_none] at h0
    refine AWP.seq ?_
    refine AWP.region (fun _ => ?_)
    refine ARun.move (.inr rfl) rfl rfl rfl (Ev.plain rfl) optN ?_
    refine ⟨_, _, rfl, hG, ?_⟩
    refine thenA_n ?_
    refine AWP.ret ?_
    refine thenA_r ?_
    refine endF.one (.inr rfl) rfl (.tmp rfl) ?_ hN
    rw [may_no_t (by simpa using h0)]; rfl
  · skip
    simp only [takeErr_none] at h0
    refine AWP.skip ?_
    refine thenA_n ?_
    refine AWP.seq ?_
    refine AWP.seq ?_
    refine AWP.region (fun _ => ?_)
    refine ARun.fieldPe rfl rfl rfl rfl Tryd.underlying24 rfl rfl sz3 (by decide) (Ev.plain rfl) rfl optN ?_
    refine ARun.loadPe rfl rfl rfl rfl Tryd.underlying3 rfl (Ev.plain rfl) rfl optN ?_
    refine ARun.cmp rfl rfl rfl rfl (Ev.plain rfl) (Ev.plain rfl) rfl optN ?_
    refine ⟨_, _, rfl, hG, ?_⟩
    refine thenA_n ?_
    refine AWP.cond rfl (fun h1 => ?_) (fun h1 => ?_)
    · skip
      simp at h1
      refine AWP.seq ?_
      refine AWP.region (fun _ => ?_)
      refine ARun.loadPeA rfl rfl rfl rfl Tryd.underlying24 rfl sz24 (Ev.plain rfl) rfl optN ?_
      refine ARun.fieldPe rfl rfl rfl rfl Tryd.underlying24 rfl rfl sz3 (by decide) (Ev.plain rfl) rfl optN ?_
      refine ARun.loadPe rfl rfl rfl rfl Tryd.underlying3 rfl (Ev.plain rfl) rfl optN ?_
      refine ARun.fieldPe rfl rfl rfl rfl Tryd.underlying24 rfl rfl sz3 (by decide) (Ev.plain rfl) rfl optN ?_
      refine ARun.loadPe rfl rfl rfl rfl Tryd.underlying3 rfl (Ev.plain rfl) rfl optN ?_
      refine ARun.fieldPe rfl rfl rfl rfl Tryd.underlying24 rfl rfl sz9 (by decide) (Ev.plain rfl) rfl optN ?_
      refine ARun.loadPe rfl rfl rfl rfl Tryd.underlying9 rfl (Ev.plain rfl) rfl optN ?_
      refine ARun.fieldPe rfl rfl rfl rfl Tryd.underlying24 rfl rfl sz3 (by decide) (Ev.plain rfl) rfl optN ?_
      refine ARun.loadPe rfl rfl rfl rfl Tryd.underlying3 rfl (Ev.plain rfl) rfl optN ?_
      refine ARun.build rfl rfl rfl rfl so24 (.cons (Ev.plain rfl) (.cons (Ev.plain rfl) (.cons (Ev.plain rfl) (.cons (Ev.plain rfl) .nil)))) rfl rfl optN ?_
      refine ARun.eqAgg rfl rfl rfl rfl eq24 (Ev.plain rfl) (Ev.plain rfl) rfl (.inl ⟨rfl, rfl⟩) optN ?_
      refine ARun.move (.inr rfl) rfl rfl rfl (Ev.plain rfl) optN ?_
      refine ⟨_, _, rfl, hG, ?_⟩
      refine thenA_n ?_
      refine AWP.ret ?_
      refine thenA_r ?_
      refine endF.one (.inr rfl) rfl (.tmp rfl) ?_ hN
      rw [may_yes_t (by simpa using h0), if_pos h1]; simp [h1]
    · skip
      simp at h1
      refine AWP.skip ?_
      refine thenA_n ?_
      refine AWP.seq ?_
      refine AWP.region (fun _ => ?_)
      refine ARun.fieldPe rfl rfl rfl rfl Tryd.underlying24 rfl rfl sz3 (by decide) (Ev.plain rfl) rfl optN ?_
      refine ARun.loadPe rfl rfl rfl rfl Tryd.underlying3 rfl (Ev.plain rfl) rfl optN ?_
      refine ARun.fieldPe rfl rfl rfl rfl Tryd.underlying24 rfl rfl sz3 (by decide) (Ev.plain rfl) rfl optN ?_
      refine ARun.loadPe rfl rfl rfl rfl Tryd.underlying3 rfl (Ev.plain rfl) rfl optN ?_
      refine ARun.cmp rfl rfl rfl rfl (Ev.plain rfl) (Ev.plain rfl) rfl optN ?_
      refine ARun.move (.inl rfl) rfl rfl rfl (Ev.plain rfl) optN ?_
      refine ARun.fieldPe rfl rfl rfl rfl Tryd.underlying24 rfl rfl sz3 (by decide) (Ev.plain rfl) rfl optS ?_
      refine ARun.loadPe rfl rfl rfl rfl Tryd.underlying3 rfl (Ev.opt rfl (fun h => h)) rfl optS ?_
      refine ARun.cmp rfl rfl rfl rfl (Ev.opt rfl (fun h => h)) (Ev.plain rfl) rfl optS ?_
      refine ARun.pick rfl rfl rfl rfl (Ev.plain rfl) (Ev.opt rfl (by first | exact pkT | exact pkT2 | simp +contextual)) (Ev.plain rfl) (andB _ _) optN ?_
      refine ARun.move (.inr rfl) rfl rfl rfl (Ev.plain rfl) optN ?_
      refine ⟨_, _, rfl, hG, ?_⟩
      refine thenA_n ?_
      refine AWP.ret ?_
      refine endF.one (.inr rfl) rfl (.tmp rfl) ?_ hN
      rw [may_yes_t (by simpa using h0), if_neg h1]
set_option maxHeartbeats 1000000 in
theorem ahead_fn (a b : Co) : FnP Tryd.prog 16 [aCo a, aCo b] (.bool (aheadP a b)) := by
  refine FnP.of Tryd.func16 rfl rfl (by simp) (by simp [AV.cells, aIn, aOut, aLn, aCl, aRp, aCo]) (fun G hG => ?_)
  have hN : NoH G.length (.bool (aheadP a b)) := (by simp [AV.cells, aIn, aOut, aLn, aCl, aRp, aCo])
  refine AWP.seq ?_
  refine AWP.region (fun _ => ?_)
  refine ARun.boxPe rfl rfl rfl rfl (Ev.plain rfl) rfl rfl optN ?_
  refine ARun.boxPe rfl rfl rfl rfl (Ev.plain rfl) rfl rfl optN ?_
  refine ARun.move (.inr rfl) rfl rfl rfl (Ev.plain rfl) optN ?_
  refine ⟨_, _, rfl, hG, ?_⟩
  refine thenA_n ?_
  refine AWP.seq ?_
  refine AWP.region (fun _ => ?_)
  refine ARun.fieldPe rfl rfl rfl rfl Tryd.underlying24 rfl rfl sz3 (by decide) (Ev.plain rfl) rfl optN ?_
  refine ARun.loadPe rfl rfl rfl rfl Tryd.underlying3 rfl (Ev.plain rfl) rfl optN ?_
  refine ARun.cmp rfl rfl rfl rfl (Ev.plain rfl) (Ev.plain rfl) rfl optN ?_
  refine ARun.move (.inl rfl) rfl rfl rfl (Ev.plain rfl) optN ?_
  refine ARun.fieldPe rfl rfl rfl rfl Tryd.underlying24 rfl rfl sz3 (by decide) (Ev.plain rfl) rfl optS ?_
  refine ARun.loadPe rfl rfl rfl rfl Tryd.underlying3 rfl (Ev.opt rfl (fun h => h)) rfl optS ?_
  refine ARun.fieldPe rfl rfl rfl rfl Tryd.underlying24 rfl rfl sz3 (by decide) (Ev.plain rfl) rfl optS ?_
  refine ARun.loadPe rfl rfl rfl rfl Tryd.underlying3 rfl (Ev.opt rfl (fun h => h)) rfl optS ?_
  refine ARun.cmp rfl rfl rfl rfl (Ev.opt rfl (fun h => h)) (Ev.opt rfl (fun h => h)) rfl optS ?_
  refine ARun.pick rfl rfl rfl rfl (Ev.plain rfl) (Ev.opt rfl (by first | exact pkT | exact pkT2 | simp +contextual)) (Ev.plain rfl) (andB _ _) optN ?_
  refine ARun.move (.inr rfl) rfl rfl rfl (Ev.plain rfl) optN ?_
  refine ⟨_, _, rfl, hG, ?_⟩
  refine thenA_n ?_
  refine AWP.ret ?_
  refine endF.one (.inr rfl) rfl (.tmp rfl) ?_ hN
  simp [aheadP]
set_option maxHeartbeats 1000000 in
theorem ofF_fn (x : Co) (c : Int) : FnP Tryd.prog 33 [aCo x, .pe [.int .i64 c]] (.bool (decide (x.client = c))) := by
  refine FnP.of Tryd.func33 rfl rfl (by simp) (by simp [AV.cells, aIn, aOut, aLn, aCl, aRp, aCo]) (fun G hG => ?_)
  have hN : NoH G.length (.bool (decide (x.client = c))) := (by simp [AV.cells, aIn, aOut, aLn, aCl, aRp, aCo])
  refine AWP.seq ?_
  refine AWP.region (fun _ => ?_)
  refine ARun.boxPe rfl rfl rfl rfl (Ev.plain rfl) rfl rfl optN ?_
  refine ARun.move (.inr rfl) rfl rfl rfl (Ev.plain rfl) optN ?_
  refine ⟨_, _, rfl, hG, ?_⟩
  refine thenA_n ?_
  refine AWP.seq ?_
  refine AWP.region (fun _ => ?_)
  refine ARun.fieldPe rfl rfl rfl rfl Tryd.underlying24 rfl rfl sz3 (by decide) (Ev.plain rfl) rfl optN ?_
  refine ARun.loadPe rfl rfl rfl rfl Tryd.underlying3 rfl (Ev.plain rfl) rfl optN ?_
  first | refine ARun.loadPe rfl rfl rfl rfl Tryd.underlying3 rfl (Ev.plain rfl) rfl optN ?_ | refine ARun.loadBox rfl rfl rfl rfl Tryd.underlying3 rfl (Ev.plain rfl) ((hG.at _ _).trans rfl) rfl optN ?_
  refine ARun.cmp rfl rfl rfl rfl (Ev.plain rfl) (Ev.plain rfl) rfl optN ?_
  refine ARun.move (.inr rfl) rfl rfl rfl (Ev.plain rfl) optN ?_
  refine ⟨_, _, rfl, hG, ?_⟩
  refine thenA_n ?_
  refine AWP.ret ?_
  refine endF.one (.inr rfl) rfl (.tmp rfl) ?_ hN
  rfl
set_option maxHeartbeats 1000000 in
theorem openF_fn (x : Co) : FnP Tryd.prog 32 [aCo x] (.bool (decide (x.end_ = 0))) := by
  refine FnP.of Tryd.func32 rfl rfl (by simp) (by simp [AV.cells, aIn, aOut, aLn, aCl, aRp, aCo]) (fun G hG => ?_)
  have hN : NoH G.length (.bool (decide (x.end_ = 0))) := (by simp [AV.cells, aIn, aOut, aLn, aCl, aRp, aCo])
  refine AWP.seq ?_
  refine AWP.region (fun _ => ?_)
  refine ARun.boxPe rfl rfl rfl rfl (Ev.plain rfl) rfl rfl optN ?_
  refine ARun.move (.inr rfl) rfl rfl rfl (Ev.plain rfl) optN ?_
  refine ⟨_, _, rfl, hG, ?_⟩
  refine thenA_n ?_
  refine AWP.seq ?_
  refine AWP.region (fun _ => ?_)
  refine ARun.fieldPe rfl rfl rfl rfl Tryd.underlying24 rfl rfl sz3 (by decide) (Ev.plain rfl) rfl optN ?_
  refine ARun.loadPe rfl rfl rfl rfl Tryd.underlying3 rfl (Ev.plain rfl) rfl optN ?_
  refine ARun.cmp rfl rfl rfl rfl (Ev.plain rfl) (Ev.plain rfl) rfl optN ?_
  refine ARun.move (.inr rfl) rfl rfl rfl (Ev.plain rfl) optN ?_
  refine ⟨_, _, rfl, hG, ?_⟩
  refine thenA_n ?_
  refine AWP.ret ?_
  refine endF.one (.inr rfl) rfl (.tmp rfl) ?_ hN
  rfl
set_option maxHeartbeats 1000000 in
theorem lateF_fn (x : Co) (n : Int) : FnP Tryd.prog 43 [aCo x, .pe [.int .i64 n]] (.bool (decide (n ≤ x.start) || decide (n ≤ x.end_))) := by
  refine FnP.of Tryd.func43 rfl rfl (by simp) (by simp [AV.cells, aIn, aOut, aLn, aCl, aRp, aCo]) (fun G hG => ?_)
  have hN : NoH G.length (.bool (decide (n ≤ x.start) || decide (n ≤ x.end_))) := (by simp [AV.cells, aIn, aOut, aLn, aCl, aRp, aCo])
  refine AWP.seq ?_
  refine AWP.region (fun _ => ?_)
  refine ARun.boxPe rfl rfl rfl rfl (Ev.plain rfl) rfl rfl optN ?_
  refine ARun.move (.inr rfl) rfl rfl rfl (Ev.plain rfl) optN ?_
  refine ⟨_, _, rfl, hG, ?_⟩
  refine thenA_n ?_
  refine AWP.seq ?_
  refine AWP.region (fun _ => ?_)
  refine ARun.fieldPe rfl rfl rfl rfl Tryd.underlying24 rfl rfl sz3 (by decide) (Ev.plain rfl) rfl optN ?_
  refine ARun.loadPe rfl rfl rfl rfl Tryd.underlying3 rfl (Ev.plain rfl) rfl optN ?_
  first | refine ARun.loadPe rfl rfl rfl rfl Tryd.underlying3 rfl (Ev.plain rfl) rfl optN ?_ | refine ARun.loadBox rfl rfl rfl rfl Tryd.underlying3 rfl (Ev.plain rfl) ((hG.at _ _).trans rfl) rfl optN ?_
  refine ARun.cmp rfl rfl rfl rfl (Ev.plain rfl) (Ev.plain rfl) rfl optN ?_
  refine ARun.move (.inl rfl) rfl rfl rfl (Ev.plain rfl) optN ?_
  refine ARun.fieldPe rfl rfl rfl rfl Tryd.underlying24 rfl rfl sz3 (by decide) (Ev.plain rfl) rfl optS ?_
  refine ARun.loadPe rfl rfl rfl rfl Tryd.underlying3 rfl (Ev.opt rfl (fun h => h)) rfl optS ?_
  first | refine ARun.loadPe rfl rfl rfl rfl Tryd.underlying3 rfl (Ev.plain rfl) rfl optS ?_ | refine ARun.loadBox rfl rfl rfl rfl Tryd.underlying3 rfl (Ev.plain rfl) ((hG.at _ _).trans rfl) rfl optS ?_
  refine ARun.cmp rfl rfl rfl rfl (Ev.opt rfl (fun h => h)) (Ev.opt rfl (fun h => h)) rfl optS ?_
  refine ARun.pick rfl rfl rfl rfl (Ev.plain rfl) (Ev.plain rfl) (Ev.opt rfl (by first | exact pkF | exact pkF2 | simp +contextual)) (orB _ _) optN ?_
  refine ARun.move (.inr rfl) rfl rfl rfl (Ev.plain rfl) optN ?_
  refine ⟨_, _, rfl, hG, ?_⟩
  refine thenA_n ?_
  refine AWP.ret ?_
  refine endF.one (.inr rfl) rfl (.tmp rfl) ?_ hN
  rfl
set_option maxHeartbeats 1000000 in
theorem endF_fn (x : Co) (c s : Int) : FnP Tryd.prog 29 [aCo x, .pe [.int .i64 c], .pe [.int .i64 s]] (.bool (isO c s x)) := by
  refine FnP.of Tryd.func29 rfl rfl (by simp) (by simp [AV.cells, aIn, aOut, aLn, aCl, aRp, aCo]) (fun G hG => ?_)
  have hN : NoH G.length (.bool (isO c s x)) := (by simp [AV.cells, aIn, aOut, aLn, aCl, aRp, aCo])
  refine AWP.seq ?_
  refine AWP.region (fun _ => ?_)
  refine ARun.boxPe rfl rfl rfl rfl (Ev.plain rfl) rfl rfl optN ?_
  refine ARun.move (.inr rfl) rfl rfl rfl (Ev.plain rfl) optN ?_
  refine ⟨_, _, rfl, hG, ?_⟩
  refine thenA_n ?_
  refine AWP.seq ?_
  refine AWP.region (fun _ => ?_)
  refine ARun.fieldPe rfl rfl rfl rfl Tryd.underlying24 rfl rfl sz3 (by decide) (Ev.plain rfl) rfl optN ?_
  refine ARun.loadPe rfl rfl rfl rfl Tryd.underlying3 rfl (Ev.plain rfl) rfl optN ?_
  refine ARun.cmp rfl rfl rfl rfl (Ev.plain rfl) (Ev.plain rfl) rfl optN ?_
  refine ARun.move (.inl rfl) rfl rfl rfl (Ev.plain rfl) optN ?_
  refine ARun.fieldPe rfl rfl rfl rfl Tryd.underlying24 rfl rfl sz3 (by decide) (Ev.plain rfl) rfl optS ?_
  refine ARun.loadPe rfl rfl rfl rfl Tryd.underlying3 rfl (Ev.opt rfl (fun h => h)) rfl optS ?_
  first | refine ARun.loadPe rfl rfl rfl rfl Tryd.underlying3 rfl (Ev.plain rfl) rfl optS ?_ | refine ARun.loadBox rfl rfl rfl rfl Tryd.underlying3 rfl (Ev.plain rfl) ((hG.at _ _).trans rfl) rfl optS ?_
  refine ARun.cmp rfl rfl rfl rfl (Ev.opt rfl (fun h => h)) (Ev.opt rfl (fun h => h)) rfl optS ?_
  refine ARun.pick rfl rfl rfl rfl (Ev.plain rfl) (Ev.opt rfl (by first | exact pkT | exact pkT2 | simp +contextual)) (Ev.plain rfl) (andB _ _) optN ?_
  refine ARun.move (.inl rfl) rfl rfl rfl (Ev.plain rfl) optN ?_
  refine ARun.fieldPe rfl rfl rfl rfl Tryd.underlying24 rfl rfl sz3 (by decide) (Ev.plain rfl) rfl optS ?_
  refine ARun.loadPe rfl rfl rfl rfl Tryd.underlying3 rfl (Ev.opt rfl (fun h => h)) rfl optS ?_
  first | refine ARun.loadPe rfl rfl rfl rfl Tryd.underlying3 rfl (Ev.plain rfl) rfl optS ?_ | refine ARun.loadBox rfl rfl rfl rfl Tryd.underlying3 rfl (Ev.plain rfl) ((hG.at _ _).trans rfl) rfl optS ?_
  refine ARun.cmp rfl rfl rfl rfl (Ev.opt rfl (fun h => h)) (Ev.opt rfl (fun h => h)) rfl optS ?_
  refine ARun.pick rfl rfl rfl rfl (Ev.plain rfl) (Ev.opt rfl (by first | exact pkT | exact pkT2 | simp +contextual)) (Ev.plain rfl) (andB _ _) optN ?_
  refine ARun.move (.inr rfl) rfl rfl rfl (Ev.plain rfl) optN ?_
  refine ⟨_, _, rfl, hG, ?_⟩
  refine thenA_n ?_
  refine AWP.ret ?_
  refine endF.one (.inr rfl) rfl (.tmp rfl) ?_ hN
  rfl
set_option maxHeartbeats 1000000 in
theorem those_fn (F : Nat) (fs cs : List AV) (p : Co → Bool) (l : List Co) (hl : l.length ≤ 1000) (hcf : ∀ (vs : Array Value) (W : World), (callFunc F vs).run Tryd.prog W = .ok (.enter F vs) W) (hn : (∀ x, x ∈ fs → NoH 0 x) ∧ ∀ x, x ∈ cs → NoH 0 x) (hF : ∀ x, x ∈ l → FnP Tryd.prog F (fs ++ [aCo x] ++ cs) (.bool (p x))) : FnP Tryd.prog 31 [.sl (l.map aCo), .fn (.func F) fs cs] (.sl ((l.filter p).map aCo)) := by
  refine FnP.of Tryd.func31 rfl rfl (by simp) (by simp [AV.cells, aCo]; intro x x1 _ _ e y hy; subst e; simp at hy; rcases hy with rfl | rfl | rfl | rfl | rfl | rfl <;> simp) (fun G hG => ?_)
  have hN : NoH G.length (.sl ((l.filter p).map aCo)) := (by simp [AV.cells, aCo]; intro x x1 _ _ e y hy; subst e; simp at hy; rcases hy with rfl | rfl | rfl | rfl | rfl | rfl <;> simp)
  refine AWP.seq ?_
  refine AWP.region (fun _ => ?_)
  refine ARun.move (.inr rfl) rfl rfl rfl (Ev.plain rfl) optN ?_
  refine ⟨_, _, rfl, hG, ?_⟩
  refine thenA_n ?_
  refine AWP.seq ?_
  refine AWP.region (fun _ => ?_)
  refine ARun.nilOwn (e := 24) (z := 6) (j := 0) hG rfl ⟨.inl rfl, rfl⟩ (fun _ => rfl) rfl rfl rfl optN ?_
  refine ⟨_, _, rfl, hG, ?_⟩
  refine thenA_n ?_
  refine AWP.seq ?_
  refine AWP.seq ?_
  refine AWP.region (fun _ => ?_)
  refine ARun.move (.inl rfl) rfl rfl rfl (Ev.plain rfl) optN ?_
  refine ARun.lenSl rfl rfl rfl rfl Tryd.underlying22 (Ev.plain rfl) optN ?_
  refine ARun.move (.inl rfl) rfl rfl rfl (Ev.plain rfl) optN ?_
  refine ⟨_, _, rfl, hG, ?_⟩
  refine thenA_n ?_
  refine AWP.block ?_
  refine AWP.rounds (fun st => st.1 ≤ l.length) (fun st => [(1, .fn (.func F) fs cs), (5, .own (G.length + 0) st.2), (8, .sl (l.map aCo)), (9, .int .i64 ((l.map aCo).length : Int)), (10, .int .i64 (st.1 : Int))]) (fun st => [.row st.2 24 6 (((l.take st.1).filter p).map aCo)]) (fun st => l.length - st.1) 1 ((0, 0) : Nat × Nat) (Nat.zero_le _) (by repeat (first | exact .nil | refine .cons rfl ?_)) rfl (fun _ => rfl) (fun _ => ⟨by simp [AV.cells, aCo]; exact ⟨fun x hx => (hn.1 x hx).mono (by omega), fun x hx => (hn.2 x hx).mono (by omega)⟩, by simp [AO.conts, aCo, AV.cells]; intro y x1 x2 _ _ e hy; subst e; simp at hy; rcases hy with rfl | rfl | rfl | rfl | rfl | rfl <;> simp⟩) (fun st hI => ?_)
  obtain ⟨k, g⟩ := st
  dsimp only at hI
  show AWP _ _ _ _ _ [(1, .fn (.func F) fs cs), (5, .own (G.length + 0) g), (8, .sl (l.map aCo)), (9, .int .i64 ((l.map aCo).length : Int)), (10, .int .i64 (k : Int))] _ [.row g 24 6 (((l.take k).filter p).map aCo)]
  refine AWP.seq ?_
  refine AWP.region (fun _ => ?_)
  refine ARun.cmp rfl rfl rfl rfl (Ev.plain rfl) (Ev.plain rfl) rfl optN ?_
  refine ⟨_, _, rfl, hG, ?_⟩
  refine thenA_n ?_
  refine AWP.seq ?_
  refine AWP.cond rfl (fun h0 => ?_) (fun h0 => ?_)
  · skip
    try simp [-List.getD_eq_getElem?_getD] at h0
    refine AWP.skip ?_
    refine thenA_n ?_
    refine AWP.seq ?_
    refine AWP.block ?_
    refine AWP.seq ?_
    refine AWP.region (fun _ => ?_)
    first | refine ARun.indexSl rfl rfl rfl rfl Tryd.underlying22 sz24 (Ev.plain rfl) (Ev.plain rfl) (fun _ => rfl) (fun hg => getMap _ _ _ (by (try simp at hg); omega)) rfl rfl optN ?_ | refine ARun.indexSl rfl rfl rfl rfl Tryd.underlying22 sz24 (Ev.plain rfl) (Ev.plain rfl) (fun hg => ofNonneg (by (try simp at hg); omega)) (fun hg => getMap _ _ _ (by (try simp at hg); omega)) rfl rfl optN ?_
    refine ARun.loadPeA rfl rfl rfl rfl Tryd.underlying24 rfl sz24 (Ev.plain rfl) rfl optN ?_
    refine ARun.alloc (j := 1) hG rfl rfl rfl rfl rfl zv24 rfl optN ?_
    refine ARun.storeL hG rfl rfl rfl sz24 (Ev.plain rfl) (Ev.plain rfl) rfl rfl rfl rfl rfl (Nat.le_of_ble_eq_true rfl) rfl rfl ?_
    refine ⟨_, _, rfl, hG, ?_⟩
    refine thenA_n ?_
    refine AWP.seq ?_
    refine AWP.region (fun _ => ?_)
    refine ARun.move (.inl rfl) rfl rfl rfl (Ev.plain rfl) optN ?_
    refine ARun.loadBoxA rfl rfl rfl rfl Tryd.underlying24 rfl sz24 (Ev.plain rfl) ((hG.at _ _).trans rfl) rfl rfl optN ?_
    refine ARun.call rfl rfl rfl rfl hcf (Ev.plain rfl) (.cons (Ev.plain rfl) .nil) rfl (fun hg => hF _ (by rw [Co_idx (by omega)]; exact List.getElem_mem _)) optN ?_
    refine ⟨_, _, rfl, hG, ?_⟩
    refine thenA_n ?_
    refine AWP.cond rfl (fun h1 => ?_) (fun h1 => ?_)
    · skip
      skip
      refine AWP.region (fun _ => ?_)
      refine ARun.move (.inl rfl) rfl rfl rfl (Ev.plain rfl) optN ?_
      refine ARun.loadBoxA rfl rfl rfl rfl Tryd.underlying24 rfl sz24 (Ev.plain rfl) ((hG.at _ _).trans rfl) rfl rfl optN ?_
      refine ARun.buildSl rfl rfl rfl rfl Tryd.underlying22 sz24 zv24 rfl (by decide) (.cons (Ev.plain rfl) .nil) rfl rfl rfl rfl (by decide) rfl rfl optN ?_
      refine ARun.appendL hG rfl rfl rfl rfl Tryd.underlying22 ti24 rfl (by decide) (Ev.plain rfl) (Ev.plain rfl) rfl rfl (by have := filter_len p (l.take k); simp only [List.length_take] at this; simp [maxLen]; omega) (by have := filter_len p (l.take k); simp only [List.length_take] at this; simp; omega) (co_app p l k (by omega) h1) optN rfl ?_
      refine ARun.move (.inr rfl) rfl rfl rfl (Ev.plain rfl) optN ?_
      refine ⟨_, _, rfl, hG, ?_⟩
      refine blockA_n ?_
      refine thenA_n ?_
      refine AWP.region (fun _ => ?_)
      first | refine ARun.arith rfl rfl rfl rfl (Ev.plain rfl) (Ev.plain rfl) rfl (fun hg => i64w (by (try simp at hg); omega)) optN ?_ | refine ARun.arith rfl rfl rfl rfl (Ev.plain rfl) (Ev.plain rfl) rfl (fun _ => rfl) optN ?_
      refine ARun.move (.inl rfl) rfl rfl rfl (Ev.plain rfl) optN ?_
      refine ⟨_, _, rfl, hG, ?_⟩
      refine thenA_n ⟨rfl, (k + 1, g + 1), _, ?_, ?_, rfl, ?_⟩
      · dsimp only; omega
      · repeat (first | exact .nil | refine .cons rfl ?_)
      · dsimp only; omega
    · skip
      rw [show (l.take k).filter p = (l.take (k + 1)).filter p from by rw [co_filter p l k (by omega), if_neg (by rw [h1]; decide)]]
      refine AWP.skip ?_
      refine blockA_n ?_
      refine thenA_n ?_
      refine AWP.region (fun _ => ?_)
      first | refine ARun.arith rfl rfl rfl rfl (Ev.plain rfl) (Ev.plain rfl) rfl (fun hg => i64w (by (try simp at hg); omega)) optN ?_ | refine ARun.arith rfl rfl rfl rfl (Ev.plain rfl) (Ev.plain rfl) rfl (fun _ => rfl) optN ?_
      refine ARun.move (.inl rfl) rfl rfl rfl (Ev.plain rfl) optN ?_
      refine ⟨_, _, rfl, hG, ?_⟩
      refine thenA_n ⟨rfl, (k + 1, g), _, ?_, ?_, rfl, ?_⟩
      · dsimp only; omega
      · repeat (first | exact .nil | refine .cons rfl ?_)
      · dsimp only; omega
  · skip
    simp at h0
    obtain rfl : k = l.length := by omega
    rw [List.take_length]
    refine AWP.exit ?_
    refine thenA_x ?_
    refine thenA_x ?_
    refine blockA_h ?_
    refine thenA_n ?_
    refine AWP.seq ?_
    refine AWP.frzOwn 5 hG rfl rfl (by decide) (by have := filter_len p l; simp [maxLen]; omega) rfl ?_
    refine AWP.region (fun _ => ?_)
    refine ARun.move (.inl rfl) rfl rfl rfl (Ev.plain rfl) optN ?_
    refine ARun.move (.inr rfl) rfl rfl rfl (Ev.plain rfl) optN ?_
    refine ⟨_, _, rfl, hG, ?_⟩
    refine thenA_n ?_
    refine AWP.ret ?_
    refine endF.one (.inr rfl) rfl (.tmp rfl) ?_ hN
    rfl
theorem okO_h2 {l : List Co} {k : Nat} (a : Int) (ha : 0 < k → a = (l.getD (k - 1) default).start) : (!mayO (l.getD k default) || (decide (0 < (k : Int)) && decide ((l.getD k default).start ≤ a))) = !(mayO (l.getD k default) && (decide (k = 0) || decide ((l.getD (k - 1) default).start < (l.getD k default).start))) := by
  by_cases hk : 0 < k
  · rw [ha hk, decide_eq_true (show 0 < (k : Int) by omega), decide_eq_false (show ¬ k = 0 by omega)]
    by_cases h : (l.getD (k - 1) default).start < (l.getD k default).start
    · rw [decide_eq_true h, decide_eq_false (by omega)]; cases mayO (l.getD k default) <;> rfl
    · rw [decide_eq_false h, decide_eq_true (by omega)]; cases mayO (l.getD k default) <;> rfl
  · obtain rfl : k = 0 := by omega
    cases mayO (l.getD 0 default) <;> simp
theorem okO_mk {l : List Co} {k : Nat} (hk : k < l.length) (hok : ∀ j, j < k → okO l j = true) (h2 : (mayO (l.getD k default) && (decide (k = 0) || decide ((l.getD (k - 1) default).start < (l.getD k default).start))) = true) (h3 : hadOk l k = true) : okO l k = true := by
  unfold okO; rw [← had_all hk hok, h2, h3]; rfl
theorem okO_no1 {l : List Co} {k : Nat} (h2 : (mayO (l.getD k default) && (decide (k = 0) || decide ((l.getD (k - 1) default).start < (l.getD k default).start))) = false) : okO l k = false := by
  unfold okO; rw [h2]; rfl
theorem had_none {l : List Co} {k : Nat} (h : ¬ 0 < (ofP (l.take k) (l.getD k default).client).length) : hadOk l k = true := by unfold hadOk; rw [if_neg h]
theorem had_if {l : List Co} {k : Nat} (h : 0 < (ofP (l.take k) (l.getD k default).client).length) : (!aheadP ((ofP (l.take k) (l.getD k default).client).getD ((ofP (l.take k) (l.getD k default).client).length - 1) default) (l.getD k default) || decide ((l.getD k default).seq ≤ ((ofP (l.take k) (l.getD k default).client).getD ((ofP (l.take k) (l.getD k default).client).length - 1) default).seq)) = !hadOk l k := by
  unfold hadOk; rw [if_pos h]
  generalize (ofP (l.take k) (l.getD k default).client).getD ((ofP (l.take k) (l.getD k default).client).length - 1) default = o
  by_cases h2 : o.seq < (l.getD k default).seq
  · rw [decide_eq_true h2, decide_eq_false (by omega)]; simp
  · rw [decide_eq_false h2, decide_eq_true (by omega)]; simp
theorem okO_no2 {l : List Co} {k : Nat} (hk : k < l.length) (hok : ∀ j, j < k → okO l j = true) (h3 : hadOk l k = false) : okO l k = false := by
  unfold okO; rw [← had_all hk hok, h3, Bool.and_false]
set_option maxHeartbeats 1000000 in
theorem indexCo (F : Nat) (fs cs : List AV) (p : Co → Bool) (l : List Co) (hl : l.length ≤ 9223372036854775807) (hcf : ∀ (vs : Array Value) (W : World), (callFunc F vs).run Tryd.prog W = .ok (.enter F vs) W) (hn : (∀ x, x ∈ fs → NoH 0 x) ∧ ∀ x, x ∈ cs → NoH 0 x) (hp : ∀ x, x ∈ l → FnP Tryd.prog F (fs ++ [aCo x] ++ cs) (.bool (p x))) : FnP Tryd.prog 28 [.sl (l.map aCo), .fn (.func F) fs cs] (.int .i64 (idxOf p l)) := by
  refine FnP.of Tryd.func28 rfl rfl (by simp) (by simp [AV.cells, aIn, aOut, aLn, aCl, aRp, aCo]) (fun G hG => ?_)
  have hN : NoH G.length (.int .i64 (idxOf p l)) := (by simp [AV.cells, aIn, aOut, aLn, aCl, aRp, aCo])
  refine AWP.seq ?_
  refine AWP.region (fun _ => ?_)
  refine ARun.move (.inr rfl) rfl rfl rfl (Ev.plain rfl) optN ?_
  refine ⟨_, _, rfl, hG, ?_⟩
  refine thenA_n ?_
  refine AWP.seq ?_
  refine AWP.seq ?_
  refine AWP.region (fun _ => ?_)
  refine ARun.move (.inl rfl) rfl rfl rfl (Ev.plain rfl) optN ?_
  refine ARun.lenSl rfl rfl rfl rfl Tryd.underlying22 (Ev.plain rfl) optN ?_
  refine ARun.move (.inl rfl) rfl rfl rfl (Ev.plain rfl) optN ?_
  refine ⟨_, _, rfl, hG, ?_⟩
  refine thenA_n ?_
  refine AWP.block ?_
  refine AWP.rounds (fun k => k ≤ l.length ∧ ∀ j, j < k → p (l.getD j default) = false) (fun k => [(0, .sl (l.map aCo)), (1, .fn (.func F) fs cs), (7, .int .i64 ((l.map aCo).length : Int)), (8, .int .i64 (k : Int))]) (fun k => []) (fun k => l.length - k) 0 0 ⟨by omega, fun j h => by omega⟩ (by repeat (first | exact .nil | refine .cons rfl ?_)) rfl (fun _ => rfl) (fun _ => ⟨by simp [AV.cells, aIn, aOut, aLn, aCl, aRp, aCo]; exact ⟨fun x hx => (hn.1 x hx).mono (by omega), fun x hx => (hn.2 x hx).mono (by omega)⟩, by simp⟩) (fun k hI => ?_)
  obtain ⟨hk, hno⟩ := hI
  refine AWP.seq ?_
  refine AWP.region (fun _ => ?_)
  refine ARun.cmp rfl rfl rfl rfl (Ev.plain rfl) (Ev.plain rfl) rfl optN ?_
  refine ⟨_, _, rfl, hG, ?_⟩
  refine thenA_n ?_
  refine AWP.seq ?_
  refine AWP.cond rfl (fun h0 => ?_) (fun h0 => ?_)
  · skip
    try simp [-List.getD_eq_getElem?_getD] at h0
    refine AWP.skip ?_
    refine thenA_n ?_
    refine AWP.seq ?_
    refine AWP.block ?_
    refine AWP.seq ?_
    refine AWP.region (fun _ => ?_)
    refine ARun.move (.inl rfl) rfl rfl rfl (Ev.plain rfl) optN ?_
    refine ARun.move (.inr rfl) rfl rfl rfl (Ev.plain rfl) optN ?_
    refine ⟨_, _, rfl, hG, ?_⟩
    refine thenA_n ?_
    refine AWP.seq ?_
    refine AWP.region (fun _ => ?_)
    refine ARun.move (.inl rfl) rfl rfl rfl (Ev.plain rfl) optN ?_
    refine ARun.move (.inl rfl) rfl rfl rfl (Ev.plain rfl) optN ?_
    refine ARun.move (.inl rfl) rfl rfl rfl (Ev.plain rfl) optN ?_
    first | refine ARun.indexSl rfl rfl rfl rfl Tryd.underlying22 sz24 (Ev.plain rfl) (Ev.plain rfl) (fun _ => rfl) (fun hg => getMap _ _ _ (by (try simp at hg); omega)) rfl rfl optN ?_ | refine ARun.indexSl rfl rfl rfl rfl Tryd.underlying22 sz24 (Ev.plain rfl) (Ev.plain rfl) (fun hg => ofNonneg (by (try simp at hg); omega)) (fun hg => getMap _ _ _ (by (try simp at hg); omega)) rfl rfl optN ?_
    refine ARun.loadPeA rfl rfl rfl rfl Tryd.underlying24 rfl sz24 (Ev.plain rfl) rfl optN ?_
    refine ARun.call rfl rfl rfl rfl hcf (Ev.plain rfl) (.cons (Ev.plain rfl) .nil) rfl (fun hg => hp _ (by rw [List.getD, List.getElem?_eq_getElem h0]; exact List.getElem_mem h0)) optN ?_
    refine ⟨_, _, rfl, hG, ?_⟩
    refine thenA_n ?_
    refine AWP.cond rfl (fun h1 => ?_) (fun h1 => ?_)
    · skip
      try simp [-List.getD_eq_getElem?_getD] at h1
      refine AWP.seq ?_
      refine AWP.region (fun _ => ?_)
      refine ARun.move (.inl rfl) rfl rfl rfl (Ev.plain rfl) optN ?_
      refine ARun.move (.inr rfl) rfl rfl rfl (Ev.plain rfl) optN ?_
      refine ⟨_, _, rfl, hG, ?_⟩
      refine thenA_n ?_
      refine AWP.ret ?_
      refine blockA_r ?_
      refine thenA_r ?_
      refine thenA_r ?_
      refine blockA_r ?_
      refine thenA_r ?_
      refine endF.one (.inr rfl) rfl (.tmp rfl) ?_ hN
      rw [idx_hit h0 hno h1]
    · skip
      try simp [-List.getD_eq_getElem?_getD] at h1
      refine AWP.skip ?_
      refine blockA_n ?_
      refine thenA_n ?_
      refine AWP.region (fun _ => ?_)
      first | refine ARun.arith rfl rfl rfl rfl (Ev.plain rfl) (Ev.plain rfl) rfl (fun hg => i64w (by (try simp at hg); omega)) optN ?_ | refine ARun.arith rfl rfl rfl rfl (Ev.plain rfl) (Ev.plain rfl) rfl (fun _ => rfl) optN ?_
      refine ARun.move (.inl rfl) rfl rfl rfl (Ev.plain rfl) optN ?_
      refine ⟨_, _, rfl, hG, ?_⟩
      refine thenA_n ⟨rfl, k + 1, _, ?_, ?_, rfl, ?_⟩
      · refine ⟨by omega, fun j hj => ?_⟩
        by_cases e : j = k
        · subst e; exact h1
        · exact hno j (by omega)
      · repeat (first | exact .nil | refine .cons rfl ?_)
      · omega
  · skip
    try simp [-List.getD_eq_getElem?_getD] at h0
    refine AWP.exit ?_
    refine thenA_x ?_
    refine thenA_x ?_
    refine blockA_h ?_
    refine thenA_n ?_
    refine AWP.seq ?_
    refine AWP.region (fun _ => ?_)
    refine ARun.move (.inr rfl) rfl rfl rfl (Ev.plain rfl) optN ?_
    refine ⟨_, _, rfl, hG, ?_⟩
    refine thenA_n ?_
    refine AWP.ret ?_
    refine endF.one (.inr rfl) rfl (.tmp rfl) ?_ hN
    rw [idx_none (fun j hj => hno j (by omega))]; rfl
set_option maxHeartbeats 1000000 in
theorem containsCo (F : Nat) (fs cs : List AV) (p : Co → Bool) (l : List Co) (hl : l.length ≤ 9223372036854775807) (hcf : ∀ (vs : Array Value) (W : World), (callFunc F vs).run Tryd.prog W = .ok (.enter F vs) W) (hn : (∀ x, x ∈ fs → NoH 0 x) ∧ ∀ x, x ∈ cs → NoH 0 x) (hp : ∀ x, x ∈ l → FnP Tryd.prog F (fs ++ [aCo x] ++ cs) (.bool (p x))) : FnP Tryd.prog 45 [.sl (l.map aCo), .fn (.func F) fs cs] (.bool (l.any p)) := by
  refine FnP.of Tryd.func45 rfl rfl (by simp) (by simp [AV.cells, aIn, aOut, aLn, aCl, aRp, aCo]) (fun G hG => ?_)
  have hN : NoH G.length (.bool (l.any p)) := (by simp [AV.cells, aIn, aOut, aLn, aCl, aRp, aCo])
  refine AWP.seq ?_
  refine AWP.region (fun _ => ?_)
  refine ARun.move (.inr rfl) rfl rfl rfl (Ev.plain rfl) optN ?_
  refine ⟨_, _, rfl, hG, ?_⟩
  refine thenA_n ?_
  refine AWP.seq ?_
  refine AWP.region (fun _ => ?_)
  refine ARun.move (.inl rfl) rfl rfl rfl (Ev.plain rfl) optN ?_
  refine ARun.move (.inl rfl) rfl rfl rfl (Ev.plain rfl) optN ?_
  refine ARun.call rfl rfl rfl rfl cf28 (Ev.plain rfl) (.cons (Ev.plain rfl) (.cons (Ev.plain rfl) .nil)) rfl (fun hg => indexCo F fs cs p l hl hcf hn hp) optN ?_
  refine ARun.cmp rfl rfl rfl rfl (Ev.plain rfl) (Ev.plain rfl) rfl optN ?_
  refine ARun.move (.inr rfl) rfl rfl rfl (Ev.plain rfl) optN ?_
  refine ⟨_, _, rfl, hG, ?_⟩
  refine thenA_n ?_
  refine AWP.ret ?_
  refine endF.one (.inr rfl) rfl (.tmp rfl) ?_ hN
  rw [← any_idx]
set_option maxHeartbeats 1000000 in
theorem of_fn (l : List Co) (c : Int) (hl : l.length ≤ 1000) : FnP Tryd.prog 20 [.sl (l.map aCo), .int .i64 c] (.sl ((ofP l c).map aCo)) := by
  refine FnP.of Tryd.func20 rfl rfl (by simp) (noH_cos _ _) (fun G hG => ?_)
  have hN : NoH G.length (.sl ((ofP l c).map aCo)) := (noH_cos _ _)
  refine AWP.seq ?_
  refine AWP.region (fun _ => ?_)
  refine ARun.boxPe1 rfl rfl rfl rfl (Ev.plain rfl) (by first | rfl | exact aEr_one _ | exact aFl_one _) optN ?_
  refine ARun.move (.inr rfl) rfl rfl rfl (Ev.plain rfl) optN ?_
  refine ⟨_, _, rfl, hG, ?_⟩
  refine thenA_n ?_
  refine AWP.seq ?_
  refine AWP.region (fun _ => ?_)
  refine ARun.move (.inl rfl) rfl rfl rfl (Ev.plain rfl) optN ?_
  refine ARun.makeFunc rfl rfl rfl rfl .nil (.cons (Ev.plain rfl) .nil) optN ?_
  refine ARun.call rfl rfl rfl rfl cf31 (Ev.plain rfl) (.cons (Ev.plain rfl) (.cons (Ev.plain rfl) .nil)) rfl (fun hg => those_fn 33 [] [.pe [.int .i64 c]] (fun o => decide (o.client = c)) l hl cf33 (by simp) (fun x _ => ofF_fn x c)) optN ?_
  refine ARun.move (.inr rfl) rfl rfl rfl (Ev.plain rfl) optN ?_
  refine ⟨_, _, rfl, hG, ?_⟩
  refine thenA_n ?_
  refine AWP.ret ?_
  refine endF.one (.inr rfl) rfl (.tmp rfl) ?_ hN
  rfl
set_option maxHeartbeats 1000000 in
theorem open_fn (l : List Co) (hl : l.length ≤ 1000) : FnP Tryd.prog 18 [.sl (l.map aCo)] (.sl ((openP l).map aCo)) := by
  refine FnP.of Tryd.func18 rfl rfl (by simp) (noH_cos _ _) (fun G hG => ?_)
  have hN : NoH G.length (.sl ((openP l).map aCo)) := (noH_cos _ _)
  refine AWP.seq ?_
  refine AWP.region (fun _ => ?_)
  refine ARun.move (.inr rfl) rfl rfl rfl (Ev.plain rfl) optN ?_
  refine ⟨_, _, rfl, hG, ?_⟩
  refine thenA_n ?_
  refine AWP.seq ?_
  refine AWP.region (fun _ => ?_)
  refine ARun.move (.inl rfl) rfl rfl rfl (Ev.plain rfl) optN ?_
  refine ARun.call rfl rfl rfl rfl cf31 (Ev.plain rfl) (.cons (Ev.plain rfl) (.cons (Ev.plain rfl) .nil)) rfl (fun hg => those_fn 32 [] [] (fun o => decide (o.end_ = 0)) l hl cf32 (by simp) (fun x _ => openF_fn x)) optN ?_
  refine ARun.move (.inr rfl) rfl rfl rfl (Ev.plain rfl) optN ?_
  refine ⟨_, _, rfl, hG, ?_⟩
  refine thenA_n ?_
  refine AWP.ret ?_
  refine endF.one (.inr rfl) rfl (.tmp rfl) ?_ hN
  rfl
set_option maxHeartbeats 1000000 in
theorem late_fn (l : List Co) (n : Int) (hl : l.length ≤ 1000) : FnP Tryd.prog 24 [.sl (l.map aCo), .int .i64 n] (.bool (lateP l n)) := by
  refine FnP.of Tryd.func24 rfl rfl (by simp) (by simp [AV.cells, aIn, aOut, aLn, aCl, aRp, aCo]) (fun G hG => ?_)
  have hN : NoH G.length (.bool (lateP l n)) := (by simp [AV.cells, aIn, aOut, aLn, aCl, aRp, aCo])
  refine AWP.seq ?_
  refine AWP.region (fun _ => ?_)
  refine ARun.boxPe1 rfl rfl rfl rfl (Ev.plain rfl) (by first | rfl | exact aEr_one _ | exact aFl_one _) optN ?_
  refine ARun.move (.inr rfl) rfl rfl rfl (Ev.plain rfl) optN ?_
  refine ⟨_, _, rfl, hG, ?_⟩
  refine thenA_n ?_
  refine AWP.seq ?_
  refine AWP.region (fun _ => ?_)
  refine ARun.makeFunc rfl rfl rfl rfl .nil (.cons (Ev.plain rfl) .nil) optN ?_
  refine ARun.move (.inr rfl) rfl rfl rfl (Ev.plain rfl) optN ?_
  refine ⟨_, _, rfl, hG, ?_⟩
  refine thenA_n ?_
  refine AWP.seq ?_
  refine AWP.region (fun _ => ?_)
  refine ARun.loadPe rfl rfl rfl rfl Tryd.underlying3 rfl (Ev.plain rfl) rfl optN ?_
  refine ARun.call rfl rfl rfl rfl cf44 (Ev.plain rfl) (.cons (Ev.plain rfl) .nil) rfl (fun hg => moment_fn n) optN ?_
  refine ARun.move (.inl rfl) rfl rfl rfl (Ev.plain rfl) optN ?_
  refine ARun.move (.inl rfl) rfl rfl rfl (Ev.plain rfl) optS ?_
  refine ARun.move (.inl rfl) rfl rfl rfl (Ev.plain rfl) optS ?_
  refine ARun.call rfl rfl rfl rfl cf45 (Ev.plain rfl) (.cons (Ev.opt rfl (fun h => h)) (.cons (Ev.opt rfl (fun h => h)) .nil)) rfl (fun hg => containsCo 43 [] [.pe [.int .i64 n]] (fun o => decide (n ≤ o.start) || decide (n ≤ o.end_)) l (by omega) cf43 (by simp) (fun x _ => lateF_fn x n)) optS ?_
  refine ARun.not rfl rfl rfl rfl (Ev.opt rfl (fun h => h)) optS ?_
  refine ARun.pick rfl rfl rfl rfl (Ev.plain rfl) (Ev.opt rfl (by first | exact pkT | exact pkT2 | simp +contextual)) (Ev.plain rfl) (andB _ _) optN ?_
  refine ARun.move (.inr rfl) rfl rfl rfl (Ev.plain rfl) optN ?_
  refine ⟨_, _, rfl, hG, ?_⟩
  refine thenA_n ?_
  refine AWP.ret ?_
  refine endF.one (.inr rfl) rfl (.tmp rfl) ?_ hN
  rfl
theorem of_cut (l : List Co) (k : Nat) (c : Int) (hl : l.length ≤ 1000) : FnP Tryd.prog 20 [.sl (((l.map aCo).take k).drop 0), .int .i64 c] (.sl ((ofP (l.take k) c).map aCo)) := by
  have hh := of_fn (l.take k) c (by rw [List.length_take]; omega)
  rw [List.map_take] at hh; exact hh
set_option maxHeartbeats 1000000 in
theorem checkO_fn (l : List Co) (hl : l.length ≤ 1000) (hp : ∀ x, x ∈ l → x.payload.size ≤ 1000000) : FnP Tryd.prog 14 [.sl (l.map aCo)] (.int .i64 (checkO l)) := by
  refine FnP.of Tryd.func14 rfl rfl (by simp) (by simp [AV.cells, aIn, aOut, aLn, aCl, aRp, aCo]) (fun G hG => ?_)
  have hN : NoH G.length (.int .i64 (checkO l)) := (by simp [AV.cells, aIn, aOut, aLn, aCl, aRp, aCo])
  refine AWP.seq ?_
  refine AWP.region (fun _ => ?_)
  refine ARun.move (.inr rfl) rfl rfl rfl (Ev.plain rfl) optN ?_
  refine ⟨_, _, rfl, hG, ?_⟩
  refine thenA_n ?_
  refine AWP.seq ?_
  refine AWP.seq ?_
  refine AWP.region (fun _ => ?_)
  refine ARun.move (.inl rfl) rfl rfl rfl (Ev.plain rfl) optN ?_
  refine ARun.lenSl rfl rfl rfl rfl Tryd.underlying22 (Ev.plain rfl) optN ?_
  refine ARun.cmp rfl rfl rfl rfl (Ev.plain rfl) (Ev.plain rfl) rfl optN ?_
  refine ⟨_, _, rfl, hG, ?_⟩
  refine thenA_n ?_
  refine AWP.cond rfl (fun h0 => ?_) (fun h0 => ?_)
  · skip
    simp at h0
    refine AWP.seq ?_
    refine AWP.region (fun _ => ?_)
    refine ARun.move (.inr rfl) rfl rfl rfl (Ev.plain rfl) optN ?_
    refine ⟨_, _, rfl, hG, ?_⟩
    refine thenA_n ?_
    refine AWP.ret ?_
    refine thenA_r ?_
    refine endF.one (.inr rfl) rfl (.tmp rfl) ?_ hN
    rw [check_many (by omega)]; rfl
  · skip
    simp at h0
    refine AWP.skip ?_
    refine thenA_n ?_
    refine AWP.seq ?_
    refine AWP.seq ?_
    refine AWP.region (fun _ => ?_)
    refine ARun.move (.inl rfl) rfl rfl rfl (Ev.plain rfl) optN ?_
    refine ARun.lenSl rfl rfl rfl rfl Tryd.underlying22 (Ev.plain rfl) optN ?_
    refine ARun.move (.inl rfl) rfl rfl rfl (Ev.plain rfl) optN ?_
    refine ⟨_, _, rfl, hG, ?_⟩
    refine thenA_n ?_
    refine AWP.block ?_
    refine AWP.rounds (fun k => k ≤ l.length ∧ ∀ j, j < k → okO l j = true) (fun k => [(0, .sl (l.map aCo)), (10, .sl (l.map aCo)), (11, .int .i64 ((l.map aCo).length : Int)), (12, .int .i64 (k : Int))]) (fun k => []) (fun k => l.length - k) 0 0 ⟨by omega, fun j h => by omega⟩ (by repeat (first | exact .nil | refine .cons rfl ?_)) rfl (fun _ => rfl) (fun _ => ⟨by simp [AV.cells, aCo], by simp⟩) (fun k hI => ?_)
    obtain ⟨hk, hok⟩ := hI
    obtain ⟨hf1, hf2⟩ := ofP_len l k (l.getD k default).client hl
    refine AWP.seq ?_
    refine AWP.region (fun _ => ?_)
    refine ARun.cmp rfl rfl rfl rfl (Ev.plain rfl) (Ev.plain rfl) rfl optN ?_
    refine ⟨_, _, rfl, hG, ?_⟩
    refine thenA_n ?_
    refine AWP.seq ?_
    refine AWP.cond rfl (fun h1 => ?_) (fun h1 => ?_)
    · skip
      try simp [-List.getD_eq_getElem?_getD] at h1
      refine AWP.skip ?_
      refine thenA_n ?_
      refine AWP.seq ?_
      refine AWP.block ?_
      refine AWP.seq ?_
      refine AWP.region (fun _ => ?_)
      refine ARun.move (.inl rfl) rfl rfl rfl (Ev.plain rfl) optN ?_
      first | refine ARun.indexSl rfl rfl rfl rfl Tryd.underlying22 sz24 (Ev.plain rfl) (Ev.plain rfl) (fun _ => rfl) (fun hg => getMap _ _ _ (by (try simp at hg); omega)) rfl rfl optN ?_ | refine ARun.indexSl rfl rfl rfl rfl Tryd.underlying22 sz24 (Ev.plain rfl) (Ev.plain rfl) (fun hg => ofNonneg (by (try simp at hg); omega)) (fun hg => getMap _ _ _ (by (try simp at hg); omega)) rfl rfl optN ?_
      refine ARun.loadPeA rfl rfl rfl rfl Tryd.underlying24 rfl sz24 (Ev.plain rfl) rfl optN ?_
      refine ARun.alloc (j := 0) hG rfl rfl rfl rfl rfl zv24 rfl optN ?_
      refine ARun.move (.inr rfl) rfl rfl rfl (Ev.plain rfl) optN ?_
      refine ARun.storeL hG rfl rfl rfl sz24 (Ev.plain rfl) (Ev.plain rfl) rfl rfl rfl rfl rfl (Nat.le_of_ble_eq_true rfl) rfl rfl ?_
      refine ⟨_, _, rfl, hG, ?_⟩
      refine thenA_n ?_
      refine AWP.seq ?_
      refine AWP.seq ?_
      refine AWP.frzBox 4 hG rfl rfl rfl ?_
      refine AWP.draw mixed (by kernel_rfl) (fun _ => ?_)
      refine ARun.loadPeA rfl rfl rfl rfl Tryd.underlying24 rfl sz24 (Ev.plain rfl) rfl optN ?_
      refine ARun.call rfl rfl rfl rfl cf30 (Ev.plain rfl) (.cons (Ev.plain rfl) .nil) rfl (fun hg => may_fn2 (l.getD k default) (pay_at hp (by omega))) optN ?_
      refine ARun.not rfl rfl rfl rfl (Ev.plain rfl) optN ?_
      refine ARun.move (.inl rfl) rfl rfl rfl (Ev.plain rfl) optN ?_
      refine ARun.move (.inl rfl) rfl rfl rfl (Ev.plain rfl) optS ?_
      refine ARun.cmp rfl rfl rfl rfl (Ev.opt rfl (fun h => h)) (Ev.plain rfl) rfl optS ?_
      refine ARun.move (.inl rfl) rfl rfl rfl (Ev.opt rfl (fun h => h)) optS ?_
      refine ARun.fieldPe rfl rfl rfl rfl Tryd.underlying24 rfl rfl sz3 (by decide) (Ev.plain rfl) rfl optS ?_
      refine ARun.loadPe rfl rfl rfl rfl Tryd.underlying3 rfl (Ev.opt rfl (fun h => h)) rfl optS ?_
      refine ARun.move (.inl rfl) rfl rfl rfl (Ev.plain rfl) optS ?_
      refine ARun.move (.inl rfl) rfl rfl rfl (Ev.plain rfl) optS ?_
      first | refine ARun.arith rfl rfl rfl rfl (Ev.opt rfl (fun h => h)) (Ev.plain rfl) rfl (fun hg => i64w (by (try simp at hg); omega)) optS ?_ | refine ARun.arith rfl rfl rfl rfl (Ev.opt rfl (fun h => h)) (Ev.plain rfl) rfl (fun _ => rfl) optS ?_
      first | refine ARun.indexSl rfl rfl rfl rfl Tryd.underlying22 sz24 (Ev.opt rfl (fun h => h)) (Ev.opt rfl (fun h => h)) (fun _ => rfl) (fun hg => getMap _ _ _ (by (try simp at hg); omega)) rfl rfl optS ?_ | refine ARun.indexSl rfl rfl rfl rfl Tryd.underlying22 sz24 (Ev.opt rfl (fun h => h)) (Ev.opt rfl (fun h => h)) (fun hg => ofNonneg (by (try simp at hg); omega)) (fun hg => getMap _ _ _ (by (try simp at hg); omega)) rfl rfl optS ?_
      refine ARun.fieldPe rfl rfl rfl rfl Tryd.underlying24 rfl rfl sz3 (by decide) (Ev.opt rfl (fun h => h)) rfl optS ?_
      refine ARun.loadPe rfl rfl rfl rfl Tryd.underlying3 rfl (Ev.opt rfl (fun h => h)) rfl optS ?_
      refine ARun.cmp rfl rfl rfl rfl (Ev.opt rfl (fun h => h)) (Ev.opt rfl (fun h => h)) rfl optS ?_
      refine ARun.pick rfl rfl rfl rfl (Ev.opt rfl (fun h => h)) (Ev.opt rfl (by first | exact pkT | exact pkT2 | simp +contextual)) (Ev.plain rfl) (andB _ _) optS ?_
      refine ARun.pick rfl rfl rfl rfl (Ev.plain rfl) (Ev.plain rfl) (Ev.opt rfl (by first | exact pkF | exact pkF2 | simp +contextual)) (orB _ _) optN ?_
      refine ⟨by kernel_rfl, _, _, rfl, hG, ?_⟩
      refine thenA_n ?_
      refine AWP.cond rfl (fun h2 => ?_) (fun h2 => ?_)
      · skip
        rw [okO_h2 (l.getD ((k : Int) - 1).toNat default).start (fun hk0 => by rw [show ((k : Int) - 1).toNat = k - 1 by omega])] at h2
        refine AWP.seq ?_
        refine AWP.region (fun _ => ?_)
        refine ARun.move (.inr rfl) rfl rfl rfl (Ev.plain rfl) optN ?_
        refine ⟨_, _, rfl, hG, ?_⟩
        refine thenA_n ?_
        refine AWP.ret ?_
        refine thenA_r ?_
        refine blockA_r ?_
        refine thenA_r ?_
        refine thenA_r ?_
        refine blockA_r ?_
        refine thenA_r ?_
        refine endF.one (.inr rfl) rfl (.tmp rfl) ?_ hN
        rw [check_bad (by omega) (okO_no1 (by simpa only [Bool.not_eq_true'] using h2))]; rfl
      · skip
        rw [okO_h2 (l.getD ((k : Int) - 1).toNat default).start (fun hk0 => by rw [show ((k : Int) - 1).toNat = k - 1 by omega])] at h2
        refine AWP.skip ?_
        refine thenA_n ?_
        refine AWP.seq ?_
        refine AWP.draw mixed (by kernel_rfl) (fun _ => ?_)
        refine ARun.move (.inl rfl) rfl rfl rfl (Ev.plain rfl) optN ?_
        refine ARun.move (.inl rfl) rfl rfl rfl (Ev.plain rfl) optN ?_
        refine ARun.cutSl (a := 0) (b := k) rfl rfl rfl rfl Tryd.underlying22 sz24 (Ev.plain rfl) (fun _ => (by intro x hx; obtain ⟨y, _, rfl⟩ := List.mem_map.1 hx; rfl)) (fun _ => rfl) ⟨_, _, (Ev.plain rfl), fun hg => (by (try simp at hg); omega)⟩ (fun hg => (by (try simp at hg); simp; omega)) rfl optN ?_
        refine ARun.fieldPe rfl rfl rfl rfl Tryd.underlying24 rfl rfl sz3 (by decide) (Ev.plain rfl) rfl optN ?_
        refine ARun.loadPe rfl rfl rfl rfl Tryd.underlying3 rfl (Ev.plain rfl) rfl optN ?_
        refine ARun.call rfl rfl rfl rfl cf20 (Ev.plain rfl) (.cons (Ev.plain rfl) (.cons (Ev.plain rfl) .nil)) rfl (fun hg => of_cut l k (l.getD k default).client hl) optN ?_
        refine ARun.move (.inr rfl) rfl rfl rfl (Ev.plain rfl) optN ?_
        refine ⟨by kernel_rfl, _, _, rfl, hG, ?_⟩
        refine thenA_n ?_
        refine AWP.seq ?_
        refine AWP.region (fun _ => ?_)
        refine ARun.move (.inl rfl) rfl rfl rfl (Ev.plain rfl) optN ?_
        refine ARun.lenSl rfl rfl rfl rfl Tryd.underlying22 (Ev.plain rfl) optN ?_
        refine ARun.cmp rfl rfl rfl rfl (Ev.plain rfl) (Ev.plain rfl) rfl optN ?_
        refine ⟨_, _, rfl, hG, ?_⟩
        refine thenA_n ?_
        refine AWP.cond rfl (fun h3 => ?_) (fun h3 => ?_)
        · skip
          simp only [decide_eq_true_eq, List.length_map] at h3
          replace h3 : 0 < (ofP (l.take k) (l.getD k default).client).length := by omega
          have hix : ((((ofP (l.take k) (l.getD k default).client).map aCo).length : Int) - 1).toNat = (ofP (l.take k) (l.getD k default).client).length - 1 := by rw [List.length_map]; omega
          refine AWP.seq ?_
          refine AWP.region (fun _ => ?_)
          refine ARun.move (.inl rfl) rfl rfl rfl (Ev.plain rfl) optN ?_
          refine ARun.move (.inl rfl) rfl rfl rfl (Ev.plain rfl) optN ?_
          refine ARun.lenSl rfl rfl rfl rfl Tryd.underlying22 (Ev.plain rfl) optN ?_
          first | refine ARun.arith rfl rfl rfl rfl (Ev.plain rfl) (Ev.plain rfl) rfl (fun hg => i64w (by (try simp at hg); omega)) optN ?_ | refine ARun.arith rfl rfl rfl rfl (Ev.plain rfl) (Ev.plain rfl) rfl (fun _ => rfl) optN ?_
          first | refine ARun.indexSl rfl rfl rfl rfl Tryd.underlying22 sz24 (Ev.plain rfl) (Ev.plain rfl) (fun _ => rfl) (fun hg => getMap _ _ _ (by (try simp at hg); omega)) rfl rfl optN ?_ | refine ARun.indexSl rfl rfl rfl rfl Tryd.underlying22 sz24 (Ev.plain rfl) (Ev.plain rfl) (fun hg => ofNonneg (by (try simp at hg); omega)) (fun hg => getMap _ _ _ (by (try simp at hg); omega)) rfl rfl optN ?_
          refine ARun.loadPeA rfl rfl rfl rfl Tryd.underlying24 rfl sz24 (Ev.plain rfl) rfl optN ?_
          refine ARun.alloc (j := 1) hG rfl rfl rfl rfl rfl zv24 rfl optN ?_
          refine ARun.storeL hG rfl rfl rfl sz24 (Ev.plain rfl) (Ev.plain rfl) rfl rfl rfl rfl rfl (Nat.le_of_ble_eq_true rfl) rfl rfl ?_
          refine ⟨_, _, rfl, hG, ?_⟩
          refine thenA_n ?_
          refine AWP.seq ?_
          refine AWP.frzBox 6 hG rfl rfl rfl ?_
          refine AWP.region (fun _ => ?_)
          refine ARun.loadPeA rfl rfl rfl rfl Tryd.underlying24 rfl sz24 (Ev.plain rfl) rfl optN ?_
          refine ARun.loadPeA rfl rfl rfl rfl Tryd.underlying24 rfl sz24 (Ev.plain rfl) rfl optN ?_
          refine ARun.call rfl rfl rfl rfl cf16 (Ev.plain rfl) (.cons (Ev.plain rfl) (.cons (Ev.plain rfl) .nil)) rfl (fun hg => ahead_fn ((ofP (l.take k) (l.getD k default).client).getD ((((ofP (l.take k) (l.getD k default).client).map aCo).length : Int) - 1).toNat default) (l.getD k default)) optN ?_
          refine ARun.not rfl rfl rfl rfl (Ev.plain rfl) optN ?_
          refine ARun.move (.inl rfl) rfl rfl rfl (Ev.plain rfl) optN ?_
          refine ARun.fieldPe rfl rfl rfl rfl Tryd.underlying24 rfl rfl sz3 (by decide) (Ev.plain rfl) rfl optS ?_
          refine ARun.loadPe rfl rfl rfl rfl Tryd.underlying3 rfl (Ev.opt rfl (fun h => h)) rfl optS ?_
          refine ARun.fieldPe rfl rfl rfl rfl Tryd.underlying24 rfl rfl sz3 (by decide) (Ev.plain rfl) rfl optS ?_
          refine ARun.loadPe rfl rfl rfl rfl Tryd.underlying3 rfl (Ev.opt rfl (fun h => h)) rfl optS ?_
          refine ARun.cmp rfl rfl rfl rfl (Ev.opt rfl (fun h => h)) (Ev.opt rfl (fun h => h)) rfl optS ?_
          refine ARun.pick rfl rfl rfl rfl (Ev.plain rfl) (Ev.plain rfl) (Ev.opt rfl (by first | exact pkF | exact pkF2 | simp +contextual)) (orB _ _) optN ?_
          refine ⟨_, _, rfl, hG, ?_⟩
          refine thenA_n ?_
          refine AWP.cond rfl (fun h4 => ?_) (fun h4 => ?_)
          · skip
            rw [hix, had_if h3] at h4
            refine AWP.seq ?_
            refine AWP.region (fun _ => ?_)
            refine ARun.move (.inr rfl) rfl rfl rfl (Ev.plain rfl) optN ?_
            refine ⟨_, _, rfl, hG, ?_⟩
            refine thenA_n ?_
            refine AWP.ret ?_
            refine blockA_r ?_
            refine thenA_r ?_
            refine thenA_r ?_
            refine blockA_r ?_
            refine thenA_r ?_
            refine endF.one (.inr rfl) rfl (.tmp rfl) ?_ hN
            rw [check_bad (by omega) (okO_no2 (by omega) hok (by rw [Bool.not_eq_true'] at h4; exact h4))]; rfl
          · skip
            rw [hix, had_if h3] at h4
            refine AWP.skip ?_
            refine blockA_n ?_
            refine thenA_n ?_
            refine AWP.region (fun _ => ?_)
            first | refine ARun.arith rfl rfl rfl rfl (Ev.plain rfl) (Ev.plain rfl) rfl (fun hg => i64w (by (try simp at hg); omega)) optN ?_ | refine ARun.arith rfl rfl rfl rfl (Ev.plain rfl) (Ev.plain rfl) rfl (fun _ => rfl) optN ?_
            refine ARun.move (.inl rfl) rfl rfl rfl (Ev.plain rfl) optN ?_
            refine ⟨_, _, rfl, hG, ?_⟩
            refine thenA_n ⟨rfl, k + 1, _, ?_, ?_, rfl, ?_⟩
            · refine ⟨by omega, fun j hj => ?_⟩
              by_cases e : j = k
              · subst e; exact okO_mk (by omega) hok (by simpa only [Bool.not_eq_false'] using h2) (by rw [Bool.not_eq_false'] at h4; exact h4)
              · exact hok j (by omega)
            · repeat (first | exact .nil | refine .cons rfl ?_)
            · omega
        · skip
          simp only [decide_eq_false_iff_not, List.length_map] at h3
          replace h3 : ¬ 0 < (ofP (l.take k) (l.getD k default).client).length := by omega
          refine AWP.skip ?_
          refine blockA_n ?_
          refine thenA_n ?_
          refine AWP.region (fun _ => ?_)
          first | refine ARun.arith rfl rfl rfl rfl (Ev.plain rfl) (Ev.plain rfl) rfl (fun hg => i64w (by (try simp at hg); omega)) optN ?_ | refine ARun.arith rfl rfl rfl rfl (Ev.plain rfl) (Ev.plain rfl) rfl (fun _ => rfl) optN ?_
          refine ARun.move (.inl rfl) rfl rfl rfl (Ev.plain rfl) optN ?_
          refine ⟨_, _, rfl, hG, ?_⟩
          refine thenA_n ⟨rfl, k + 1, _, ?_, ?_, rfl, ?_⟩
          · refine ⟨by omega, fun j hj => ?_⟩
            by_cases e : j = k
            · subst e; exact okO_mk (by omega) hok (by simpa only [Bool.not_eq_false'] using h2) (had_none h3)
            · exact hok j (by omega)
          · repeat (first | exact .nil | refine .cons rfl ?_)
          · omega
    · skip
      try simp [-List.getD_eq_getElem?_getD] at h1
      refine AWP.exit ?_
      refine thenA_x ?_
      refine thenA_x ?_
      refine blockA_h ?_
      refine thenA_n ?_
      refine AWP.seq ?_
      refine AWP.region (fun _ => ?_)
      refine ARun.move (.inr rfl) rfl rfl rfl (Ev.plain rfl) optN ?_
      refine ⟨_, _, rfl, hG, ?_⟩
      refine thenA_n ?_
      refine AWP.ret ?_
      refine endF.one (.inr rfl) rfl (.tmp rfl) ?_ hN
      rw [check_good (by omega) (fun j hj => hok j (by omega))]; rfl
theorem open_any (l : List Co) (c : Int) : decide (0 < (openP (ofP l c)).length) = l.any fun o => decide (o.client = c) && decide (o.end_ = 0) := by
  unfold openP ofP
  rw [Bool.eq_iff_iff, List.any_eq_true, decide_eq_true_eq]
  constructor
  · intro h
    obtain ⟨x, hx⟩ := List.exists_mem_of_length_pos h
    simp only [List.mem_filter, decide_eq_true_eq] at hx
    exact ⟨x, hx.1.1, by simp [hx.1.2, hx.2]⟩
  · rintro ⟨x, hx, h⟩
    simp only [Bool.and_eq_true, decide_eq_true_eq] at h
    exact List.length_pos_of_mem (a := x) (by simp only [List.mem_filter, decide_eq_true_eq]; exact ⟨⟨hx, h.1⟩, h.2⟩)
theorem seq_any {l : List Co} (h : checkO l = 0) (c s : Int) : (decide (0 < (ofP l c).length) && decide (s ≤ ((ofP l c).getD ((ofP l c).length - 1) default).seq)) = l.any fun o => decide (o.client = c) && decide (s ≤ o.seq) := by
  have hl := last_at (fun o => decide (o.client = c)) l l.length (Nat.le_refl _)
  rw [List.take_length] at hl
  rcases hl with ⟨h1, h2⟩ | ⟨m, h1, h2, h3, h4, h5⟩
  · rw [show ofP l c = [] from h1]
    symm
    rw [Bool.eq_iff_iff]
    constructor
    · intro ha
      obtain ⟨x, hx, hq⟩ := List.any_eq_true.1 ha
      simp only [Bool.and_eq_true, decide_eq_true_eq] at hq
      obtain ⟨k, hk, rfl⟩ := List.mem_iff_getElem.1 hx
      have := h2 k hk
      rw [Co_idx hk] at this
      exact absurd hq.1 (by simpa using this)
    · intro hq; simp at hq
  · rw [show decide (0 < (ofP l c).length) = true from decide_eq_true h3, show (ofP l c).getD ((ofP l c).length - 1) default = l.getD m default from h4, Bool.true_and]
    have hm : (l.getD m default).client = c := by simpa using h2
    rw [Bool.eq_iff_iff, List.any_eq_true, decide_eq_true_eq]
    constructor
    · intro hq
      exact ⟨l.getD m default, by rw [Co_idx h1]; exact List.getElem_mem h1, by simp only [Bool.and_eq_true, decide_eq_true_eq]; exact ⟨hm, hq⟩⟩
    · rintro ⟨x, hx, hq⟩
      simp only [Bool.and_eq_true, decide_eq_true_eq] at hq
      obtain ⟨k, hk, rfl⟩ := List.mem_iff_getElem.1 hx
      rw [← Co_idx hk] at hq
      by_cases e1 : k = m
      · subst e1; exact hq.2
      · by_cases e2 : m < k
        · have := h5 k e2 hk; exact absurd hq.1 (by simpa using this)
        · have := (apart_same ((okO_parts (check_at h m h1)).2.2 k (by omega)) (hq.1.trans hm.symm)).2
          omega
set_option maxHeartbeats 1000000 in
theorem begin_fn (l : List Co) (n : Int) (p : ByteArray) (hl : l.length ≤ 1000) (hp : ∀ x, x ∈ l → x.payload.size ≤ 1000000) (hps : p.size ≤ 1000000) : FnP Tryd.prog 9 [.sl (l.map aCo), .int .i64 n, .str p] (.tup [.sl ((beginL l n p).map aCo), .int .i64 (beginE l n p)]) := by
  have hfl : (ofP l (takeC p).client).length ≤ 1000 ∧ ((ofP l (takeC p).client).map aCo).length = (ofP l (takeC p).client).length := ⟨by have := List.length_filter_le (fun o : Co => decide (o.client = (takeC p).client)) l; unfold ofP; omega, List.length_map ..⟩
  obtain ⟨hf1, hf2⟩ := hfl
  refine FnP.of Tryd.func9 rfl rfl (by simp) (by simp [AV.cells, aIn, aOut, aLn, aCl, aRp, aCo]) (fun G hG => ?_)
  have hN : NoH G.length (.tup [.sl ((beginL l n p).map aCo), .int .i64 (beginE l n p)]) := (by simp [AV.cells, aIn, aOut, aLn, aCl, aRp, aCo])
  refine AWP.seq ?_
  refine AWP.region (fun _ => ?_)
  refine ARun.move (.inr rfl) rfl rfl rfl (Ev.plain rfl) optN ?_
  refine ARun.move (.inr rfl) rfl rfl rfl (Ev.plain rfl) optN ?_
  refine ⟨_, _, rfl, hG, ?_⟩
  refine thenA_n ?_
  refine AWP.seq ?_
  refine AWP.seq ?_
  refine AWP.region (fun _ => ?_)
  refine ARun.move (.inl rfl) rfl rfl rfl (Ev.plain rfl) optN ?_
  refine ARun.call rfl rfl rfl rfl cf14 (Ev.plain rfl) (.cons (Ev.plain rfl) .nil) rfl (fun hg => checkO_fn l hl hp) optN ?_
  refine ARun.cmp rfl rfl rfl rfl (Ev.plain rfl) (Ev.plain rfl) rfl optN ?_
  refine ⟨_, _, rfl, hG, ?_⟩
  refine thenA_n ?_
  refine AWP.cond rfl (fun h0 => ?_) (fun h0 => ?_)
  · skip
    simp at h0
    refine AWP.seq ?_
    refine AWP.region (fun _ => ?_)
    refine ARun.move (.inr rfl) rfl rfl rfl (Ev.plain rfl) optN ?_
    refine ARun.move (.inr rfl) rfl rfl rfl (Ev.plain rfl) optN ?_
    refine ⟨_, _, rfl, hG, ?_⟩
    refine thenA_n ?_
    refine AWP.ret ?_
    refine thenA_r ?_
    refine endF.many (.inr rfl) (rs := [.tmp 6, .tmp 7]) rfl (.cons (.tmp rfl) (.cons (.tmp rfl) .nil)) (by simp) ?_ hN
    have he : beginE l n p = 2 := by rw [beginE, if_pos h0]
    rw [beginL, if_neg (by rw [he]; decide), he]; rfl
  · skip
    simp at h0
    refine AWP.skip ?_
    refine thenA_n ?_
    refine AWP.seq ?_
    refine AWP.region (fun _ => ?_)
    refine ARun.move (.inl rfl) rfl rfl rfl (Ev.plain rfl) optN ?_
    refine ARun.call rfl rfl rfl rfl cf22 (Ev.plain rfl) (.cons (Ev.plain rfl) .nil) rfl (fun hg => take_c p hps) optN ?_
    refine ARun.move (.inl rfl) rfl rfl rfl (Ev.plain rfl) optN ?_
    refine ARun.extract rfl rfl rfl rfl (Ev.plain rfl) rfl optN ?_
    refine ARun.extract rfl rfl rfl rfl (Ev.plain rfl) rfl optN ?_
    refine ARun.alloc (j := 0) hG rfl rfl rfl rfl rfl zv50 rfl optN ?_
    refine ARun.storeL hG rfl rfl rfl sz50 (Ev.plain rfl) (Ev.plain rfl) rfl rfl rfl rfl rfl (Nat.le_of_ble_eq_true rfl) rfl rfl ?_
    refine ARun.move (.inr rfl) rfl rfl rfl (Ev.plain rfl) optN ?_
    refine ⟨_, _, rfl, hG, ?_⟩
    refine thenA_n ?_
    refine AWP.seq ?_
    refine AWP.seq ?_
    refine AWP.region (fun _ => ?_)
    refine ARun.move (.inl rfl) rfl rfl rfl (Ev.plain rfl) optN ?_
    refine ARun.isNil rfl rfl rfl rfl Tryd.underlying52 (Ev.plain rfl) (fun hg => by first | rfl | exact nilA_aEr _) (.inr ⟨rfl, rfl⟩) optN ?_
    refine ⟨_, _, rfl, hG, ?_⟩
    refine thenA_n ?_
    refine AWP.cond rfl (fun h1 => ?_) (fun h1 => ?_)
    · skip
      simp [takeErr_none] at h1
      refine AWP.seq ?_
      refine AWP.region (fun _ => ?_)
      refine ARun.move (.inl rfl) rfl rfl rfl (Ev.plain rfl) optN ?_
      refine ARun.call rfl rfl rfl rfl cf23 (Ev.plain rfl) (.cons (Ev.plain rfl) .nil) rfl (fun hg => code_fn (takeErr p)) optN ?_
      refine ARun.move (.inr rfl) rfl rfl rfl (Ev.plain rfl) optN ?_
      refine ARun.move (.inr rfl) rfl rfl rfl (Ev.plain rfl) optN ?_
      refine ⟨_, _, rfl, hG, ?_⟩
      refine thenA_n ?_
      refine AWP.ret ?_
      refine thenA_r ?_
      refine endF.many (.inr rfl) (rs := [.tmp 6, .tmp 7]) rfl (.cons (.tmp rfl) (.cons (.tmp rfl) .nil)) (by simp) ?_ hN
      have he : beginE l n p = takeE p := by rw [beginE, if_neg (by simp [h0]), if_pos h1]
      rw [beginL, if_neg (by rw [he]; exact h1), he, takeErr_code]; rfl
    · skip
      simp [takeErr_none] at h1
      refine AWP.skip ?_
      refine thenA_n ?_
      refine AWP.seq ?_
      refine AWP.frzBox 8 hG rfl rfl rfl ?_
      refine AWP.region (fun _ => ?_)
      refine ARun.move (.inl rfl) rfl rfl rfl (Ev.plain rfl) optN ?_
      refine ARun.fieldPe rfl rfl rfl rfl Tryd.underlying50 rfl rfl sz3 (by decide) (Ev.plain rfl) rfl optN ?_
      refine ARun.loadPe rfl rfl rfl rfl Tryd.underlying3 rfl (Ev.plain rfl) rfl optN ?_
      refine ARun.call rfl rfl rfl rfl cf20 (Ev.plain rfl) (.cons (Ev.plain rfl) (.cons (Ev.plain rfl) .nil)) rfl (fun hg => of_fn l (takeC p).client hl) optN ?_
      refine ARun.move (.inr rfl) rfl rfl rfl (Ev.plain rfl) optN ?_
      refine ⟨_, _, rfl, hG, ?_⟩
      refine thenA_n ?_
      refine AWP.seq ?_
      refine AWP.block ?_
      refine AWP.seq ?_
      refine AWP.region (fun _ => ?_)
      refine ARun.move (.inl rfl) rfl rfl rfl (Ev.plain rfl) optN ?_
      refine ARun.call rfl rfl rfl rfl cf18 (Ev.plain rfl) (.cons (Ev.plain rfl) .nil) rfl (fun hg => open_fn (ofP l (takeC p).client) (by omega)) optN ?_
      refine ARun.lenSl rfl rfl rfl rfl Tryd.underlying22 (Ev.plain rfl) optN ?_
      refine ARun.cmp rfl rfl rfl rfl (Ev.plain rfl) (Ev.plain rfl) rfl optN ?_
      refine ARun.move (.inr rfl) rfl rfl rfl (Ev.plain rfl) optN ?_
      refine ⟨_, _, rfl, hG, ?_⟩
      refine thenA_n ?_
      refine AWP.cond rfl (fun h2 => ?_) (fun h2 => ?_)
      · skip
        replace h2 : (l.any fun o => decide (o.client = (takeC p).client) && decide (o.end_ = 0)) = true := by rw [← open_any, decide_eq_true_eq]; simp only [decide_eq_true_eq, List.length_map] at h2; omega
        refine AWP.seq ?_
        refine AWP.region (fun _ => ?_)
        refine ARun.move (.inr rfl) rfl rfl rfl (Ev.plain rfl) optN ?_
        refine ARun.move (.inr rfl) rfl rfl rfl (Ev.plain rfl) optN ?_
        refine ⟨_, _, rfl, hG, ?_⟩
        refine thenA_n ?_
        refine AWP.ret ?_
        refine blockA_r ?_
        refine thenA_r ?_
        refine endF.many (.inr rfl) (rs := [.tmp 6, .tmp 7]) rfl (.cons (.tmp rfl) (.cons (.tmp rfl) .nil)) (by simp) ?_ hN
        have he : beginE l n p = 41 := by rw [beginE, if_neg (by simp [h0]), if_neg (by simp [h1]), if_pos h2]
        rw [beginL, if_neg (by rw [he]; decide), he]; rfl
      · skip
        replace h2 : ¬ (l.any fun o => decide (o.client = (takeC p).client) && decide (o.end_ = 0)) = true := by rw [← open_any, decide_eq_true_eq]; simp only [decide_eq_false_iff_not, List.length_map] at h2; omega
        refine AWP.seq ?_
        refine AWP.draw mixed (by kernel_rfl) (fun _ => ?_)
        refine ARun.move (.inl rfl) rfl rfl rfl (Ev.plain rfl) optN ?_
        refine ARun.lenSl rfl rfl rfl rfl Tryd.underlying22 (Ev.plain rfl) optN ?_
        refine ARun.cmp rfl rfl rfl rfl (Ev.plain rfl) (Ev.plain rfl) rfl optN ?_
        refine ARun.move (.inl rfl) rfl rfl rfl (Ev.plain rfl) optN ?_
        refine ARun.fieldPe rfl rfl rfl rfl Tryd.underlying50 rfl rfl sz3 (by decide) (Ev.plain rfl) rfl optS ?_
        refine ARun.loadPe rfl rfl rfl rfl Tryd.underlying3 rfl (Ev.opt rfl (fun h => h)) rfl optS ?_
        refine ARun.move (.inl rfl) rfl rfl rfl (Ev.plain rfl) optS ?_
        refine ARun.move (.inl rfl) rfl rfl rfl (Ev.plain rfl) optS ?_
        refine ARun.lenSl rfl rfl rfl rfl Tryd.underlying22 (Ev.opt rfl (fun h => h)) optS ?_
        first | refine ARun.arith rfl rfl rfl rfl (Ev.opt rfl (fun h => h)) (Ev.plain rfl) rfl (fun hg => i64w (by (try simp at hg); omega)) optS ?_ | refine ARun.arith rfl rfl rfl rfl (Ev.opt rfl (fun h => h)) (Ev.plain rfl) rfl (fun _ => rfl) optS ?_
        first | refine ARun.indexSl rfl rfl rfl rfl Tryd.underlying22 sz24 (Ev.opt rfl (fun h => h)) (Ev.opt rfl (fun h => h)) (fun _ => rfl) (fun hg => getMap _ _ _ (by (try simp at hg); omega)) rfl rfl optS ?_ | refine ARun.indexSl rfl rfl rfl rfl Tryd.underlying22 sz24 (Ev.opt rfl (fun h => h)) (Ev.opt rfl (fun h => h)) (fun hg => ofNonneg (by (try simp at hg); omega)) (fun hg => getMap _ _ _ (by (try simp at hg); omega)) rfl rfl optS ?_
        refine ARun.fieldPe rfl rfl rfl rfl Tryd.underlying24 rfl rfl sz3 (by decide) (Ev.opt rfl (fun h => h)) rfl optS ?_
        refine ARun.loadPe rfl rfl rfl rfl Tryd.underlying3 rfl (Ev.opt rfl (fun h => h)) rfl optS ?_
        refine ARun.cmp rfl rfl rfl rfl (Ev.opt rfl (fun h => h)) (Ev.opt rfl (fun h => h)) rfl optS ?_
        refine ARun.pick rfl rfl rfl rfl (Ev.plain rfl) (Ev.opt rfl (by first | exact pkT | exact pkT2 | simp +contextual)) (Ev.plain rfl) (andB _ _) optN ?_
        refine ARun.move (.inr rfl) rfl rfl rfl (Ev.plain rfl) optN ?_
        refine ⟨by kernel_rfl, _, _, rfl, hG, ?_⟩
        refine thenA_n ?_
        refine AWP.cond rfl (fun h3 => ?_) (fun h3 => ?_)
        · skip
          rw [hf2, show decide (0 < (((ofP l (takeC p).client).length : Nat) : Int)) = decide (0 < (ofP l (takeC p).client).length) from decide_eq_decide.2 (by omega), show ((((ofP l (takeC p).client).length : Nat) : Int) - 1).toNat = (ofP l (takeC p).client).length - 1 by omega, seq_any h0] at h3
          refine AWP.seq ?_
          refine AWP.region (fun _ => ?_)
          refine ARun.move (.inr rfl) rfl rfl rfl (Ev.plain rfl) optN ?_
          refine ARun.move (.inr rfl) rfl rfl rfl (Ev.plain rfl) optN ?_
          refine ⟨_, _, rfl, hG, ?_⟩
          refine thenA_n ?_
          refine AWP.ret ?_
          refine blockA_r ?_
          refine thenA_r ?_
          refine endF.many (.inr rfl) (rs := [.tmp 6, .tmp 7]) rfl (.cons (.tmp rfl) (.cons (.tmp rfl) .nil)) (by simp) ?_ hN
          have he : beginE l n p = 45 := by rw [beginE, if_neg (by simp [h0]), if_neg (by simp [h1]), if_neg h2, if_pos h3]
          rw [beginL, if_neg (by rw [he]; decide), he]; rfl
        · skip
          rw [hf2, show decide (0 < (((ofP l (takeC p).client).length : Nat) : Int)) = decide (0 < (ofP l (takeC p).client).length) from decide_eq_decide.2 (by omega), show ((((ofP l (takeC p).client).length : Nat) : Int) - 1).toNat = (ofP l (takeC p).client).length - 1 by omega, seq_any h0] at h3
          refine AWP.seq ?_
          refine AWP.region (fun _ => ?_)
          refine ARun.move (.inl rfl) rfl rfl rfl (Ev.plain rfl) optN ?_
          refine ARun.move (.inl rfl) rfl rfl rfl (Ev.plain rfl) optN ?_
          refine ARun.call rfl rfl rfl rfl cf24 (Ev.plain rfl) (.cons (Ev.plain rfl) (.cons (Ev.plain rfl) .nil)) rfl (fun hg => late_fn l n hl) optN ?_
          refine ARun.not rfl rfl rfl rfl (Ev.plain rfl) optN ?_
          refine ARun.move (.inr rfl) rfl rfl rfl (Ev.plain rfl) optN ?_
          refine ⟨_, _, rfl, hG, ?_⟩
          refine thenA_n ?_
          refine AWP.cond rfl (fun h4 => ?_) (fun h4 => ?_)
          · skip
            simp at h4
            refine AWP.seq ?_
            refine AWP.region (fun _ => ?_)
            refine ARun.move (.inr rfl) rfl rfl rfl (Ev.plain rfl) optN ?_
            refine ARun.move (.inr rfl) rfl rfl rfl (Ev.plain rfl) optN ?_
            refine ⟨_, _, rfl, hG, ?_⟩
            refine thenA_n ?_
            refine AWP.ret ?_
            refine blockA_r ?_
            refine thenA_r ?_
            refine endF.many (.inr rfl) (rs := [.tmp 6, .tmp 7]) rfl (.cons (.tmp rfl) (.cons (.tmp rfl) .nil)) (by simp) ?_ hN
            have he : beginE l n p = 2 := by rw [beginE, if_neg (by simp [h0]), if_neg (by simp [h1]), if_neg h2, if_neg (by rw [h3]; decide), if_pos h4]
            rw [beginL, if_neg (by rw [he]; decide), he]; rfl
          · skip
            simp at h4
            refine AWP.seq ?_
            refine AWP.region (fun _ => ?_)
            refine ARun.move (.inl rfl) rfl rfl rfl (Ev.plain rfl) optN ?_
            refine ARun.lenSl rfl rfl rfl rfl Tryd.underlying22 (Ev.plain rfl) optN ?_
            refine ARun.cmp rfl rfl rfl rfl (Ev.plain rfl) (Ev.plain rfl) rfl optN ?_
            refine ARun.move (.inr rfl) rfl rfl rfl (Ev.plain rfl) optN ?_
            refine ⟨_, _, rfl, hG, ?_⟩
            refine thenA_n ?_
            refine AWP.cond rfl (fun h5 => ?_) (fun h5 => ?_)
            · skip
              simp at h5
              refine AWP.seq ?_
              refine AWP.region (fun _ => ?_)
              refine ARun.move (.inr rfl) rfl rfl rfl (Ev.plain rfl) optN ?_
              refine ARun.move (.inr rfl) rfl rfl rfl (Ev.plain rfl) optN ?_
              refine ⟨_, _, rfl, hG, ?_⟩
              refine thenA_n ?_
              refine AWP.ret ?_
              refine blockA_r ?_
              refine thenA_r ?_
              refine endF.many (.inr rfl) (rs := [.tmp 6, .tmp 7]) rfl (.cons (.tmp rfl) (.cons (.tmp rfl) .nil)) (by simp) ?_ hN
              have he : beginE l n p = 8 := by rw [beginE, if_neg (by simp [h0]), if_neg (by simp [h1]), if_neg h2, if_neg (by rw [h3]; decide), if_neg (by simp [h4]), if_pos (by omega)]
              rw [beginL, if_neg (by rw [he]; decide), he]; rfl
            · skip
              simp at h5
              refine AWP.skip ?_
              refine blockA_n ?_
              refine thenA_n ?_
              refine AWP.seq ?_
              refine AWP.draw mixed (by kernel_rfl) (fun _ => ?_)
              refine ARun.move (.inl rfl) rfl rfl rfl (Ev.plain rfl) optN ?_
              refine ARun.callNew (j := 1) hG rfl rfl rfl rfl rfl cf25 (Ev.plain rfl) (.cons (Ev.plain rfl) .nil) rfl (cloneCo_new l (by omega)) optN ?_
              refine ARun.fieldPe rfl rfl rfl rfl Tryd.underlying50 rfl rfl sz3 (by decide) (Ev.plain rfl) rfl optN ?_
              refine ARun.loadPe rfl rfl rfl rfl Tryd.underlying3 rfl (Ev.plain rfl) rfl optN ?_
              refine ARun.fieldPe rfl rfl rfl rfl Tryd.underlying50 rfl rfl sz3 (by decide) (Ev.plain rfl) rfl optN ?_
              refine ARun.loadPe rfl rfl rfl rfl Tryd.underlying3 rfl (Ev.plain rfl) rfl optN ?_
              refine ARun.move (.inl rfl) rfl rfl rfl (Ev.plain rfl) optN ?_
              refine ARun.move (.inl rfl) rfl rfl rfl (Ev.plain rfl) optN ?_
              refine ARun.build rfl rfl rfl rfl so24 (.cons (Ev.plain rfl) (.cons (Ev.plain rfl) (.cons (Ev.plain rfl) (.cons (Ev.plain rfl) .nil)))) rfl rfl optN ?_
              refine ARun.buildSl rfl rfl rfl rfl Tryd.underlying22 sz24 zv24 rfl (by decide) (.cons (Ev.plain rfl) .nil) rfl rfl rfl rfl (by decide) rfl rfl optN ?_
              refine ARun.appendL hG rfl rfl rfl rfl Tryd.underlying22 ti24 rfl (by decide) (Ev.plain rfl) (Ev.plain rfl) rfl rfl (by simp [maxLen]; omega) (by simp; omega) (co_map l (newO n p)) optN rfl ?_
              refine ARun.move (.inr rfl) rfl rfl rfl (Ev.plain rfl) optN ?_
              refine ARun.move (.inr rfl) rfl rfl rfl (Ev.plain rfl) optN ?_
              refine ⟨by kernel_rfl, _, _, rfl, hG, ?_⟩
              refine thenA_n ?_
              refine AWP.frzOwn 6 hG rfl rfl (by decide) (by simp [maxLen]; omega) rfl ?_
              refine AWP.ret ?_
              refine endF.many (.inr rfl) (rs := [.tmp 6, .tmp 7]) rfl (.cons (.tmp rfl) (.cons (.tmp rfl) .nil)) (by simp) ?_ hN
              have he : beginE l n p = 0 := by rw [beginE, if_neg (by simp [h0]), if_neg (by simp [h1]), if_neg h2, if_neg (by rw [h3]; decide), if_neg (by simp [h4]), if_neg (by omega)]
              rw [beginL, if_pos he, he]; rfl
theorem set_cells {z : Nat} {xs : List AV} {k : Nat} {X : AV} (h : ∀ x, x ∈ xs → x.cells.length = z) (hX : X.cells.length = z) : ∀ x, x ∈ xs.set k X → x.cells.length = z := by
  intro x hx
  rcases List.mem_or_eq_of_mem_set hx with h1 | h1
  · exact h x h1
  · subst h1; exact hX
theorem flat_cell {z : Nat} : ∀ (xs : List AV) (k q : Nat) (X Y c : AV), (∀ x, x ∈ xs → x.cells.length = z) → xs[k]? = some Y → q < z → X.cells = Y.cells.take q ++ [c] ++ Y.cells.drop (q + 1) →
    (xs.set k X).flatMap AV.cells = (xs.flatMap AV.cells).take (k * z + q) ++ [c] ++ (xs.flatMap AV.cells).drop (k * z + q + 1) := by
  intro xs
  induction xs with
  | nil => intro k q X Y c _ h; simp at h
  | cons x xs ih =>
    intro k q X Y c hz hY hq hX
    have hx := hz x List.mem_cons_self
    cases k with
    | zero =>
      simp at hY; subst hY
      simp only [List.set_cons_zero, List.flatMap_cons, hX, Nat.zero_mul, Nat.zero_add]
      rw [List.take_append_of_le_length (by omega), List.drop_append_of_le_length (by omega)]
      simp
    | succ k =>
      have := ih k q X Y c (fun y hy => hz y (List.mem_cons_of_mem _ hy)) (by simpa using hY) hq hX
      simp only [List.set_cons_succ, List.flatMap_cons]
      rw [this, show (k + 1) * z + q = x.cells.length + (k * z + q) by rw [hx, Nat.add_mul]; omega, show x.cells.length + (k * z + q) + 1 = x.cells.length + (k * z + q + 1) by omega, List.take_length_add_append, List.drop_length_add_append]
      simp
theorem idx_found {p : Co → Bool} {l : List Co} (h : ¬ idxOf p l < 0) : ∃ k, k < l.length ∧ idxOf p l = (k : Int) ∧ p (l.getD k default) = true ∧ ∀ j, j < k → p (l.getD j default) = false := by
  unfold idxOf at h ⊢
  cases hf : l.findIdx? p with
  | none => rw [hf] at h; simp at h
  | some k =>
    obtain ⟨hk, h2, h3⟩ := List.findIdx?_eq_some_iff_getElem.1 hf
    refine ⟨k, hk, rfl, by rw [Co_idx hk]; exact h2, fun j hj => ?_⟩
    rw [Co_idx (by omega)]; simpa using h3 j hj
theorem idx_any {p : Co → Bool} {l : List Co} (h : idxOf p l < 0) : l.any p = false := by
  have := any_idx p l
  rw [decide_eq_false (by omega)] at this
  exact this.symm
theorem any_found {p : Co → Bool} {l : List Co} (h : ¬ idxOf p l < 0) : l.any p = true := by
  have := any_idx p l
  rw [decide_eq_true (by omega)] at this
  exact this.symm
theorem one_only {l : List Co} (h : checkO l = 0) {c s : Int} {k j : Nat} (hk : k < l.length) (hj : j < l.length) (h1 : isO c s (l.getD k default) = true) (h2 : isO c s (l.getD j default) = true) : k = j := by
  have key : ∀ a b : Nat, a < b → b < l.length → isO c s (l.getD a default) = true → isO c s (l.getD b default) = true → False := by
    intro a b hab hb q1 q2
    unfold isO at q1 q2
    simp only [Bool.and_eq_true, decide_eq_true_eq] at q1 q2
    have := (apart_same ((okO_parts (check_at h b hb)).2.2 a hab) (q1.1.2.trans q2.1.2.symm)).1.1
    exact this q1.1.1
  rcases Nat.lt_trichotomy k j with h3 | h3 | h3
  · exact (key k j h3 hj h1 h2).elim
  · exact h3
  · exact (key j k h3 hk h2 h1).elim
theorem end_set {l : List Co} (h : checkO l = 0) {t c s : Int} {r : ByteArray} {k : Nat} (hk : k < l.length) (h1 : isO c s (l.getD k default) = true) (Z : AV) :
    ((l.map aCo).set k Z).set k (aCo { l.getD k default with end_ := t, reply := r }) = (l.map (endO t c s r)).map aCo := by
  rw [List.set_set, ← List.map_set]
  congr 1
  refine List.ext_getElem (by simp) fun j h2 h3 => ?_
  rw [List.getElem_map]
  have hj : j < l.length := by simpa using h3
  by_cases e : k = j
  · subst e
    rw [List.getElem_set_self]
    unfold endO
    rw [Co_idx hk] at h1 ⊢
    rw [if_pos h1]
  · rw [List.getElem_set_ne e]
    unfold endO
    rw [if_neg]
    intro h4
    exact e (one_only h hk hj h1 (by rw [Co_idx hj]; exact h4))
set_option maxHeartbeats 1000000 in
theorem end_fn2 (l : List Co) (n c s : Int) (r : ByteArray) (hl : l.length ≤ 1000) (hp : ∀ x, x ∈ l → x.payload.size ≤ 1000000) : FnP Tryd.prog 11 [.sl (l.map aCo), .int .i64 n, .int .i64 c, .int .i64 s, .str r] (.tup [.sl ((endL l n c s r).map aCo), .int .i64 (endE l n c s)]) := by
  refine FnP.of Tryd.func11 rfl rfl (by simp) (by simp [AV.cells, aIn, aOut, aLn, aCl, aRp, aCo]) (fun G hG => ?_)
  have hN : NoH G.length (.tup [.sl ((endL l n c s r).map aCo), .int .i64 (endE l n c s)]) := (by simp [AV.cells, aIn, aOut, aLn, aCl, aRp, aCo])
  refine AWP.seq ?_
  refine AWP.region (fun _ => ?_)
  refine ARun.boxPe1 rfl rfl rfl rfl (Ev.plain rfl) (by first | rfl | exact aEr_one _ | exact aFl_one _) optN ?_
  refine ARun.boxPe1 rfl rfl rfl rfl (Ev.plain rfl) (by first | rfl | exact aEr_one _ | exact aFl_one _) optN ?_
  refine ARun.move (.inr rfl) rfl rfl rfl (Ev.plain rfl) optN ?_
  refine ARun.move (.inr rfl) rfl rfl rfl (Ev.plain rfl) optN ?_
  refine ⟨_, _, rfl, hG, ?_⟩
  refine thenA_n ?_
  refine AWP.seq ?_
  refine AWP.seq ?_
  refine AWP.region (fun _ => ?_)
  refine ARun.move (.inl rfl) rfl rfl rfl (Ev.plain rfl) optN ?_
  refine ARun.call rfl rfl rfl rfl cf14 (Ev.plain rfl) (.cons (Ev.plain rfl) .nil) rfl (fun hg => checkO_fn l hl hp) optN ?_
  refine ARun.cmp rfl rfl rfl rfl (Ev.plain rfl) (Ev.plain rfl) rfl optN ?_
  refine ⟨_, _, rfl, hG, ?_⟩
  refine thenA_n ?_
  refine AWP.cond rfl (fun h0 => ?_) (fun h0 => ?_)
  · skip
    simp at h0
    refine AWP.seq ?_
    refine AWP.region (fun _ => ?_)
    refine ARun.move (.inr rfl) rfl rfl rfl (Ev.plain rfl) optN ?_
    refine ARun.move (.inr rfl) rfl rfl rfl (Ev.plain rfl) optN ?_
    refine ⟨_, _, rfl, hG, ?_⟩
    refine thenA_n ?_
    refine AWP.ret ?_
    refine thenA_r ?_
    refine endF.many (.inr rfl) (rs := [.tmp 10, .tmp 11]) rfl (.cons (.tmp rfl) (.cons (.tmp rfl) .nil)) (by simp) ?_ hN
    have he : endE l n c s = 2 := by rw [endE, if_pos h0]
    rw [endL, if_neg (by rw [he]; decide), he]; rfl
  · skip
    simp at h0
    refine AWP.skip ?_
    refine thenA_n ?_
    refine AWP.seq ?_
    refine AWP.region (fun _ => ?_)
    refine ARun.move (.inl rfl) rfl rfl rfl (Ev.plain rfl) optN ?_
    refine ARun.makeFunc rfl rfl rfl rfl .nil (.cons (Ev.plain rfl) (.cons (Ev.plain rfl) .nil)) optN ?_
    refine ARun.call rfl rfl rfl rfl cf28 (Ev.plain rfl) (.cons (Ev.plain rfl) (.cons (Ev.plain rfl) .nil)) rfl (fun hg => indexCo 29 [] [.pe [.int .i64 c], .pe [.int .i64 s]] (isO c s) l (by omega) cf29 (by simp) (fun x _ => endF_fn x c s)) optN ?_
    refine ARun.move (.inr rfl) rfl rfl rfl (Ev.plain rfl) optN ?_
    refine ⟨_, _, rfl, hG, ?_⟩
    refine thenA_n ?_
    refine AWP.seq ?_
    refine AWP.block ?_
    refine AWP.seq ?_
    refine AWP.region (fun _ => ?_)
    refine ARun.move (.inl rfl) rfl rfl rfl (Ev.plain rfl) optN ?_
    refine ARun.cmp rfl rfl rfl rfl (Ev.plain rfl) (Ev.plain rfl) rfl optN ?_
    refine ARun.move (.inr rfl) rfl rfl rfl (Ev.plain rfl) optN ?_
    refine ⟨_, _, rfl, hG, ?_⟩
    refine thenA_n ?_
    refine AWP.cond rfl (fun h1 => ?_) (fun h1 => ?_)
    · skip
      simp at h1
      refine AWP.seq ?_
      refine AWP.region (fun _ => ?_)
      refine ARun.move (.inr rfl) rfl rfl rfl (Ev.plain rfl) optN ?_
      refine ARun.move (.inr rfl) rfl rfl rfl (Ev.plain rfl) optN ?_
      refine ⟨_, _, rfl, hG, ?_⟩
      refine thenA_n ?_
      refine AWP.ret ?_
      refine blockA_r ?_
      refine thenA_r ?_
      refine endF.many (.inr rfl) (rs := [.tmp 10, .tmp 11]) rfl (.cons (.tmp rfl) (.cons (.tmp rfl) .nil)) (by simp) ?_ hN
      have he : endE l n c s = 31 := by rw [endE, if_neg (by simp [h0]), if_pos (idx_any (by omega))]
      rw [endL, if_neg (by rw [he]; decide), he]; rfl
    · skip
      simp at h1
      have h1n : ¬ idxOf (isO c s) l < 0 := by omega
      obtain ⟨k, hk, hkx, hkp, _⟩ := idx_found h1n
      have hkt : (idxOf (isO c s) l).toNat = k := by omega
      refine AWP.seq ?_
      refine AWP.region (fun _ => ?_)
      refine ARun.move (.inl rfl) rfl rfl rfl (Ev.plain rfl) optN ?_
      refine ARun.move (.inl rfl) rfl rfl rfl (Ev.plain rfl) optN ?_
      refine ARun.call rfl rfl rfl rfl cf24 (Ev.plain rfl) (.cons (Ev.plain rfl) (.cons (Ev.plain rfl) .nil)) rfl (fun hg => late_fn l n hl) optN ?_
      refine ARun.not rfl rfl rfl rfl (Ev.plain rfl) optN ?_
      refine ARun.move (.inr rfl) rfl rfl rfl (Ev.plain rfl) optN ?_
      refine ⟨_, _, rfl, hG, ?_⟩
      refine thenA_n ?_
      refine AWP.cond rfl (fun h2 => ?_) (fun h2 => ?_)
      · skip
        simp at h2
        refine AWP.seq ?_
        refine AWP.region (fun _ => ?_)
        refine ARun.move (.inr rfl) rfl rfl rfl (Ev.plain rfl) optN ?_
        refine ARun.move (.inr rfl) rfl rfl rfl (Ev.plain rfl) optN ?_
        refine ⟨_, _, rfl, hG, ?_⟩
        refine thenA_n ?_
        refine AWP.ret ?_
        refine blockA_r ?_
        refine thenA_r ?_
        refine endF.many (.inr rfl) (rs := [.tmp 10, .tmp 11]) rfl (.cons (.tmp rfl) (.cons (.tmp rfl) .nil)) (by simp) ?_ hN
        have he : endE l n c s = 2 := by rw [endE, if_neg (by simp [h0]), if_neg (by rw [any_found h1n]; decide), if_pos h2]
        rw [endL, if_neg (by rw [he]; decide), he]; rfl
      · skip
        simp at h2
        refine AWP.skip ?_
        refine blockA_n ?_
        refine thenA_n ?_
        refine AWP.seq ?_
        refine AWP.region (fun _ => ?_)
        refine ARun.move (.inl rfl) rfl rfl rfl (Ev.plain rfl) optN ?_
        refine ARun.callNew (j := 0) hG rfl rfl rfl rfl rfl cf25 (Ev.plain rfl) (.cons (Ev.plain rfl) .nil) rfl (cloneCo_new l (by omega)) optN ?_
        refine ARun.move (.inr rfl) rfl rfl rfl (Ev.plain rfl) optN ?_
        refine ⟨_, _, rfl, hG, ?_⟩
        refine thenA_n ?_
        refine AWP.seq ?_
        refine AWP.region (fun _ => ?_)
        refine ARun.move (.inl rfl) rfl rfl rfl (Ev.plain rfl) optN ?_
        refine ARun.move (.inl rfl) rfl rfl rfl (Ev.plain rfl) optN ?_
        refine ARun.move (.inl rfl) rfl rfl rfl (Ev.plain rfl) optN ?_
        refine ARun.move (.inl rfl) rfl rfl rfl (Ev.plain rfl) optN ?_
        refine ARun.move (.inl rfl) rfl rfl rfl (Ev.plain rfl) optN ?_
        refine ARun.move (.inl rfl) rfl rfl rfl (Ev.plain rfl) optN ?_
        refine ARun.indexOwn (j := (idxOf (isO c s) l).toNat) rfl rfl rfl rfl Tryd.underlying22 sz24 ((hG.at _ _).trans rfl) (Ev.plain rfl) (Ev.plain rfl) (fun hg => ofNonneg (by omega)) (fun hg => (by simp; omega)) optN ?_
        refine ARun.fieldElt rfl rfl rfl rfl Tryd.underlying24 rfl rfl sz3 (by decide) (Ev.plain rfl) ((hG.at _ _).trans rfl) optN ?_
        refine ARun.storeEltL (zs := (l.map aCo).set (idxOf (isO c s) l).toNat (aCo { (l.getD (idxOf (isO c s) l).toNat default) with end_ := n })) hG rfl rfl rfl sz3 (Ev.plain rfl) (Ev.plain rfl) rfl rfl rfl rfl rfl (by simp; omega) (flat_cell _ _ 4 _ (aCo (l.getD (idxOf (isO c s) l).toNat default)) (.int .i64 n) (by intro x hx; obtain ⟨y, _, rfl⟩ := List.mem_map.1 hx; rfl) (by rw [List.getElem?_map, List.getElem?_eq_getElem (by omega), Co_idx (by omega)]; rfl) (by decide) rfl) (by simp) (set_cells (by intro x hx; obtain ⟨y, _, rfl⟩ := List.mem_map.1 hx; rfl) rfl) rfl ?_
        refine ARun.indexOwn (j := (idxOf (isO c s) l).toNat) rfl rfl rfl rfl Tryd.underlying22 sz24 ((hG.at _ _).trans rfl) (Ev.plain rfl) (Ev.plain rfl) (fun hg => ofNonneg (by omega)) (fun hg => (by simp; omega)) optN ?_
        refine ARun.fieldElt rfl rfl rfl rfl Tryd.underlying24 rfl rfl sz9 (by decide) (Ev.plain rfl) ((hG.at _ _).trans rfl) optN ?_
        refine ARun.storeEltL (zs := ((l.map aCo).set (idxOf (isO c s) l).toNat (aCo { (l.getD (idxOf (isO c s) l).toNat default) with end_ := n })).set (idxOf (isO c s) l).toNat (aCo { (l.getD (idxOf (isO c s) l).toNat default) with end_ := n, reply := r })) hG rfl rfl rfl sz9 (Ev.plain rfl) (Ev.plain rfl) rfl rfl rfl rfl rfl (by simp; omega) (flat_cell _ _ 5 _ (aCo { (l.getD (idxOf (isO c s) l).toNat default) with end_ := n }) (.str r) (set_cells (by intro x hx; obtain ⟨y, _, rfl⟩ := List.mem_map.1 hx; rfl) rfl) (by rw [List.getElem?_set_self (by simp; omega)]) (by decide) rfl) (by simp) (set_cells (set_cells (by intro x hx; obtain ⟨y, _, rfl⟩ := List.mem_map.1 hx; rfl) rfl) rfl) rfl ?_
        refine ⟨_, _, rfl, hG, ?_⟩
        refine thenA_n ?_
        refine AWP.seq ?_
        refine AWP.region (fun _ => ?_)
        refine ARun.move (.inl rfl) rfl rfl rfl (Ev.plain rfl) optN ?_
        refine ARun.move (.inr rfl) rfl rfl rfl (Ev.plain rfl) optN ?_
        refine ARun.move (.inr rfl) rfl rfl rfl (Ev.plain rfl) optN ?_
        refine ⟨_, _, rfl, hG, ?_⟩
        refine thenA_n ?_
        refine AWP.frzOwn 10 hG rfl rfl (by decide) (by simp [maxLen]; omega) rfl ?_
        refine AWP.ret ?_
        refine endF.many (.inr rfl) (rs := [.tmp 10, .tmp 11]) rfl (.cons (.tmp rfl) (.cons (.tmp rfl) .nil)) (by simp) ?_ hN
        have he : endE l n c s = 0 := by rw [endE, if_neg (by simp [h0]), if_neg (by rw [any_found h1n]; decide), if_neg (by simp [h2])]
        rw [endL, if_pos he, he, ← end_set h0 (k := (idxOf (isO c s) l).toNat) (by omega) (by rw [hkt]; exact hkp) (aCo { (l.getD (idxOf (isO c s) l).toNat default) with end_ := n })]; rfl
end Go.Proofs.YthogpkmidffdeaaDoor
