/- The texts that the law ServiceOnce rests on, part 5: AmCl, AmBask, CallLaw, ServPlain. -/
import Derived.Test.YtgebpndhnkkbgaaGreatDoorSvO4
namespace Go.Proofs.YtgebpndhnkkbgaaGreatDoor
set_option linter.unusedVariables false
set_option linter.unusedSimpArgs false
open Go.RowKit
open NumP
set_option maxRecDepth 100000
def aLn (s : Ln) : AV := .agg [.int .i64 s.item, .int .i64 s.qty]
def aCl (c : Cl) : AV := .agg [.int .i64 c.client, .int .i64 c.seq, .int .i64 c.kind, .int .i64 c.item, .int .i64 c.to_, .int .i64 c.qty, .sl (c.lines.map aLn)]
def aRp (r : Rp) : AV := .agg [.int .i64 r.code, .sl (r.nums.map (AV.int .i64))]
theorem okAt_not (l : List Ln) (k : Nat) : (!numbP (l.getD k default).item || decide ((l.getD k default).item ≤ lastAt l k) || !someP (l.getD k default).qty) = !okAt l k := by
  cases h : numbP (l.getD k default).item with
  | false => unfold okAt; rw [h]; rfl
  | true =>
    unfold okAt
    rw [okAt_iff l k h, h]
    by_cases h2 : lastAt l k < (l.getD k default).item
    · rw [decide_eq_true h2, decide_eq_false (by omega)]; simp
    · rw [decide_eq_false h2, decide_eq_true (by omega)]; simp
theorem new_none (p : ByteArray) (e : Int) : (Er.new p e).isNone = decide (e = 0) := by unfold Er.new; split <;> simp_all [Er.isNone]
theorem wrap_none (p : ByteArray) (e : Er) : (Er.wrap p e).isNone = e.isNone := by unfold Er.wrap; split <;> simp_all [Er.isNone]
theorem any_neg (l : List Int) : (l.any fun n => decide (n < 0)) = !nneg l := by
  induction l with
  | nil => rfl
  | cons x l ih => simp only [List.any_cons, nneg, List.all_cons] at ih ⊢; rw [ih]; by_cases h : x < 0 <;> simp [h] <;> omega
theorem pair_snoc (l : List Int) (k : Nat) (h : 2 * k + 1 < l.length) : (pairsL (l.take (2 * k))).map aLn ++ [AV.agg [AV.int .i64 (l.getD (2 * k) default), AV.int .i64 (l.getD (2 * k + 1) default)]] = (pairsL (l.take (2 * (k + 1)))).map aLn := by rw [pairsL_take l k h]; simp [aLn]
theorem pairsL_len : ∀ l : List Int, (pairsL l).length ≤ l.length
  | [] => Nat.le_refl _
  | [_] => by simp [pairsL]
  | a :: b :: r => by have := pairsL_len r; simp [pairsL]; omega
theorem last_succ (l : List Ln) (k : Nat) : lastAt l (k + 1) = (l.getD k default).item := by simp [lastAt]
set_option maxHeartbeats 1000000 in
theorem number_fn (n : Int) : FnP Tryz.prog 66 [.int .i64 n] (.bool (numbP n)) := by
  refine FnP.of Tryz.func66 rfl rfl (by simp) (by simp [AV.cells, aIn, aOut, aLn, aCl, aRp]) (fun G hG => ?_)
  have hN : NoH G.length (.bool (numbP n)) := (by simp [AV.cells, aIn, aOut, aLn, aCl, aRp])
  refine AWP.seq ?_
  refine AWP.region (fun _ => ?_)
  refine ARun.move (.inr rfl) rfl rfl rfl (Ev.plain rfl) optN ?_
  refine ⟨_, _, rfl, hG, ?_⟩
  refine thenA_n ?_
  refine AWP.seq ?_
  refine AWP.region (fun _ => ?_)
  refine ARun.move (.inl rfl) rfl rfl rfl (Ev.plain rfl) optN ?_
  refine ARun.cmp rfl rfl rfl rfl (Ev.plain rfl) (Ev.plain rfl) rfl optN ?_
  refine ARun.move (.inl rfl) rfl rfl rfl (Ev.plain rfl) optN ?_
  refine ARun.move (.inl rfl) rfl rfl rfl (Ev.plain rfl) optS ?_
  refine ARun.cmp rfl rfl rfl rfl (Ev.opt rfl (fun h => h)) (Ev.plain rfl) rfl optS ?_
  refine ARun.pick rfl rfl rfl rfl (Ev.plain rfl) (Ev.opt rfl (by first | exact pkT | exact pkT2 | simp +contextual)) (Ev.plain rfl) (andB _ _) optN ?_
  refine ARun.move (.inr rfl) rfl rfl rfl (Ev.plain rfl) optN ?_
  refine ⟨_, _, rfl, hG, ?_⟩
  refine thenA_n ?_
  refine AWP.ret ?_
  refine endF.one (.inr rfl) rfl (.tmp rfl) ?_ hN
  rfl
set_option maxHeartbeats 1000000 in
theorem some_fn (n : Int) : FnP Tryz.prog 102 [.int .i64 n] (.bool (someP n)) := by
  refine FnP.of Tryz.func102 rfl rfl (by simp) (by simp [AV.cells, aIn, aOut, aLn, aCl, aRp]) (fun G hG => ?_)
  have hN : NoH G.length (.bool (someP n)) := (by simp [AV.cells, aIn, aOut, aLn, aCl, aRp])
  refine AWP.seq ?_
  refine AWP.region (fun _ => ?_)
  refine ARun.move (.inr rfl) rfl rfl rfl (Ev.plain rfl) optN ?_
  refine ⟨_, _, rfl, hG, ?_⟩
  refine thenA_n ?_
  refine AWP.seq ?_
  refine AWP.region (fun _ => ?_)
  refine ARun.move (.inl rfl) rfl rfl rfl (Ev.plain rfl) optN ?_
  refine ARun.cmp rfl rfl rfl rfl (Ev.plain rfl) (Ev.plain rfl) rfl optN ?_
  refine ARun.move (.inl rfl) rfl rfl rfl (Ev.plain rfl) optN ?_
  refine ARun.move (.inl rfl) rfl rfl rfl (Ev.plain rfl) optS ?_
  refine ARun.cmp rfl rfl rfl rfl (Ev.opt rfl (fun h => h)) (Ev.plain rfl) rfl optS ?_
  refine ARun.pick rfl rfl rfl rfl (Ev.plain rfl) (Ev.opt rfl (by first | exact pkT | exact pkT2 | simp +contextual)) (Ev.plain rfl) (andB _ _) optN ?_
  refine ARun.move (.inr rfl) rfl rfl rfl (Ev.plain rfl) optN ?_
  refine ⟨_, _, rfl, hG, ?_⟩
  refine thenA_n ?_
  refine AWP.ret ?_
  refine endF.one (.inr rfl) rfl (.tmp rfl) ?_ hN
  rfl
set_option maxHeartbeats 1000000 in
theorem lines_fn (l : List Ln) (hl : l.length ≤ 100000) : FnP Tryz.prog 103 [.sl (l.map aLn)] (.bool (linesP l)) := by
  refine FnP.of Tryz.func103 rfl rfl (by simp) (by simp [AV.cells, aIn, aOut, aLn, aCl, aRp]) (fun G hG => ?_)
  have hN : NoH G.length (.bool (linesP l)) := (by simp [AV.cells, aIn, aOut, aLn, aCl, aRp])
  refine AWP.seq ?_
  refine AWP.region (fun _ => ?_)
  refine ARun.move (.inr rfl) rfl rfl rfl (Ev.plain rfl) optN ?_
  refine ⟨_, _, rfl, hG, ?_⟩
  refine thenA_n ?_
  refine AWP.seq ?_
  refine AWP.region (fun _ => ?_)
  refine ARun.move (.inr rfl) rfl rfl rfl (Ev.plain rfl) optN ?_
  refine ⟨_, _, rfl, hG, ?_⟩
  refine thenA_n ?_
  refine AWP.seq ?_
  refine AWP.seq ?_
  refine AWP.region (fun _ => ?_)
  refine ARun.move (.inl rfl) rfl rfl rfl (Ev.plain rfl) optN ?_
  refine ARun.lenSl rfl rfl rfl rfl Tryz.underlying23 (Ev.plain rfl) optN ?_
  refine ARun.move (.inl rfl) rfl rfl rfl (Ev.plain rfl) optN ?_
  refine ⟨_, _, rfl, hG, ?_⟩
  refine thenA_n ?_
  refine AWP.block ?_
  refine AWP.rounds (fun k => k ≤ l.length ∧ ∀ j, j < k → okAt l j = true) (fun k => [(0, .sl (l.map aLn)), (3, .int .i64 (lastAt l k)), (6, .sl (l.map aLn)), (7, .int .i64 ((l.map aLn).length : Int)), (8, .int .i64 (k : Int))]) (fun k => []) (fun k => l.length - k) 0 0 ⟨by omega, fun j h => by omega⟩ (by repeat (first | exact .nil | refine .cons rfl ?_)) rfl (fun _ => rfl) (fun _ => ⟨by simp [AV.cells, aLn], by simp⟩) (fun k hI => ?_)
  obtain ⟨hk, hno⟩ := hI
  refine AWP.seq ?_
  refine AWP.region (fun _ => ?_)
  refine ARun.cmp rfl rfl rfl rfl (Ev.plain rfl) (Ev.plain rfl) rfl optN ?_
  refine ⟨_, _, rfl, hG, ?_⟩
  refine thenA_n ?_
  refine AWP.seq ?_
  refine AWP.cond rfl (fun h0 => ?_) (fun h0 => ?_)
  · skip
    try simp [-List.getD_eq_getElem?_getD] at h0
    refine AWP.skip ?_
    refine thenA_n ?_
    refine AWP.seq ?_
    refine AWP.block ?_
    refine AWP.seq ?_
    refine AWP.region (fun _ => ?_)
    first | refine ARun.indexSl rfl rfl rfl rfl Tryz.underlying23 sz108 (Ev.plain rfl) (Ev.plain rfl) (fun _ => rfl) (fun hg => getMap _ _ _ (by (try simp at hg); omega)) rfl rfl optN ?_ | refine ARun.indexSl rfl rfl rfl rfl Tryz.underlying23 sz108 (Ev.plain rfl) (Ev.plain rfl) (fun hg => ofNonneg (by (try simp at hg); omega)) (fun hg => getMap _ _ _ (by (try simp at hg); omega)) rfl rfl optN ?_
    refine ARun.loadPeA rfl rfl rfl rfl Tryz.underlying108 rfl sz108 (Ev.plain rfl) rfl optN ?_
    refine ARun.alloc (j := 0) hG rfl rfl rfl rfl rfl zv108 rfl optN ?_
    refine ARun.storeL hG rfl rfl rfl sz108 (Ev.plain rfl) (Ev.plain rfl) rfl rfl rfl rfl rfl (Nat.le_of_ble_eq_true rfl) rfl rfl ?_
    refine ⟨_, _, rfl, hG, ?_⟩
    refine thenA_n ?_
    refine AWP.seq ?_
    refine AWP.seq ?_
    refine AWP.region (fun _ => ?_)
    refine ARun.fieldBox (fo := 0) rfl rfl rfl rfl Tryz.underlying108 rfl rfl sz3 (by decide) (Ev.plain rfl) ((hG.at _ _).trans rfl) optN ?_
    refine ARun.loadBox rfl rfl rfl rfl Tryz.underlying3 rfl (Ev.plain rfl) ((hG.at _ _).trans rfl) rfl optN ?_
    refine ARun.call rfl rfl rfl rfl cf66 (Ev.plain rfl) (.cons (Ev.plain rfl) .nil) rfl (fun hg => number_fn (l.getD k default).item) optN ?_
    refine ARun.not rfl rfl rfl rfl (Ev.plain rfl) optN ?_
    refine ARun.move (.inl rfl) rfl rfl rfl (Ev.plain rfl) optN ?_
    refine ARun.fieldBox (fo := 0) rfl rfl rfl rfl Tryz.underlying108 rfl rfl sz3 (by decide) (Ev.plain rfl) ((hG.at _ _).trans rfl) optS ?_
    refine ARun.loadBox rfl rfl rfl rfl Tryz.underlying3 rfl (Ev.opt rfl (fun h => h)) ((hG.at _ _).trans rfl) rfl optS ?_
    refine ARun.move (.inl rfl) rfl rfl rfl (Ev.plain rfl) optS ?_
    refine ARun.cmp rfl rfl rfl rfl (Ev.opt rfl (fun h => h)) (Ev.opt rfl (fun h => h)) rfl optS ?_
    refine ARun.pick rfl rfl rfl rfl (Ev.plain rfl) (Ev.plain rfl) (Ev.opt rfl (by first | exact pkF | exact pkF2 | simp +contextual)) (orB _ _) optN ?_
    refine ARun.move (.inl rfl) rfl rfl rfl (Ev.plain rfl) optN ?_
    refine ARun.fieldBox (fo := 1) rfl rfl rfl rfl Tryz.underlying108 rfl rfl sz3 (by decide) (Ev.plain rfl) ((hG.at _ _).trans rfl) optS ?_
    refine ARun.loadBox rfl rfl rfl rfl Tryz.underlying3 rfl (Ev.opt rfl (fun h => h)) ((hG.at _ _).trans rfl) rfl optS ?_
    refine ARun.call rfl rfl rfl rfl cf102 (Ev.plain rfl) (.cons (Ev.opt rfl (fun h => h)) .nil) rfl (fun hg => some_fn (l.getD k default).qty) optS ?_
    refine ARun.not rfl rfl rfl rfl (Ev.opt rfl (fun h => h)) optS ?_
    refine ARun.pick rfl rfl rfl rfl (Ev.plain rfl) (Ev.plain rfl) (Ev.opt rfl (by first | exact pkF | exact pkF2 | simp +contextual)) (orB _ _) optN ?_
    refine ⟨_, _, rfl, hG, ?_⟩
    refine thenA_n ?_
    refine AWP.cond rfl (fun h1 => ?_) (fun h1 => ?_)
    · skip
      rw [show (!numbP (l.getD k default).item || decide ((l.getD k default).item ≤ lastAt l k) || !someP (l.getD k default).qty) = !okAt l k from okAt_not l k] at h1
      simp only [Bool.not_eq_true'] at h1
      refine AWP.seq ?_
      refine AWP.region (fun _ => ?_)
      refine ARun.move (.inr rfl) rfl rfl rfl (Ev.plain rfl) optN ?_
      refine ⟨_, _, rfl, hG, ?_⟩
      refine thenA_n ?_
      refine AWP.ret ?_
      refine thenA_r ?_
      refine blockA_r ?_
      refine thenA_r ?_
      refine thenA_r ?_
      refine blockA_r ?_
      refine thenA_r ?_
      refine endF.one (.inr rfl) rfl (.tmp rfl) ?_ hN
      rw [linesP_no (by omega) h1]; rfl
    · skip
      rw [show (!numbP (l.getD k default).item || decide ((l.getD k default).item ≤ lastAt l k) || !someP (l.getD k default).qty) = !okAt l k from okAt_not l k] at h1
      simp only [Bool.not_eq_false'] at h1
      refine AWP.skip ?_
      refine thenA_n ?_
      refine AWP.region (fun _ => ?_)
      refine ARun.fieldBox (fo := 0) rfl rfl rfl rfl Tryz.underlying108 rfl rfl sz3 (by decide) (Ev.plain rfl) ((hG.at _ _).trans rfl) optN ?_
      refine ARun.loadBox rfl rfl rfl rfl Tryz.underlying3 rfl (Ev.plain rfl) ((hG.at _ _).trans rfl) rfl optN ?_
      refine ARun.move (.inr rfl) rfl rfl rfl (Ev.plain rfl) optN ?_
      refine ⟨_, _, rfl, hG, ?_⟩
      refine blockA_n ?_
      refine thenA_n ?_
      refine AWP.region (fun _ => ?_)
      first | refine ARun.arith rfl rfl rfl rfl (Ev.plain rfl) (Ev.plain rfl) rfl (fun hg => i64w (by (try simp at hg); omega)) optN ?_ | refine ARun.arith rfl rfl rfl rfl (Ev.plain rfl) (Ev.plain rfl) rfl (fun _ => rfl) optN ?_
      refine ARun.move (.inl rfl) rfl rfl rfl (Ev.plain rfl) optN ?_
      refine ⟨_, _, rfl, hG, ?_⟩
      refine thenA_n ⟨rfl, k + 1, _, ?_, ?_, rfl, ?_⟩
      · refine ⟨by omega, fun j hj => ?_⟩
        by_cases e : j = k
        · subst e; exact h1
        · exact hno j (by omega)
      · rw [last_succ]
        repeat (first | exact .nil | refine .cons rfl ?_)
      · omega
  · skip
    try simp [-List.getD_eq_getElem?_getD] at h0
    refine AWP.exit ?_
    refine thenA_x ?_
    refine thenA_x ?_
    refine blockA_h ?_
    refine thenA_n ?_
    refine AWP.seq ?_
    refine AWP.region (fun _ => ?_)
    refine ARun.move (.inl rfl) rfl rfl rfl (Ev.plain rfl) optN ?_
    refine ARun.lenSl rfl rfl rfl rfl Tryz.underlying23 (Ev.plain rfl) optN ?_
    refine ARun.cmp rfl rfl rfl rfl (Ev.plain rfl) (Ev.plain rfl) rfl optN ?_
    refine ARun.move (.inl rfl) rfl rfl rfl (Ev.plain rfl) optN ?_
    refine ARun.move (.inl rfl) rfl rfl rfl (Ev.plain rfl) optS ?_
    refine ARun.lenSl rfl rfl rfl rfl Tryz.underlying23 (Ev.opt rfl (fun h => h)) optS ?_
    refine ARun.cmp rfl rfl rfl rfl (Ev.opt rfl (fun h => h)) (Ev.plain rfl) rfl optS ?_
    refine ARun.pick rfl rfl rfl rfl (Ev.plain rfl) (Ev.opt rfl (by first | exact pkT | exact pkT2 | simp +contextual)) (Ev.plain rfl) (andB _ _) optN ?_
    refine ARun.move (.inr rfl) rfl rfl rfl (Ev.plain rfl) optN ?_
    refine ⟨_, _, rfl, hG, ?_⟩
    refine thenA_n ?_
    refine AWP.ret ?_
    refine endF.one (.inr rfl) rfl (.tmp rfl) ?_ hN
    rw [linesP_yes (fun j hj => hno j (by omega))]; first | (simp; done) | (simp; congr 1; exact decide_eq_decide.2 (by omega))
set_option maxHeartbeats 1000000 in
theorem bare_fn (c : Cl) : FnP Tryz.prog 101 [aCl c] (.bool (bareP c)) := by
  refine FnP.of Tryz.func101 rfl rfl (by simp) (by simp [AV.cells, aIn, aOut, aLn, aCl, aRp]) (fun G hG => ?_)
  have hN : NoH G.length (.bool (bareP c)) := (by simp [AV.cells, aIn, aOut, aLn, aCl, aRp])
  refine AWP.seq ?_
  refine AWP.region (fun _ => ?_)
  refine ARun.boxPe rfl rfl rfl rfl (Ev.plain rfl) rfl rfl optN ?_
  refine ARun.move (.inr rfl) rfl rfl rfl (Ev.plain rfl) optN ?_
  refine ⟨_, _, rfl, hG, ?_⟩
  refine thenA_n ?_
  refine AWP.seq ?_
  refine AWP.region (fun _ => ?_)
  refine ARun.fieldPe rfl rfl rfl rfl Tryz.underlying25 rfl rfl sz3 (by decide) (Ev.plain rfl) rfl optN ?_
  refine ARun.loadPe rfl rfl rfl rfl Tryz.underlying3 rfl (Ev.plain rfl) rfl optN ?_
  refine ARun.cmp rfl rfl rfl rfl (Ev.plain rfl) (Ev.plain rfl) rfl optN ?_
  refine ARun.move (.inl rfl) rfl rfl rfl (Ev.plain rfl) optN ?_
  refine ARun.fieldPe rfl rfl rfl rfl Tryz.underlying25 rfl rfl sz23 (by decide) (Ev.plain rfl) rfl optS ?_
  refine ARun.loadPe rfl rfl rfl rfl Tryz.underlying23 rfl (Ev.opt rfl (fun h => h)) rfl optS ?_
  refine ARun.lenSl rfl rfl rfl rfl Tryz.underlying23 (Ev.opt rfl (fun h => h)) optS ?_
  refine ARun.cmp rfl rfl rfl rfl (Ev.opt rfl (fun h => h)) (Ev.plain rfl) rfl optS ?_
  refine ARun.pick rfl rfl rfl rfl (Ev.plain rfl) (Ev.opt rfl (by first | exact pkT | exact pkT2 | simp +contextual)) (Ev.plain rfl) (andB _ _) optN ?_
  refine ARun.move (.inl rfl) rfl rfl rfl (Ev.plain rfl) optN ?_
  refine ARun.fieldPe rfl rfl rfl rfl Tryz.underlying25 rfl rfl sz3 (by decide) (Ev.plain rfl) rfl optS ?_
  refine ARun.loadPe rfl rfl rfl rfl Tryz.underlying3 rfl (Ev.opt rfl (fun h => h)) rfl optS ?_
  refine ARun.call rfl rfl rfl rfl cf66 (Ev.plain rfl) (.cons (Ev.opt rfl (fun h => h)) .nil) rfl (fun hg => number_fn c.item) optS ?_
  refine ARun.pick rfl rfl rfl rfl (Ev.plain rfl) (Ev.opt rfl (by first | exact pkT | exact pkT2 | simp +contextual)) (Ev.plain rfl) (andB _ _) optN ?_
  refine ARun.move (.inr rfl) rfl rfl rfl (Ev.plain rfl) optN ?_
  refine ⟨_, _, rfl, hG, ?_⟩
  refine thenA_n ?_
  refine AWP.ret ?_
  refine endF.one (.inr rfl) rfl (.tmp rfl) ?_ hN
  simp [bareP]
set_option maxHeartbeats 1000000 in
theorem may_fn (c : Cl) (hl : c.lines.length ≤ 100000) : FnP Tryz.prog 67 [aCl c] (.bool (mayP c)) := by
  refine FnP.of Tryz.func67 rfl rfl (by simp) (by simp [AV.cells, aIn, aOut, aLn, aCl, aRp]) (fun G hG => ?_)
  have hN : NoH G.length (.bool (mayP c)) := (by simp [AV.cells, aIn, aOut, aLn, aCl, aRp])
  refine AWP.seq ?_
  refine AWP.region (fun _ => ?_)
  refine ARun.boxPe rfl rfl rfl rfl (Ev.plain rfl) rfl rfl optN ?_
  refine ARun.move (.inr rfl) rfl rfl rfl (Ev.plain rfl) optN ?_
  refine ⟨_, _, rfl, hG, ?_⟩
  refine thenA_n ?_
  refine AWP.seq ?_
  refine AWP.seq ?_
  refine AWP.region (fun _ => ?_)
  refine ARun.fieldPe rfl rfl rfl rfl Tryz.underlying25 rfl rfl sz3 (by decide) (Ev.plain rfl) rfl optN ?_
  refine ARun.loadPe rfl rfl rfl rfl Tryz.underlying3 rfl (Ev.plain rfl) rfl optN ?_
  refine ⟨_, _, rfl, hG, ?_⟩
  refine thenA_n ?_
  refine AWP.block ?_
  refine AWP.seq ?_
  refine AWP.region (fun _ => ?_)
  refine ARun.cmp rfl rfl rfl rfl (Ev.plain rfl) (Ev.plain rfl) rfl optN ?_
  refine ARun.move (.inr rfl) rfl rfl rfl (Ev.plain rfl) optN ?_
  refine ⟨_, _, rfl, hG, ?_⟩
  refine thenA_n ?_
  refine AWP.cond rfl (fun h0 => ?_) (fun h0 => ?_)
  · skip
    simp at h0
    refine AWP.seq ?_
    refine AWP.region (fun _ => ?_)
    refine ARun.loadPeA rfl rfl rfl rfl Tryz.underlying25 rfl sz25 (Ev.plain rfl) rfl optN ?_
    refine ARun.call rfl rfl rfl rfl cf101 (Ev.plain rfl) (.cons (Ev.plain rfl) .nil) rfl (fun hg => bare_fn c) optN ?_
    refine ARun.move (.inl rfl) rfl rfl rfl (Ev.plain rfl) optN ?_
    refine ARun.fieldPe rfl rfl rfl rfl Tryz.underlying25 rfl rfl sz3 (by decide) (Ev.plain rfl) rfl optS ?_
    refine ARun.loadPe rfl rfl rfl rfl Tryz.underlying3 rfl (Ev.opt rfl (fun h => h)) rfl optS ?_
    refine ARun.cmp rfl rfl rfl rfl (Ev.opt rfl (fun h => h)) (Ev.plain rfl) rfl optS ?_
    refine ARun.move (.inl rfl) rfl rfl rfl (Ev.opt rfl (fun h => h)) optS ?_
    refine ARun.fieldPe rfl rfl rfl rfl Tryz.underlying25 rfl rfl sz3 (by decide) (Ev.plain rfl) rfl optS ?_
    refine ARun.loadPe rfl rfl rfl rfl Tryz.underlying3 rfl (Ev.opt rfl (fun h => h)) rfl optS ?_
    refine ARun.call rfl rfl rfl rfl cf102 (Ev.plain rfl) (.cons (Ev.opt rfl (fun h => h)) .nil) rfl (fun hg => some_fn c.qty) optS ?_
    refine ARun.pick rfl rfl rfl rfl (Ev.opt rfl (fun h => h)) (Ev.plain rfl) (Ev.opt rfl (by first | exact pkF | exact pkF2 | simp +contextual)) (orB _ _) optS ?_
    refine ARun.pick rfl rfl rfl rfl (Ev.plain rfl) (Ev.opt rfl (by first | exact pkT | exact pkT2 | simp +contextual)) (Ev.plain rfl) (andB _ _) optN ?_
    refine ARun.move (.inr rfl) rfl rfl rfl (Ev.plain rfl) optN ?_
    refine ⟨_, _, rfl, hG, ?_⟩
    refine thenA_n ?_
    refine AWP.ret ?_
    refine blockA_r ?_
    refine thenA_r ?_
    refine endF.one (.inr rfl) rfl (.tmp rfl) ?_ hN
    (unfold mayP; simp_all)
  · skip
    simp at h0
    refine AWP.seq ?_
    refine AWP.seq ?_
    refine AWP.region (fun _ => ?_)
    refine ARun.cmp rfl rfl rfl rfl (Ev.plain rfl) (Ev.plain rfl) rfl optN ?_
    refine ARun.move (.inr rfl) rfl rfl rfl (Ev.plain rfl) optN ?_
    refine ⟨_, _, rfl, hG, ?_⟩
    refine thenA_n ?_
    refine AWP.cond rfl (fun h1 => ?_) (fun h1 => ?_)
    · skip
      simp at h1
      refine AWP.skip ?_
      refine thenA_n ?_
      refine AWP.cond rfl (fun h2 => ?_) (fun h2 => ?_)
      · skip
        simp at h2
        refine AWP.seq ?_
        refine AWP.region (fun _ => ?_)
        refine ARun.loadPeA rfl rfl rfl rfl Tryz.underlying25 rfl sz25 (Ev.plain rfl) rfl optN ?_
        refine ARun.call rfl rfl rfl rfl cf101 (Ev.plain rfl) (.cons (Ev.plain rfl) .nil) rfl (fun hg => bare_fn c) optN ?_
        refine ARun.move (.inl rfl) rfl rfl rfl (Ev.plain rfl) optN ?_
        refine ARun.fieldPe rfl rfl rfl rfl Tryz.underlying25 rfl rfl sz3 (by decide) (Ev.plain rfl) rfl optS ?_
        refine ARun.loadPe rfl rfl rfl rfl Tryz.underlying3 rfl (Ev.opt rfl (fun h => h)) rfl optS ?_
        refine ARun.call rfl rfl rfl rfl cf102 (Ev.plain rfl) (.cons (Ev.opt rfl (fun h => h)) .nil) rfl (fun hg => some_fn c.qty) optS ?_
        refine ARun.pick rfl rfl rfl rfl (Ev.plain rfl) (Ev.opt rfl (by first | exact pkT | exact pkT2 | simp +contextual)) (Ev.plain rfl) (andB _ _) optN ?_
        refine ARun.move (.inr rfl) rfl rfl rfl (Ev.plain rfl) optN ?_
        refine ⟨_, _, rfl, hG, ?_⟩
        refine thenA_n ?_
        refine AWP.ret ?_
        refine blockA_r ?_
        refine thenA_r ?_
        refine endF.one (.inr rfl) rfl (.tmp rfl) ?_ hN
        (unfold mayP; simp_all)
      · skip
        simp at h2
        refine AWP.seq ?_
        refine AWP.region (fun _ => ?_)
        refine ARun.cmp rfl rfl rfl rfl (Ev.plain rfl) (Ev.plain rfl) rfl optN ?_
        refine ARun.move (.inr rfl) rfl rfl rfl (Ev.plain rfl) optN ?_
        refine ⟨_, _, rfl, hG, ?_⟩
        refine thenA_n ?_
        refine AWP.cond rfl (fun h3 => ?_) (fun h3 => ?_)
        · skip
          simp at h3
          refine AWP.seq ?_
          refine AWP.region (fun _ => ?_)
          refine ARun.fieldPe rfl rfl rfl rfl Tryz.underlying25 rfl rfl sz3 (by decide) (Ev.plain rfl) rfl optN ?_
          refine ARun.loadPe rfl rfl rfl rfl Tryz.underlying3 rfl (Ev.plain rfl) rfl optN ?_
          refine ARun.call rfl rfl rfl rfl cf66 (Ev.plain rfl) (.cons (Ev.plain rfl) .nil) rfl (fun hg => number_fn c.item) optN ?_
          refine ARun.move (.inl rfl) rfl rfl rfl (Ev.plain rfl) optN ?_
          refine ARun.fieldPe rfl rfl rfl rfl Tryz.underlying25 rfl rfl sz3 (by decide) (Ev.plain rfl) rfl optS ?_
          refine ARun.loadPe rfl rfl rfl rfl Tryz.underlying3 rfl (Ev.opt rfl (fun h => h)) rfl optS ?_
          refine ARun.call rfl rfl rfl rfl cf66 (Ev.plain rfl) (.cons (Ev.opt rfl (fun h => h)) .nil) rfl (fun hg => number_fn c.to_) optS ?_
          refine ARun.pick rfl rfl rfl rfl (Ev.plain rfl) (Ev.opt rfl (by first | exact pkT | exact pkT2 | simp +contextual)) (Ev.plain rfl) (andB _ _) optN ?_
          refine ARun.move (.inl rfl) rfl rfl rfl (Ev.plain rfl) optN ?_
          refine ARun.fieldPe rfl rfl rfl rfl Tryz.underlying25 rfl rfl sz3 (by decide) (Ev.plain rfl) rfl optS ?_
          refine ARun.loadPe rfl rfl rfl rfl Tryz.underlying3 rfl (Ev.opt rfl (fun h => h)) rfl optS ?_
          refine ARun.fieldPe rfl rfl rfl rfl Tryz.underlying25 rfl rfl sz3 (by decide) (Ev.plain rfl) rfl optS ?_
          refine ARun.loadPe rfl rfl rfl rfl Tryz.underlying3 rfl (Ev.opt rfl (fun h => h)) rfl optS ?_
          refine ARun.cmp rfl rfl rfl rfl (Ev.opt rfl (fun h => h)) (Ev.opt rfl (fun h => h)) rfl optS ?_
          refine ARun.pick rfl rfl rfl rfl (Ev.plain rfl) (Ev.opt rfl (by first | exact pkT | exact pkT2 | simp +contextual)) (Ev.plain rfl) (andB _ _) optN ?_
          refine ARun.move (.inl rfl) rfl rfl rfl (Ev.plain rfl) optN ?_
          refine ARun.fieldPe rfl rfl rfl rfl Tryz.underlying25 rfl rfl sz3 (by decide) (Ev.plain rfl) rfl optS ?_
          refine ARun.loadPe rfl rfl rfl rfl Tryz.underlying3 rfl (Ev.opt rfl (fun h => h)) rfl optS ?_
          refine ARun.call rfl rfl rfl rfl cf102 (Ev.plain rfl) (.cons (Ev.opt rfl (fun h => h)) .nil) rfl (fun hg => some_fn c.qty) optS ?_
          refine ARun.pick rfl rfl rfl rfl (Ev.plain rfl) (Ev.opt rfl (by first | exact pkT | exact pkT2 | simp +contextual)) (Ev.plain rfl) (andB _ _) optN ?_
          refine ARun.move (.inl rfl) rfl rfl rfl (Ev.plain rfl) optN ?_
          refine ARun.fieldPe rfl rfl rfl rfl Tryz.underlying25 rfl rfl sz23 (by decide) (Ev.plain rfl) rfl optS ?_
          refine ARun.loadPe rfl rfl rfl rfl Tryz.underlying23 rfl (Ev.opt rfl (fun h => h)) rfl optS ?_
          refine ARun.lenSl rfl rfl rfl rfl Tryz.underlying23 (Ev.opt rfl (fun h => h)) optS ?_
          refine ARun.cmp rfl rfl rfl rfl (Ev.opt rfl (fun h => h)) (Ev.plain rfl) rfl optS ?_
          refine ARun.pick rfl rfl rfl rfl (Ev.plain rfl) (Ev.opt rfl (by first | exact pkT | exact pkT2 | simp +contextual)) (Ev.plain rfl) (andB _ _) optN ?_
          refine ARun.move (.inr rfl) rfl rfl rfl (Ev.plain rfl) optN ?_
          refine ⟨_, _, rfl, hG, ?_⟩
          refine thenA_n ?_
          refine AWP.ret ?_
          refine blockA_r ?_
          refine thenA_r ?_
          refine endF.one (.inr rfl) rfl (.tmp rfl) ?_ hN
          (unfold mayP; simp_all)
        · skip
          simp at h3
          refine AWP.seq ?_
          refine AWP.region (fun _ => ?_)
          refine ARun.cmp rfl rfl rfl rfl (Ev.plain rfl) (Ev.plain rfl) rfl optN ?_
          refine ARun.move (.inr rfl) rfl rfl rfl (Ev.plain rfl) optN ?_
          refine ⟨_, _, rfl, hG, ?_⟩
          refine thenA_n ?_
          refine AWP.cond rfl (fun h4 => ?_) (fun h4 => ?_)
          · skip
            simp at h4
            refine AWP.seq ?_
            refine AWP.region (fun _ => ?_)
            refine ARun.loadPeA rfl rfl rfl rfl Tryz.underlying25 rfl sz25 (Ev.plain rfl) rfl optN ?_
            refine ARun.call rfl rfl rfl rfl cf101 (Ev.plain rfl) (.cons (Ev.plain rfl) .nil) rfl (fun hg => bare_fn c) optN ?_
            refine ARun.move (.inl rfl) rfl rfl rfl (Ev.plain rfl) optN ?_
            refine ARun.fieldPe rfl rfl rfl rfl Tryz.underlying25 rfl rfl sz3 (by decide) (Ev.plain rfl) rfl optS ?_
            refine ARun.loadPe rfl rfl rfl rfl Tryz.underlying3 rfl (Ev.opt rfl (fun h => h)) rfl optS ?_
            refine ARun.cmp rfl rfl rfl rfl (Ev.opt rfl (fun h => h)) (Ev.plain rfl) rfl optS ?_
            refine ARun.pick rfl rfl rfl rfl (Ev.plain rfl) (Ev.opt rfl (by first | exact pkT | exact pkT2 | simp +contextual)) (Ev.plain rfl) (andB _ _) optN ?_
            refine ARun.move (.inr rfl) rfl rfl rfl (Ev.plain rfl) optN ?_
            refine ⟨_, _, rfl, hG, ?_⟩
            refine thenA_n ?_
            refine AWP.ret ?_
            refine blockA_r ?_
            refine thenA_r ?_
            refine endF.one (.inr rfl) rfl (.tmp rfl) ?_ hN
            (unfold mayP; simp_all)
          · skip
            simp at h4
            refine AWP.skip ?_
            refine blockA_n ?_
            refine thenA_n ?_
            refine AWP.seq ?_
            refine AWP.region (fun _ => ?_)
            refine ARun.fieldPe rfl rfl rfl rfl Tryz.underlying25 rfl rfl sz3 (by decide) (Ev.plain rfl) rfl optN ?_
            refine ARun.loadPe rfl rfl rfl rfl Tryz.underlying3 rfl (Ev.plain rfl) rfl optN ?_
            refine ARun.cmp rfl rfl rfl rfl (Ev.plain rfl) (Ev.plain rfl) rfl optN ?_
            refine ARun.move (.inl rfl) rfl rfl rfl (Ev.plain rfl) optN ?_
            refine ARun.fieldPe rfl rfl rfl rfl Tryz.underlying25 rfl rfl sz3 (by decide) (Ev.plain rfl) rfl optS ?_
            refine ARun.loadPe rfl rfl rfl rfl Tryz.underlying3 rfl (Ev.opt rfl (fun h => h)) rfl optS ?_
            refine ARun.cmp rfl rfl rfl rfl (Ev.opt rfl (fun h => h)) (Ev.plain rfl) rfl optS ?_
            refine ARun.pick rfl rfl rfl rfl (Ev.plain rfl) (Ev.opt rfl (by first | exact pkT | exact pkT2 | simp +contextual)) (Ev.plain rfl) (andB _ _) optN ?_
            refine ARun.move (.inl rfl) rfl rfl rfl (Ev.plain rfl) optN ?_
            refine ARun.fieldPe rfl rfl rfl rfl Tryz.underlying25 rfl rfl sz3 (by decide) (Ev.plain rfl) rfl optS ?_
            refine ARun.loadPe rfl rfl rfl rfl Tryz.underlying3 rfl (Ev.opt rfl (fun h => h)) rfl optS ?_
            refine ARun.cmp rfl rfl rfl rfl (Ev.opt rfl (fun h => h)) (Ev.plain rfl) rfl optS ?_
            refine ARun.pick rfl rfl rfl rfl (Ev.plain rfl) (Ev.opt rfl (by first | exact pkT | exact pkT2 | simp +contextual)) (Ev.plain rfl) (andB _ _) optN ?_
            refine ARun.move (.inl rfl) rfl rfl rfl (Ev.plain rfl) optN ?_
            refine ARun.fieldPe rfl rfl rfl rfl Tryz.underlying25 rfl rfl sz23 (by decide) (Ev.plain rfl) rfl optS ?_
            refine ARun.loadPe rfl rfl rfl rfl Tryz.underlying23 rfl (Ev.opt rfl (fun h => h)) rfl optS ?_
            refine ARun.call rfl rfl rfl rfl cf103 (Ev.plain rfl) (.cons (Ev.opt rfl (fun h => h)) .nil) rfl (fun hg => lines_fn c.lines hl) optS ?_
            refine ARun.pick rfl rfl rfl rfl (Ev.plain rfl) (Ev.opt rfl (by first | exact pkT | exact pkT2 | simp +contextual)) (Ev.plain rfl) (andB _ _) optN ?_
            refine ARun.move (.inr rfl) rfl rfl rfl (Ev.plain rfl) optN ?_
            refine ⟨_, _, rfl, hG, ?_⟩
            refine thenA_n ?_
            refine AWP.ret ?_
            refine endF.one (.inr rfl) rfl (.tmp rfl) ?_ hN
            (unfold mayP; simp_all)
    · skip
      simp at h1
      refine AWP.seq ?_
      refine AWP.region (fun _ => ?_)
      refine ARun.cmp rfl rfl rfl rfl (Ev.plain rfl) (Ev.plain rfl) rfl optN ?_
      refine ARun.move (.inr rfl) rfl rfl rfl (Ev.plain rfl) optN ?_
      refine ⟨_, _, rfl, hG, ?_⟩
      refine thenA_n ?_
      refine AWP.cond rfl (fun h5 => ?_) (fun h5 => ?_)
      · skip
        simp at h5
        refine AWP.skip ?_
        refine thenA_n ?_
        refine AWP.cond rfl (fun h6 => ?_) (fun h6 => ?_)
        · skip
          simp at h6
          refine AWP.seq ?_
          refine AWP.region (fun _ => ?_)
          refine ARun.loadPeA rfl rfl rfl rfl Tryz.underlying25 rfl sz25 (Ev.plain rfl) rfl optN ?_
          refine ARun.call rfl rfl rfl rfl cf101 (Ev.plain rfl) (.cons (Ev.plain rfl) .nil) rfl (fun hg => bare_fn c) optN ?_
          refine ARun.move (.inl rfl) rfl rfl rfl (Ev.plain rfl) optN ?_
          refine ARun.fieldPe rfl rfl rfl rfl Tryz.underlying25 rfl rfl sz3 (by decide) (Ev.plain rfl) rfl optS ?_
          refine ARun.loadPe rfl rfl rfl rfl Tryz.underlying3 rfl (Ev.opt rfl (fun h => h)) rfl optS ?_
          refine ARun.call rfl rfl rfl rfl cf102 (Ev.plain rfl) (.cons (Ev.opt rfl (fun h => h)) .nil) rfl (fun hg => some_fn c.qty) optS ?_
          refine ARun.pick rfl rfl rfl rfl (Ev.plain rfl) (Ev.opt rfl (by first | exact pkT | exact pkT2 | simp +contextual)) (Ev.plain rfl) (andB _ _) optN ?_
          refine ARun.move (.inr rfl) rfl rfl rfl (Ev.plain rfl) optN ?_
          refine ⟨_, _, rfl, hG, ?_⟩
          refine thenA_n ?_
          refine AWP.ret ?_
          refine blockA_r ?_
          refine thenA_r ?_
          refine endF.one (.inr rfl) rfl (.tmp rfl) ?_ hN
          (unfold mayP; simp_all)
        · skip
          simp at h6
          refine AWP.seq ?_
          refine AWP.region (fun _ => ?_)
          refine ARun.cmp rfl rfl rfl rfl (Ev.plain rfl) (Ev.plain rfl) rfl optN ?_
          refine ARun.move (.inr rfl) rfl rfl rfl (Ev.plain rfl) optN ?_
          refine ⟨_, _, rfl, hG, ?_⟩
          refine thenA_n ?_
          refine AWP.cond rfl (fun h7 => ?_) (fun h7 => ?_)
          · skip
            simp at h7
            refine AWP.seq ?_
            refine AWP.region (fun _ => ?_)
            refine ARun.fieldPe rfl rfl rfl rfl Tryz.underlying25 rfl rfl sz3 (by decide) (Ev.plain rfl) rfl optN ?_
            refine ARun.loadPe rfl rfl rfl rfl Tryz.underlying3 rfl (Ev.plain rfl) rfl optN ?_
            refine ARun.call rfl rfl rfl rfl cf66 (Ev.plain rfl) (.cons (Ev.plain rfl) .nil) rfl (fun hg => number_fn c.item) optN ?_
            refine ARun.move (.inl rfl) rfl rfl rfl (Ev.plain rfl) optN ?_
            refine ARun.fieldPe rfl rfl rfl rfl Tryz.underlying25 rfl rfl sz3 (by decide) (Ev.plain rfl) rfl optS ?_
            refine ARun.loadPe rfl rfl rfl rfl Tryz.underlying3 rfl (Ev.opt rfl (fun h => h)) rfl optS ?_
            refine ARun.call rfl rfl rfl rfl cf66 (Ev.plain rfl) (.cons (Ev.opt rfl (fun h => h)) .nil) rfl (fun hg => number_fn c.to_) optS ?_
            refine ARun.pick rfl rfl rfl rfl (Ev.plain rfl) (Ev.opt rfl (by first | exact pkT | exact pkT2 | simp +contextual)) (Ev.plain rfl) (andB _ _) optN ?_
            refine ARun.move (.inl rfl) rfl rfl rfl (Ev.plain rfl) optN ?_
            refine ARun.fieldPe rfl rfl rfl rfl Tryz.underlying25 rfl rfl sz3 (by decide) (Ev.plain rfl) rfl optS ?_
            refine ARun.loadPe rfl rfl rfl rfl Tryz.underlying3 rfl (Ev.opt rfl (fun h => h)) rfl optS ?_
            refine ARun.fieldPe rfl rfl rfl rfl Tryz.underlying25 rfl rfl sz3 (by decide) (Ev.plain rfl) rfl optS ?_
            refine ARun.loadPe rfl rfl rfl rfl Tryz.underlying3 rfl (Ev.opt rfl (fun h => h)) rfl optS ?_
            refine ARun.cmp rfl rfl rfl rfl (Ev.opt rfl (fun h => h)) (Ev.opt rfl (fun h => h)) rfl optS ?_
            refine ARun.pick rfl rfl rfl rfl (Ev.plain rfl) (Ev.opt rfl (by first | exact pkT | exact pkT2 | simp +contextual)) (Ev.plain rfl) (andB _ _) optN ?_
            refine ARun.move (.inl rfl) rfl rfl rfl (Ev.plain rfl) optN ?_
            refine ARun.fieldPe rfl rfl rfl rfl Tryz.underlying25 rfl rfl sz3 (by decide) (Ev.plain rfl) rfl optS ?_
            refine ARun.loadPe rfl rfl rfl rfl Tryz.underlying3 rfl (Ev.opt rfl (fun h => h)) rfl optS ?_
            refine ARun.call rfl rfl rfl rfl cf102 (Ev.plain rfl) (.cons (Ev.opt rfl (fun h => h)) .nil) rfl (fun hg => some_fn c.qty) optS ?_
            refine ARun.pick rfl rfl rfl rfl (Ev.plain rfl) (Ev.opt rfl (by first | exact pkT | exact pkT2 | simp +contextual)) (Ev.plain rfl) (andB _ _) optN ?_
            refine ARun.move (.inl rfl) rfl rfl rfl (Ev.plain rfl) optN ?_
            refine ARun.fieldPe rfl rfl rfl rfl Tryz.underlying25 rfl rfl sz23 (by decide) (Ev.plain rfl) rfl optS ?_
            refine ARun.loadPe rfl rfl rfl rfl Tryz.underlying23 rfl (Ev.opt rfl (fun h => h)) rfl optS ?_
            refine ARun.lenSl rfl rfl rfl rfl Tryz.underlying23 (Ev.opt rfl (fun h => h)) optS ?_
            refine ARun.cmp rfl rfl rfl rfl (Ev.opt rfl (fun h => h)) (Ev.plain rfl) rfl optS ?_
            refine ARun.pick rfl rfl rfl rfl (Ev.plain rfl) (Ev.opt rfl (by first | exact pkT | exact pkT2 | simp +contextual)) (Ev.plain rfl) (andB _ _) optN ?_
            refine ARun.move (.inr rfl) rfl rfl rfl (Ev.plain rfl) optN ?_
            refine ⟨_, _, rfl, hG, ?_⟩
            refine thenA_n ?_
            refine AWP.ret ?_
            refine blockA_r ?_
            refine thenA_r ?_
            refine endF.one (.inr rfl) rfl (.tmp rfl) ?_ hN
            (unfold mayP; simp_all)
          · skip
            simp at h7
            refine AWP.seq ?_
            refine AWP.region (fun _ => ?_)
            refine ARun.cmp rfl rfl rfl rfl (Ev.plain rfl) (Ev.plain rfl) rfl optN ?_
            refine ARun.move (.inr rfl) rfl rfl rfl (Ev.plain rfl) optN ?_
            refine ⟨_, _, rfl, hG, ?_⟩
            refine thenA_n ?_
            refine AWP.cond rfl (fun h8 => ?_) (fun h8 => ?_)
            · skip
              simp at h8
              refine AWP.seq ?_
              refine AWP.region (fun _ => ?_)
              refine ARun.loadPeA rfl rfl rfl rfl Tryz.underlying25 rfl sz25 (Ev.plain rfl) rfl optN ?_
              refine ARun.call rfl rfl rfl rfl cf101 (Ev.plain rfl) (.cons (Ev.plain rfl) .nil) rfl (fun hg => bare_fn c) optN ?_
              refine ARun.move (.inl rfl) rfl rfl rfl (Ev.plain rfl) optN ?_
              refine ARun.fieldPe rfl rfl rfl rfl Tryz.underlying25 rfl rfl sz3 (by decide) (Ev.plain rfl) rfl optS ?_
              refine ARun.loadPe rfl rfl rfl rfl Tryz.underlying3 rfl (Ev.opt rfl (fun h => h)) rfl optS ?_
              refine ARun.cmp rfl rfl rfl rfl (Ev.opt rfl (fun h => h)) (Ev.plain rfl) rfl optS ?_
              refine ARun.pick rfl rfl rfl rfl (Ev.plain rfl) (Ev.opt rfl (by first | exact pkT | exact pkT2 | simp +contextual)) (Ev.plain rfl) (andB _ _) optN ?_
              refine ARun.move (.inr rfl) rfl rfl rfl (Ev.plain rfl) optN ?_
              refine ⟨_, _, rfl, hG, ?_⟩
              refine thenA_n ?_
              refine AWP.ret ?_
              refine blockA_r ?_
              refine thenA_r ?_
              refine endF.one (.inr rfl) rfl (.tmp rfl) ?_ hN
              (unfold mayP; simp_all)
            · skip
              simp at h8
              refine AWP.skip ?_
              refine blockA_n ?_
              refine thenA_n ?_
              refine AWP.seq ?_
              refine AWP.region (fun _ => ?_)
              refine ARun.fieldPe rfl rfl rfl rfl Tryz.underlying25 rfl rfl sz3 (by decide) (Ev.plain rfl) rfl optN ?_
              refine ARun.loadPe rfl rfl rfl rfl Tryz.underlying3 rfl (Ev.plain rfl) rfl optN ?_
              refine ARun.cmp rfl rfl rfl rfl (Ev.plain rfl) (Ev.plain rfl) rfl optN ?_
              refine ARun.move (.inl rfl) rfl rfl rfl (Ev.plain rfl) optN ?_
              refine ARun.fieldPe rfl rfl rfl rfl Tryz.underlying25 rfl rfl sz3 (by decide) (Ev.plain rfl) rfl optS ?_
              refine ARun.loadPe rfl rfl rfl rfl Tryz.underlying3 rfl (Ev.opt rfl (fun h => h)) rfl optS ?_
              refine ARun.cmp rfl rfl rfl rfl (Ev.opt rfl (fun h => h)) (Ev.plain rfl) rfl optS ?_
              refine ARun.pick rfl rfl rfl rfl (Ev.plain rfl) (Ev.opt rfl (by first | exact pkT | exact pkT2 | simp +contextual)) (Ev.plain rfl) (andB _ _) optN ?_
              refine ARun.move (.inl rfl) rfl rfl rfl (Ev.plain rfl) optN ?_
              refine ARun.fieldPe rfl rfl rfl rfl Tryz.underlying25 rfl rfl sz3 (by decide) (Ev.plain rfl) rfl optS ?_
              refine ARun.loadPe rfl rfl rfl rfl Tryz.underlying3 rfl (Ev.opt rfl (fun h => h)) rfl optS ?_
              refine ARun.cmp rfl rfl rfl rfl (Ev.opt rfl (fun h => h)) (Ev.plain rfl) rfl optS ?_
              refine ARun.pick rfl rfl rfl rfl (Ev.plain rfl) (Ev.opt rfl (by first | exact pkT | exact pkT2 | simp +contextual)) (Ev.plain rfl) (andB _ _) optN ?_
              refine ARun.move (.inl rfl) rfl rfl rfl (Ev.plain rfl) optN ?_
              refine ARun.fieldPe rfl rfl rfl rfl Tryz.underlying25 rfl rfl sz23 (by decide) (Ev.plain rfl) rfl optS ?_
              refine ARun.loadPe rfl rfl rfl rfl Tryz.underlying23 rfl (Ev.opt rfl (fun h => h)) rfl optS ?_
              refine ARun.call rfl rfl rfl rfl cf103 (Ev.plain rfl) (.cons (Ev.opt rfl (fun h => h)) .nil) rfl (fun hg => lines_fn c.lines hl) optS ?_
              refine ARun.pick rfl rfl rfl rfl (Ev.plain rfl) (Ev.opt rfl (by first | exact pkT | exact pkT2 | simp +contextual)) (Ev.plain rfl) (andB _ _) optN ?_
              refine ARun.move (.inr rfl) rfl rfl rfl (Ev.plain rfl) optN ?_
              refine ⟨_, _, rfl, hG, ?_⟩
              refine thenA_n ?_
              refine AWP.ret ?_
              refine endF.one (.inr rfl) rfl (.tmp rfl) ?_ hN
              (unfold mayP; simp_all)
      · skip
        simp at h5
        refine AWP.seq ?_
        refine AWP.region (fun _ => ?_)
        refine ARun.cmp rfl rfl rfl rfl (Ev.plain rfl) (Ev.plain rfl) rfl optN ?_
        refine ARun.move (.inr rfl) rfl rfl rfl (Ev.plain rfl) optN ?_
        refine ⟨_, _, rfl, hG, ?_⟩
        refine thenA_n ?_
        refine AWP.cond rfl (fun h9 => ?_) (fun h9 => ?_)
        · skip
          simp at h9
          refine AWP.skip ?_
          refine thenA_n ?_
          refine AWP.cond rfl (fun h10 => ?_) (fun h10 => ?_)
          · skip
            simp at h10
            refine AWP.seq ?_
            refine AWP.region (fun _ => ?_)
            refine ARun.loadPeA rfl rfl rfl rfl Tryz.underlying25 rfl sz25 (Ev.plain rfl) rfl optN ?_
            refine ARun.call rfl rfl rfl rfl cf101 (Ev.plain rfl) (.cons (Ev.plain rfl) .nil) rfl (fun hg => bare_fn c) optN ?_
            refine ARun.move (.inl rfl) rfl rfl rfl (Ev.plain rfl) optN ?_
            refine ARun.fieldPe rfl rfl rfl rfl Tryz.underlying25 rfl rfl sz3 (by decide) (Ev.plain rfl) rfl optS ?_
            refine ARun.loadPe rfl rfl rfl rfl Tryz.underlying3 rfl (Ev.opt rfl (fun h => h)) rfl optS ?_
            refine ARun.call rfl rfl rfl rfl cf102 (Ev.plain rfl) (.cons (Ev.opt rfl (fun h => h)) .nil) rfl (fun hg => some_fn c.qty) optS ?_
            refine ARun.pick rfl rfl rfl rfl (Ev.plain rfl) (Ev.opt rfl (by first | exact pkT | exact pkT2 | simp +contextual)) (Ev.plain rfl) (andB _ _) optN ?_
            refine ARun.move (.inr rfl) rfl rfl rfl (Ev.plain rfl) optN ?_
            refine ⟨_, _, rfl, hG, ?_⟩
            refine thenA_n ?_
            refine AWP.ret ?_
            refine blockA_r ?_
            refine thenA_r ?_
            refine endF.one (.inr rfl) rfl (.tmp rfl) ?_ hN
            (unfold mayP; simp_all)
          · skip
            simp at h10
            refine AWP.seq ?_
            refine AWP.region (fun _ => ?_)
            refine ARun.cmp rfl rfl rfl rfl (Ev.plain rfl) (Ev.plain rfl) rfl optN ?_
            refine ARun.move (.inr rfl) rfl rfl rfl (Ev.plain rfl) optN ?_
            refine ⟨_, _, rfl, hG, ?_⟩
            refine thenA_n ?_
            refine AWP.cond rfl (fun h11 => ?_) (fun h11 => ?_)
            · skip
              simp at h11
              refine AWP.seq ?_
              refine AWP.region (fun _ => ?_)
              refine ARun.fieldPe rfl rfl rfl rfl Tryz.underlying25 rfl rfl sz3 (by decide) (Ev.plain rfl) rfl optN ?_
              refine ARun.loadPe rfl rfl rfl rfl Tryz.underlying3 rfl (Ev.plain rfl) rfl optN ?_
              refine ARun.call rfl rfl rfl rfl cf66 (Ev.plain rfl) (.cons (Ev.plain rfl) .nil) rfl (fun hg => number_fn c.item) optN ?_
              refine ARun.move (.inl rfl) rfl rfl rfl (Ev.plain rfl) optN ?_
              refine ARun.fieldPe rfl rfl rfl rfl Tryz.underlying25 rfl rfl sz3 (by decide) (Ev.plain rfl) rfl optS ?_
              refine ARun.loadPe rfl rfl rfl rfl Tryz.underlying3 rfl (Ev.opt rfl (fun h => h)) rfl optS ?_
              refine ARun.call rfl rfl rfl rfl cf66 (Ev.plain rfl) (.cons (Ev.opt rfl (fun h => h)) .nil) rfl (fun hg => number_fn c.to_) optS ?_
              refine ARun.pick rfl rfl rfl rfl (Ev.plain rfl) (Ev.opt rfl (by first | exact pkT | exact pkT2 | simp +contextual)) (Ev.plain rfl) (andB _ _) optN ?_
              refine ARun.move (.inl rfl) rfl rfl rfl (Ev.plain rfl) optN ?_
              refine ARun.fieldPe rfl rfl rfl rfl Tryz.underlying25 rfl rfl sz3 (by decide) (Ev.plain rfl) rfl optS ?_
              refine ARun.loadPe rfl rfl rfl rfl Tryz.underlying3 rfl (Ev.opt rfl (fun h => h)) rfl optS ?_
              refine ARun.fieldPe rfl rfl rfl rfl Tryz.underlying25 rfl rfl sz3 (by decide) (Ev.plain rfl) rfl optS ?_
              refine ARun.loadPe rfl rfl rfl rfl Tryz.underlying3 rfl (Ev.opt rfl (fun h => h)) rfl optS ?_
              refine ARun.cmp rfl rfl rfl rfl (Ev.opt rfl (fun h => h)) (Ev.opt rfl (fun h => h)) rfl optS ?_
              refine ARun.pick rfl rfl rfl rfl (Ev.plain rfl) (Ev.opt rfl (by first | exact pkT | exact pkT2 | simp +contextual)) (Ev.plain rfl) (andB _ _) optN ?_
              refine ARun.move (.inl rfl) rfl rfl rfl (Ev.plain rfl) optN ?_
              refine ARun.fieldPe rfl rfl rfl rfl Tryz.underlying25 rfl rfl sz3 (by decide) (Ev.plain rfl) rfl optS ?_
              refine ARun.loadPe rfl rfl rfl rfl Tryz.underlying3 rfl (Ev.opt rfl (fun h => h)) rfl optS ?_
              refine ARun.call rfl rfl rfl rfl cf102 (Ev.plain rfl) (.cons (Ev.opt rfl (fun h => h)) .nil) rfl (fun hg => some_fn c.qty) optS ?_
              refine ARun.pick rfl rfl rfl rfl (Ev.plain rfl) (Ev.opt rfl (by first | exact pkT | exact pkT2 | simp +contextual)) (Ev.plain rfl) (andB _ _) optN ?_
              refine ARun.move (.inl rfl) rfl rfl rfl (Ev.plain rfl) optN ?_
              refine ARun.fieldPe rfl rfl rfl rfl Tryz.underlying25 rfl rfl sz23 (by decide) (Ev.plain rfl) rfl optS ?_
              refine ARun.loadPe rfl rfl rfl rfl Tryz.underlying23 rfl (Ev.opt rfl (fun h => h)) rfl optS ?_
              refine ARun.lenSl rfl rfl rfl rfl Tryz.underlying23 (Ev.opt rfl (fun h => h)) optS ?_
              refine ARun.cmp rfl rfl rfl rfl (Ev.opt rfl (fun h => h)) (Ev.plain rfl) rfl optS ?_
              refine ARun.pick rfl rfl rfl rfl (Ev.plain rfl) (Ev.opt rfl (by first | exact pkT | exact pkT2 | simp +contextual)) (Ev.plain rfl) (andB _ _) optN ?_
              refine ARun.move (.inr rfl) rfl rfl rfl (Ev.plain rfl) optN ?_
              refine ⟨_, _, rfl, hG, ?_⟩
              refine thenA_n ?_
              refine AWP.ret ?_
              refine blockA_r ?_
              refine thenA_r ?_
              refine endF.one (.inr rfl) rfl (.tmp rfl) ?_ hN
              (unfold mayP; simp_all)
            · skip
              simp at h11
              refine AWP.seq ?_
              refine AWP.region (fun _ => ?_)
              refine ARun.cmp rfl rfl rfl rfl (Ev.plain rfl) (Ev.plain rfl) rfl optN ?_
              refine ARun.move (.inr rfl) rfl rfl rfl (Ev.plain rfl) optN ?_
              refine ⟨_, _, rfl, hG, ?_⟩
              refine thenA_n ?_
              refine AWP.cond rfl (fun h12 => ?_) (fun h12 => ?_)
              · skip
                simp at h12
                refine AWP.seq ?_
                refine AWP.region (fun _ => ?_)
                refine ARun.loadPeA rfl rfl rfl rfl Tryz.underlying25 rfl sz25 (Ev.plain rfl) rfl optN ?_
                refine ARun.call rfl rfl rfl rfl cf101 (Ev.plain rfl) (.cons (Ev.plain rfl) .nil) rfl (fun hg => bare_fn c) optN ?_
                refine ARun.move (.inl rfl) rfl rfl rfl (Ev.plain rfl) optN ?_
                refine ARun.fieldPe rfl rfl rfl rfl Tryz.underlying25 rfl rfl sz3 (by decide) (Ev.plain rfl) rfl optS ?_
                refine ARun.loadPe rfl rfl rfl rfl Tryz.underlying3 rfl (Ev.opt rfl (fun h => h)) rfl optS ?_
                refine ARun.cmp rfl rfl rfl rfl (Ev.opt rfl (fun h => h)) (Ev.plain rfl) rfl optS ?_
                refine ARun.pick rfl rfl rfl rfl (Ev.plain rfl) (Ev.opt rfl (by first | exact pkT | exact pkT2 | simp +contextual)) (Ev.plain rfl) (andB _ _) optN ?_
                refine ARun.move (.inr rfl) rfl rfl rfl (Ev.plain rfl) optN ?_
                refine ⟨_, _, rfl, hG, ?_⟩
                refine thenA_n ?_
                refine AWP.ret ?_
                refine blockA_r ?_
                refine thenA_r ?_
                refine endF.one (.inr rfl) rfl (.tmp rfl) ?_ hN
                (unfold mayP; simp_all)
              · skip
                simp at h12
                refine AWP.skip ?_
                refine blockA_n ?_
                refine thenA_n ?_
                refine AWP.seq ?_
                refine AWP.region (fun _ => ?_)
                refine ARun.fieldPe rfl rfl rfl rfl Tryz.underlying25 rfl rfl sz3 (by decide) (Ev.plain rfl) rfl optN ?_
                refine ARun.loadPe rfl rfl rfl rfl Tryz.underlying3 rfl (Ev.plain rfl) rfl optN ?_
                refine ARun.cmp rfl rfl rfl rfl (Ev.plain rfl) (Ev.plain rfl) rfl optN ?_
                refine ARun.move (.inl rfl) rfl rfl rfl (Ev.plain rfl) optN ?_
                refine ARun.fieldPe rfl rfl rfl rfl Tryz.underlying25 rfl rfl sz3 (by decide) (Ev.plain rfl) rfl optS ?_
                refine ARun.loadPe rfl rfl rfl rfl Tryz.underlying3 rfl (Ev.opt rfl (fun h => h)) rfl optS ?_
                refine ARun.cmp rfl rfl rfl rfl (Ev.opt rfl (fun h => h)) (Ev.plain rfl) rfl optS ?_
                refine ARun.pick rfl rfl rfl rfl (Ev.plain rfl) (Ev.opt rfl (by first | exact pkT | exact pkT2 | simp +contextual)) (Ev.plain rfl) (andB _ _) optN ?_
                refine ARun.move (.inl rfl) rfl rfl rfl (Ev.plain rfl) optN ?_
                refine ARun.fieldPe rfl rfl rfl rfl Tryz.underlying25 rfl rfl sz3 (by decide) (Ev.plain rfl) rfl optS ?_
                refine ARun.loadPe rfl rfl rfl rfl Tryz.underlying3 rfl (Ev.opt rfl (fun h => h)) rfl optS ?_
                refine ARun.cmp rfl rfl rfl rfl (Ev.opt rfl (fun h => h)) (Ev.plain rfl) rfl optS ?_
                refine ARun.pick rfl rfl rfl rfl (Ev.plain rfl) (Ev.opt rfl (by first | exact pkT | exact pkT2 | simp +contextual)) (Ev.plain rfl) (andB _ _) optN ?_
                refine ARun.move (.inl rfl) rfl rfl rfl (Ev.plain rfl) optN ?_
                refine ARun.fieldPe rfl rfl rfl rfl Tryz.underlying25 rfl rfl sz23 (by decide) (Ev.plain rfl) rfl optS ?_
                refine ARun.loadPe rfl rfl rfl rfl Tryz.underlying23 rfl (Ev.opt rfl (fun h => h)) rfl optS ?_
                refine ARun.call rfl rfl rfl rfl cf103 (Ev.plain rfl) (.cons (Ev.opt rfl (fun h => h)) .nil) rfl (fun hg => lines_fn c.lines hl) optS ?_
                refine ARun.pick rfl rfl rfl rfl (Ev.plain rfl) (Ev.opt rfl (by first | exact pkT | exact pkT2 | simp +contextual)) (Ev.plain rfl) (andB _ _) optN ?_
                refine ARun.move (.inr rfl) rfl rfl rfl (Ev.plain rfl) optN ?_
                refine ⟨_, _, rfl, hG, ?_⟩
                refine thenA_n ?_
                refine AWP.ret ?_
                refine endF.one (.inr rfl) rfl (.tmp rfl) ?_ hN
                (unfold mayP; simp_all)
        · skip
          simp at h9
          refine AWP.region (fun _ => ?_)
          refine ARun.cmp rfl rfl rfl rfl (Ev.plain rfl) (Ev.plain rfl) rfl optN ?_
          refine ARun.move (.inr rfl) rfl rfl rfl (Ev.plain rfl) optN ?_
          refine ⟨_, _, rfl, hG, ?_⟩
          refine thenA_n ?_
          refine AWP.cond rfl (fun h13 => ?_) (fun h13 => ?_)
          · skip
            simp at h13
            refine AWP.seq ?_
            refine AWP.region (fun _ => ?_)
            refine ARun.loadPeA rfl rfl rfl rfl Tryz.underlying25 rfl sz25 (Ev.plain rfl) rfl optN ?_
            refine ARun.call rfl rfl rfl rfl cf101 (Ev.plain rfl) (.cons (Ev.plain rfl) .nil) rfl (fun hg => bare_fn c) optN ?_
            refine ARun.move (.inl rfl) rfl rfl rfl (Ev.plain rfl) optN ?_
            refine ARun.fieldPe rfl rfl rfl rfl Tryz.underlying25 rfl rfl sz3 (by decide) (Ev.plain rfl) rfl optS ?_
            refine ARun.loadPe rfl rfl rfl rfl Tryz.underlying3 rfl (Ev.opt rfl (fun h => h)) rfl optS ?_
            refine ARun.call rfl rfl rfl rfl cf102 (Ev.plain rfl) (.cons (Ev.opt rfl (fun h => h)) .nil) rfl (fun hg => some_fn c.qty) optS ?_
            refine ARun.pick rfl rfl rfl rfl (Ev.plain rfl) (Ev.opt rfl (by first | exact pkT | exact pkT2 | simp +contextual)) (Ev.plain rfl) (andB _ _) optN ?_
            refine ARun.move (.inr rfl) rfl rfl rfl (Ev.plain rfl) optN ?_
            refine ⟨_, _, rfl, hG, ?_⟩
            refine thenA_n ?_
            refine AWP.ret ?_
            refine blockA_r ?_
            refine thenA_r ?_
            refine endF.one (.inr rfl) rfl (.tmp rfl) ?_ hN
            (unfold mayP; simp_all)
          · skip
            simp at h13
            refine AWP.seq ?_
            refine AWP.region (fun _ => ?_)
            refine ARun.cmp rfl rfl rfl rfl (Ev.plain rfl) (Ev.plain rfl) rfl optN ?_
            refine ARun.move (.inr rfl) rfl rfl rfl (Ev.plain rfl) optN ?_
            refine ⟨_, _, rfl, hG, ?_⟩
            refine thenA_n ?_
            refine AWP.cond rfl (fun h14 => ?_) (fun h14 => ?_)
            · skip
              simp at h14
              refine AWP.seq ?_
              refine AWP.region (fun _ => ?_)
              refine ARun.fieldPe rfl rfl rfl rfl Tryz.underlying25 rfl rfl sz3 (by decide) (Ev.plain rfl) rfl optN ?_
              refine ARun.loadPe rfl rfl rfl rfl Tryz.underlying3 rfl (Ev.plain rfl) rfl optN ?_
              refine ARun.call rfl rfl rfl rfl cf66 (Ev.plain rfl) (.cons (Ev.plain rfl) .nil) rfl (fun hg => number_fn c.item) optN ?_
              refine ARun.move (.inl rfl) rfl rfl rfl (Ev.plain rfl) optN ?_
              refine ARun.fieldPe rfl rfl rfl rfl Tryz.underlying25 rfl rfl sz3 (by decide) (Ev.plain rfl) rfl optS ?_
              refine ARun.loadPe rfl rfl rfl rfl Tryz.underlying3 rfl (Ev.opt rfl (fun h => h)) rfl optS ?_
              refine ARun.call rfl rfl rfl rfl cf66 (Ev.plain rfl) (.cons (Ev.opt rfl (fun h => h)) .nil) rfl (fun hg => number_fn c.to_) optS ?_
              refine ARun.pick rfl rfl rfl rfl (Ev.plain rfl) (Ev.opt rfl (by first | exact pkT | exact pkT2 | simp +contextual)) (Ev.plain rfl) (andB _ _) optN ?_
              refine ARun.move (.inl rfl) rfl rfl rfl (Ev.plain rfl) optN ?_
              refine ARun.fieldPe rfl rfl rfl rfl Tryz.underlying25 rfl rfl sz3 (by decide) (Ev.plain rfl) rfl optS ?_
              refine ARun.loadPe rfl rfl rfl rfl Tryz.underlying3 rfl (Ev.opt rfl (fun h => h)) rfl optS ?_
              refine ARun.fieldPe rfl rfl rfl rfl Tryz.underlying25 rfl rfl sz3 (by decide) (Ev.plain rfl) rfl optS ?_
              refine ARun.loadPe rfl rfl rfl rfl Tryz.underlying3 rfl (Ev.opt rfl (fun h => h)) rfl optS ?_
              refine ARun.cmp rfl rfl rfl rfl (Ev.opt rfl (fun h => h)) (Ev.opt rfl (fun h => h)) rfl optS ?_
              refine ARun.pick rfl rfl rfl rfl (Ev.plain rfl) (Ev.opt rfl (by first | exact pkT | exact pkT2 | simp +contextual)) (Ev.plain rfl) (andB _ _) optN ?_
              refine ARun.move (.inl rfl) rfl rfl rfl (Ev.plain rfl) optN ?_
              refine ARun.fieldPe rfl rfl rfl rfl Tryz.underlying25 rfl rfl sz3 (by decide) (Ev.plain rfl) rfl optS ?_
              refine ARun.loadPe rfl rfl rfl rfl Tryz.underlying3 rfl (Ev.opt rfl (fun h => h)) rfl optS ?_
              refine ARun.call rfl rfl rfl rfl cf102 (Ev.plain rfl) (.cons (Ev.opt rfl (fun h => h)) .nil) rfl (fun hg => some_fn c.qty) optS ?_
              refine ARun.pick rfl rfl rfl rfl (Ev.plain rfl) (Ev.opt rfl (by first | exact pkT | exact pkT2 | simp +contextual)) (Ev.plain rfl) (andB _ _) optN ?_
              refine ARun.move (.inl rfl) rfl rfl rfl (Ev.plain rfl) optN ?_
              refine ARun.fieldPe rfl rfl rfl rfl Tryz.underlying25 rfl rfl sz23 (by decide) (Ev.plain rfl) rfl optS ?_
              refine ARun.loadPe rfl rfl rfl rfl Tryz.underlying23 rfl (Ev.opt rfl (fun h => h)) rfl optS ?_
              refine ARun.lenSl rfl rfl rfl rfl Tryz.underlying23 (Ev.opt rfl (fun h => h)) optS ?_
              refine ARun.cmp rfl rfl rfl rfl (Ev.opt rfl (fun h => h)) (Ev.plain rfl) rfl optS ?_
              refine ARun.pick rfl rfl rfl rfl (Ev.plain rfl) (Ev.opt rfl (by first | exact pkT | exact pkT2 | simp +contextual)) (Ev.plain rfl) (andB _ _) optN ?_
              refine ARun.move (.inr rfl) rfl rfl rfl (Ev.plain rfl) optN ?_
              refine ⟨_, _, rfl, hG, ?_⟩
              refine thenA_n ?_
              refine AWP.ret ?_
              refine blockA_r ?_
              refine thenA_r ?_
              refine endF.one (.inr rfl) rfl (.tmp rfl) ?_ hN
              (unfold mayP; simp_all)
            · skip
              simp at h14
              refine AWP.seq ?_
              refine AWP.region (fun _ => ?_)
              refine ARun.cmp rfl rfl rfl rfl (Ev.plain rfl) (Ev.plain rfl) rfl optN ?_
              refine ARun.move (.inr rfl) rfl rfl rfl (Ev.plain rfl) optN ?_
              refine ⟨_, _, rfl, hG, ?_⟩
              refine thenA_n ?_
              refine AWP.cond rfl (fun h15 => ?_) (fun h15 => ?_)
              · skip
                simp at h15
                refine AWP.seq ?_
                refine AWP.region (fun _ => ?_)
                refine ARun.loadPeA rfl rfl rfl rfl Tryz.underlying25 rfl sz25 (Ev.plain rfl) rfl optN ?_
                refine ARun.call rfl rfl rfl rfl cf101 (Ev.plain rfl) (.cons (Ev.plain rfl) .nil) rfl (fun hg => bare_fn c) optN ?_
                refine ARun.move (.inl rfl) rfl rfl rfl (Ev.plain rfl) optN ?_
                refine ARun.fieldPe rfl rfl rfl rfl Tryz.underlying25 rfl rfl sz3 (by decide) (Ev.plain rfl) rfl optS ?_
                refine ARun.loadPe rfl rfl rfl rfl Tryz.underlying3 rfl (Ev.opt rfl (fun h => h)) rfl optS ?_
                refine ARun.cmp rfl rfl rfl rfl (Ev.opt rfl (fun h => h)) (Ev.plain rfl) rfl optS ?_
                refine ARun.pick rfl rfl rfl rfl (Ev.plain rfl) (Ev.opt rfl (by first | exact pkT | exact pkT2 | simp +contextual)) (Ev.plain rfl) (andB _ _) optN ?_
                refine ARun.move (.inr rfl) rfl rfl rfl (Ev.plain rfl) optN ?_
                refine ⟨_, _, rfl, hG, ?_⟩
                refine thenA_n ?_
                refine AWP.ret ?_
                refine blockA_r ?_
                refine thenA_r ?_
                refine endF.one (.inr rfl) rfl (.tmp rfl) ?_ hN
                (unfold mayP; simp_all)
              · skip
                simp at h15
                refine AWP.skip ?_
                refine blockA_n ?_
                refine thenA_n ?_
                refine AWP.seq ?_
                refine AWP.region (fun _ => ?_)
                refine ARun.fieldPe rfl rfl rfl rfl Tryz.underlying25 rfl rfl sz3 (by decide) (Ev.plain rfl) rfl optN ?_
                refine ARun.loadPe rfl rfl rfl rfl Tryz.underlying3 rfl (Ev.plain rfl) rfl optN ?_
                refine ARun.cmp rfl rfl rfl rfl (Ev.plain rfl) (Ev.plain rfl) rfl optN ?_
                refine ARun.move (.inl rfl) rfl rfl rfl (Ev.plain rfl) optN ?_
                refine ARun.fieldPe rfl rfl rfl rfl Tryz.underlying25 rfl rfl sz3 (by decide) (Ev.plain rfl) rfl optS ?_
                refine ARun.loadPe rfl rfl rfl rfl Tryz.underlying3 rfl (Ev.opt rfl (fun h => h)) rfl optS ?_
                refine ARun.cmp rfl rfl rfl rfl (Ev.opt rfl (fun h => h)) (Ev.plain rfl) rfl optS ?_
                refine ARun.pick rfl rfl rfl rfl (Ev.plain rfl) (Ev.opt rfl (by first | exact pkT | exact pkT2 | simp +contextual)) (Ev.plain rfl) (andB _ _) optN ?_
                refine ARun.move (.inl rfl) rfl rfl rfl (Ev.plain rfl) optN ?_
                refine ARun.fieldPe rfl rfl rfl rfl Tryz.underlying25 rfl rfl sz3 (by decide) (Ev.plain rfl) rfl optS ?_
                refine ARun.loadPe rfl rfl rfl rfl Tryz.underlying3 rfl (Ev.opt rfl (fun h => h)) rfl optS ?_
                refine ARun.cmp rfl rfl rfl rfl (Ev.opt rfl (fun h => h)) (Ev.plain rfl) rfl optS ?_
                refine ARun.pick rfl rfl rfl rfl (Ev.plain rfl) (Ev.opt rfl (by first | exact pkT | exact pkT2 | simp +contextual)) (Ev.plain rfl) (andB _ _) optN ?_
                refine ARun.move (.inl rfl) rfl rfl rfl (Ev.plain rfl) optN ?_
                refine ARun.fieldPe rfl rfl rfl rfl Tryz.underlying25 rfl rfl sz23 (by decide) (Ev.plain rfl) rfl optS ?_
                refine ARun.loadPe rfl rfl rfl rfl Tryz.underlying23 rfl (Ev.opt rfl (fun h => h)) rfl optS ?_
                refine ARun.call rfl rfl rfl rfl cf103 (Ev.plain rfl) (.cons (Ev.opt rfl (fun h => h)) .nil) rfl (fun hg => lines_fn c.lines hl) optS ?_
                refine ARun.pick rfl rfl rfl rfl (Ev.plain rfl) (Ev.opt rfl (by first | exact pkT | exact pkT2 | simp +contextual)) (Ev.plain rfl) (andB _ _) optN ?_
                refine ARun.move (.inr rfl) rfl rfl rfl (Ev.plain rfl) optN ?_
                refine ⟨_, _, rfl, hG, ?_⟩
                refine thenA_n ?_
                refine AWP.ret ?_
                refine endF.one (.inr rfl) rfl (.tmp rfl) ?_ hN
                (unfold mayP; simp_all)
set_option maxHeartbeats 1000000 in
theorem check_fn (c : Cl) (hl : c.lines.length ≤ 100000) : FnP Tryz.prog 28 [aCl c] (aEr (Er.new tCall (checkP c))) := by
  refine FnP.of Tryz.func28 rfl rfl (by simp) (by simp [AV.cells, aIn, aOut, aLn, aCl, aRp]) (fun G hG => ?_)
  have hN : NoH G.length (aEr (Er.new tCall (checkP c))) := (by simp [AV.cells, aIn, aOut, aLn, aCl, aRp])
  refine AWP.seq ?_
  refine AWP.region (fun _ => ?_)
  refine ARun.boxPe rfl rfl rfl rfl (Ev.plain rfl) rfl rfl optN ?_
  refine ARun.move (.inr rfl) rfl rfl rfl (Ev.plain rfl) optN ?_
  refine ⟨_, _, rfl, hG, ?_⟩
  refine thenA_n ?_
  refine AWP.seq ?_
  refine AWP.block ?_
  refine AWP.seq ?_
  refine AWP.region (fun _ => ?_)
  refine ARun.fieldPe rfl rfl rfl rfl Tryz.underlying25 rfl rfl sz3 (by decide) (Ev.plain rfl) rfl optN ?_
  refine ARun.loadPe rfl rfl rfl rfl Tryz.underlying3 rfl (Ev.plain rfl) rfl optN ?_
  refine ARun.cmp rfl rfl rfl rfl (Ev.plain rfl) (Ev.plain rfl) rfl optN ?_
  refine ARun.move (.inl rfl) rfl rfl rfl (Ev.plain rfl) optN ?_
  refine ARun.fieldPe rfl rfl rfl rfl Tryz.underlying25 rfl rfl sz3 (by decide) (Ev.plain rfl) rfl optS ?_
  refine ARun.loadPe rfl rfl rfl rfl Tryz.underlying3 rfl (Ev.opt rfl (fun h => h)) rfl optS ?_
  refine ARun.cmp rfl rfl rfl rfl (Ev.opt rfl (fun h => h)) (Ev.plain rfl) rfl optS ?_
  refine ARun.pick rfl rfl rfl rfl (Ev.plain rfl) (Ev.plain rfl) (Ev.opt rfl (by first | exact pkF | exact pkF2 | simp +contextual)) (orB _ _) optN ?_
  refine ARun.move (.inr rfl) rfl rfl rfl (Ev.plain rfl) optN ?_
  refine ⟨_, _, rfl, hG, ?_⟩
  refine thenA_n ?_
  refine AWP.cond rfl (fun h0 => ?_) (fun h0 => ?_)
  · skip
    simp at h0
    refine AWP.seq ?_
    refine AWP.region (fun _ => ?_)
    refine ARun.call rfl rfl rfl rfl cf62 (Ev.plain rfl) (.cons (Ev.plain rfl) (.cons (Ev.plain rfl) .nil)) rfl (fun hg => new_fn tCall 30) optN ?_
    refine ARun.move (.inr rfl) rfl rfl rfl (Ev.plain rfl) optN ?_
    refine ⟨_, _, rfl, hG, ?_⟩
    refine thenA_n ?_
    refine AWP.ret ?_
    refine blockA_r ?_
    refine thenA_r ?_
    refine endF.one (.inr rfl) rfl (.tmp rfl) ?_ hN
    rw [checkP, if_pos (by omega)]
  · skip
    simp at h0
    refine AWP.seq ?_
    refine AWP.region (fun _ => ?_)
    refine ARun.fieldPe rfl rfl rfl rfl Tryz.underlying25 rfl rfl sz3 (by decide) (Ev.plain rfl) rfl optN ?_
    refine ARun.loadPe rfl rfl rfl rfl Tryz.underlying3 rfl (Ev.plain rfl) rfl optN ?_
    refine ARun.call rfl rfl rfl rfl cf66 (Ev.plain rfl) (.cons (Ev.plain rfl) .nil) rfl (fun hg => number_fn c.client) optN ?_
    refine ARun.not rfl rfl rfl rfl (Ev.plain rfl) optN ?_
    refine ARun.move (.inl rfl) rfl rfl rfl (Ev.plain rfl) optN ?_
    refine ARun.fieldPe rfl rfl rfl rfl Tryz.underlying25 rfl rfl sz3 (by decide) (Ev.plain rfl) rfl optS ?_
    refine ARun.loadPe rfl rfl rfl rfl Tryz.underlying3 rfl (Ev.opt rfl (fun h => h)) rfl optS ?_
    refine ARun.call rfl rfl rfl rfl cf66 (Ev.plain rfl) (.cons (Ev.opt rfl (fun h => h)) .nil) rfl (fun hg => number_fn c.seq) optS ?_
    refine ARun.not rfl rfl rfl rfl (Ev.opt rfl (fun h => h)) optS ?_
    refine ARun.pick rfl rfl rfl rfl (Ev.plain rfl) (Ev.plain rfl) (Ev.opt rfl (by first | exact pkF | exact pkF2 | simp +contextual)) (orB _ _) optN ?_
    refine ARun.move (.inl rfl) rfl rfl rfl (Ev.plain rfl) optN ?_
    refine ARun.loadPeA rfl rfl rfl rfl Tryz.underlying25 rfl sz25 (Ev.plain rfl) rfl optS ?_
    refine ARun.call rfl rfl rfl rfl cf67 (Ev.plain rfl) (.cons (Ev.opt rfl (fun h => h)) .nil) rfl (fun hg => may_fn c hl) optS ?_
    refine ARun.not rfl rfl rfl rfl (Ev.opt rfl (fun h => h)) optS ?_
    refine ARun.pick rfl rfl rfl rfl (Ev.plain rfl) (Ev.plain rfl) (Ev.opt rfl (by first | exact pkF | exact pkF2 | simp +contextual)) (orB _ _) optN ?_
    refine ARun.move (.inr rfl) rfl rfl rfl (Ev.plain rfl) optN ?_
    refine ⟨_, _, rfl, hG, ?_⟩
    refine thenA_n ?_
    refine AWP.cond rfl (fun h1 => ?_) (fun h1 => ?_)
    · skip
      simp at h1
      refine AWP.seq ?_
      refine AWP.region (fun _ => ?_)
      refine ARun.call rfl rfl rfl rfl cf62 (Ev.plain rfl) (.cons (Ev.plain rfl) (.cons (Ev.plain rfl) .nil)) rfl (fun hg => new_fn tCall 2) optN ?_
      refine ARun.move (.inr rfl) rfl rfl rfl (Ev.plain rfl) optN ?_
      refine ⟨_, _, rfl, hG, ?_⟩
      refine thenA_n ?_
      refine AWP.ret ?_
      refine blockA_r ?_
      refine thenA_r ?_
      refine endF.one (.inr rfl) rfl (.tmp rfl) ?_ hN
      rw [checkP, if_neg (by omega), if_neg (by simp; intro q1 q2; rcases h1 with (h1 | h1) | h1 <;> simp_all)]
    · skip
      simp at h1
      refine AWP.skip ?_
      refine blockA_n ?_
      refine thenA_n ?_
      refine AWP.seq ?_
      refine AWP.region (fun _ => ?_)
      refine ARun.move (.inr rfl) rfl rfl rfl (Ev.plain rfl) optN ?_
      refine ⟨_, _, rfl, hG, ?_⟩
      refine thenA_n ?_
      refine AWP.ret ?_
      refine endF.one (.inr rfl) rfl (.tmp rfl) ?_ hN
      rw [checkP, if_neg (by omega), if_pos (by simp [h1])]; rfl
set_option maxHeartbeats 1000000 in
theorem told_fn (e : Int) (l : List Int) (hl : l.length ≤ 100000) : FnP Tryz.prog 27 [.int .i64 e, .sl (l.map (AV.int .i64))] (aRp ⟨e, l⟩) := by
  refine FnP.of Tryz.func27 rfl rfl (by simp) (by simp [AV.cells, aIn, aOut, aLn, aCl, aRp]) (fun G hG => ?_)
  have hN : NoH G.length (aRp ⟨e, l⟩) := (by simp [AV.cells, aIn, aOut, aLn, aCl, aRp])
  refine AWP.seq ?_
  refine AWP.region (fun _ => ?_)
  refine ARun.alloc (j := 0) hG rfl rfl rfl rfl rfl zv31 rfl optN ?_
  refine ⟨_, _, rfl, hG, ?_⟩
  refine thenA_n ?_
  refine AWP.seq ?_
  refine AWP.region (fun _ => ?_)
  refine ARun.move (.inl rfl) rfl rfl rfl (Ev.plain rfl) optN ?_
  refine ARun.move (.inl rfl) rfl rfl rfl (Ev.plain rfl) optN ?_
  refine ARun.call rfl rfl rfl rfl cf65 (Ev.plain rfl) (.cons (Ev.plain rfl) .nil) rfl (fun hg => cloneI_fn l (by omega)) optN ?_
  refine ARun.build rfl rfl rfl rfl so31 (.cons (Ev.plain rfl) (.cons (Ev.plain rfl) .nil)) rfl rfl optN ?_
  refine ARun.storeL hG rfl rfl rfl sz31 (Ev.plain rfl) (Ev.plain rfl) rfl rfl rfl rfl rfl (Nat.le_of_ble_eq_true rfl) rfl rfl ?_
  refine ⟨_, _, rfl, hG, ?_⟩
  refine thenA_n ?_
  refine AWP.ret ?_
  refine endF.one (.inr rfl) rfl (.cellA rfl ((hG.at _ _).trans rfl) Tryz.underlying31 rfl sz31 rfl rfl) ?_ hN
  rfl
set_option maxHeartbeats 1000000 in
theorem neg_fn (n : Int) : FnP Tryz.prog 114 [.int .i64 n] (.bool (decide (n < 0))) := by
  refine FnP.of Tryz.func114 rfl rfl (by simp) (by simp [AV.cells, aIn, aOut, aLn, aCl, aRp]) (fun G hG => ?_)
  have hN : NoH G.length (.bool (decide (n < 0))) := (by simp [AV.cells, aIn, aOut, aLn, aCl, aRp])
  refine AWP.seq ?_
  refine AWP.region (fun _ => ?_)
  refine ARun.move (.inr rfl) rfl rfl rfl (Ev.plain rfl) optN ?_
  refine ⟨_, _, rfl, hG, ?_⟩
  refine thenA_n ?_
  refine AWP.seq ?_
  refine AWP.region (fun _ => ?_)
  refine ARun.move (.inl rfl) rfl rfl rfl (Ev.plain rfl) optN ?_
  refine ARun.cmp rfl rfl rfl rfl (Ev.plain rfl) (Ev.plain rfl) rfl optN ?_
  refine ARun.move (.inr rfl) rfl rfl rfl (Ev.plain rfl) optN ?_
  refine ⟨_, _, rfl, hG, ?_⟩
  refine thenA_n ?_
  refine AWP.ret ?_
  refine endF.one (.inr rfl) rfl (.tmp rfl) ?_ hN
  rfl
set_option maxHeartbeats 1000000 in
theorem indexI (F : Nat) (fs cs : List AV) (p : Int → Bool) (l : List Int) (hl : l.length ≤ 9223372036854775807) (hcf : ∀ (vs : Array Value) (W : World), (callFunc F vs).run Tryz.prog W = .ok (.enter F vs) W) (hn : (∀ x, x ∈ fs → NoH 0 x) ∧ ∀ x, x ∈ cs → NoH 0 x) (hp : ∀ x, x ∈ l → FnP Tryz.prog F (fs ++ [(AV.int .i64) x] ++ cs) (.bool (p x))) : FnP Tryz.prog 144 [.sl (l.map (AV.int .i64)), .fn (.func F) fs cs] (.int .i64 (idxOf p l)) := by
  refine FnP.of Tryz.func144 rfl rfl (by simp) (by simp [AV.cells, aIn, aOut, aLn, aCl, aRp]) (fun G hG => ?_)
  have hN : NoH G.length (.int .i64 (idxOf p l)) := (by simp [AV.cells, aIn, aOut, aLn, aCl, aRp])
  refine AWP.seq ?_
  refine AWP.region (fun _ => ?_)
  refine ARun.move (.inr rfl) rfl rfl rfl (Ev.plain rfl) optN ?_
  refine ⟨_, _, rfl, hG, ?_⟩
  refine thenA_n ?_
  refine AWP.seq ?_
  refine AWP.seq ?_
  refine AWP.region (fun _ => ?_)
  refine ARun.move (.inl rfl) rfl rfl rfl (Ev.plain rfl) optN ?_
  refine ARun.lenSl rfl rfl rfl rfl Tryz.underlying29 (Ev.plain rfl) optN ?_
  refine ARun.move (.inl rfl) rfl rfl rfl (Ev.plain rfl) optN ?_
  refine ⟨_, _, rfl, hG, ?_⟩
  refine thenA_n ?_
  refine AWP.block ?_
  refine AWP.rounds (fun k => k ≤ l.length ∧ ∀ j, j < k → p (l.getD j default) = false) (fun k => [(0, .sl (l.map (AV.int .i64))), (1, .fn (.func F) fs cs), (7, .int .i64 ((l.map (AV.int .i64)).length : Int)), (8, .int .i64 (k : Int))]) (fun k => []) (fun k => l.length - k) 0 0 ⟨by omega, fun j h => by omega⟩ (by repeat (first | exact .nil | refine .cons rfl ?_)) rfl (fun _ => rfl) (fun _ => ⟨by simp [AV.cells, aIn, aOut, aLn, aCl, aRp]; exact ⟨fun x hx => (hn.1 x hx).mono (by omega), fun x hx => (hn.2 x hx).mono (by omega)⟩, by simp⟩) (fun k hI => ?_)
  obtain ⟨hk, hno⟩ := hI
  refine AWP.seq ?_
  refine AWP.region (fun _ => ?_)
  refine ARun.cmp rfl rfl rfl rfl (Ev.plain rfl) (Ev.plain rfl) rfl optN ?_
  refine ⟨_, _, rfl, hG, ?_⟩
  refine thenA_n ?_
  refine AWP.seq ?_
  refine AWP.cond rfl (fun h0 => ?_) (fun h0 => ?_)
  · skip
    try simp [-List.getD_eq_getElem?_getD] at h0
    refine AWP.skip ?_
    refine thenA_n ?_
    refine AWP.seq ?_
    refine AWP.block ?_
    refine AWP.seq ?_
    refine AWP.region (fun _ => ?_)
    refine ARun.move (.inl rfl) rfl rfl rfl (Ev.plain rfl) optN ?_
    refine ARun.move (.inr rfl) rfl rfl rfl (Ev.plain rfl) optN ?_
    refine ⟨_, _, rfl, hG, ?_⟩
    refine thenA_n ?_
    refine AWP.seq ?_
    refine AWP.region (fun _ => ?_)
    refine ARun.move (.inl rfl) rfl rfl rfl (Ev.plain rfl) optN ?_
    refine ARun.move (.inl rfl) rfl rfl rfl (Ev.plain rfl) optN ?_
    refine ARun.move (.inl rfl) rfl rfl rfl (Ev.plain rfl) optN ?_
    first | refine ARun.indexSl rfl rfl rfl rfl Tryz.underlying29 sz3 (Ev.plain rfl) (Ev.plain rfl) (fun _ => rfl) (fun hg => getMap _ _ _ (by (try simp at hg); omega)) rfl rfl optN ?_ | refine ARun.indexSl rfl rfl rfl rfl Tryz.underlying29 sz3 (Ev.plain rfl) (Ev.plain rfl) (fun hg => ofNonneg (by (try simp at hg); omega)) (fun hg => getMap _ _ _ (by (try simp at hg); omega)) rfl rfl optN ?_
    refine ARun.loadPe rfl rfl rfl rfl Tryz.underlying3 rfl (Ev.plain rfl) rfl optN ?_
    refine ARun.call rfl rfl rfl rfl hcf (Ev.plain rfl) (.cons (Ev.plain rfl) .nil) rfl (fun hg => hp _ (by rw [List.getD, List.getElem?_eq_getElem h0]; exact List.getElem_mem h0)) optN ?_
    refine ⟨_, _, rfl, hG, ?_⟩
    refine thenA_n ?_
    refine AWP.cond rfl (fun h1 => ?_) (fun h1 => ?_)
    · skip
      try simp [-List.getD_eq_getElem?_getD] at h1
      refine AWP.seq ?_
      refine AWP.region (fun _ => ?_)
      refine ARun.move (.inl rfl) rfl rfl rfl (Ev.plain rfl) optN ?_
      refine ARun.move (.inr rfl) rfl rfl rfl (Ev.plain rfl) optN ?_
      refine ⟨_, _, rfl, hG, ?_⟩
      refine thenA_n ?_
      refine AWP.ret ?_
      refine blockA_r ?_
      refine thenA_r ?_
      refine thenA_r ?_
      refine blockA_r ?_
      refine thenA_r ?_
      refine endF.one (.inr rfl) rfl (.tmp rfl) ?_ hN
      rw [idx_hit h0 hno h1]
    · skip
      try simp [-List.getD_eq_getElem?_getD] at h1
      refine AWP.skip ?_
      refine blockA_n ?_
      refine thenA_n ?_
      refine AWP.region (fun _ => ?_)
      first | refine ARun.arith rfl rfl rfl rfl (Ev.plain rfl) (Ev.plain rfl) rfl (fun hg => i64w (by (try simp at hg); omega)) optN ?_ | refine ARun.arith rfl rfl rfl rfl (Ev.plain rfl) (Ev.plain rfl) rfl (fun _ => rfl) optN ?_
      refine ARun.move (.inl rfl) rfl rfl rfl (Ev.plain rfl) optN ?_
      refine ⟨_, _, rfl, hG, ?_⟩
      refine thenA_n ⟨rfl, k + 1, _, ?_, ?_, rfl, ?_⟩
      · refine ⟨by omega, fun j hj => ?_⟩
        by_cases e : j = k
        · subst e; exact h1
        · exact hno j (by omega)
      · repeat (first | exact .nil | refine .cons rfl ?_)
      · omega
  · skip
    try simp [-List.getD_eq_getElem?_getD] at h0
    refine AWP.exit ?_
    refine thenA_x ?_
    refine thenA_x ?_
    refine blockA_h ?_
    refine thenA_n ?_
    refine AWP.seq ?_
    refine AWP.region (fun _ => ?_)
    refine ARun.move (.inr rfl) rfl rfl rfl (Ev.plain rfl) optN ?_
    refine ⟨_, _, rfl, hG, ?_⟩
    refine thenA_n ?_
    refine AWP.ret ?_
    refine endF.one (.inr rfl) rfl (.tmp rfl) ?_ hN
    rw [idx_none (fun j hj => hno j (by omega))]; rfl
set_option maxHeartbeats 1000000 in
theorem containsI (F : Nat) (fs cs : List AV) (p : Int → Bool) (l : List Int) (hl : l.length ≤ 9223372036854775807) (hcf : ∀ (vs : Array Value) (W : World), (callFunc F vs).run Tryz.prog W = .ok (.enter F vs) W) (hn : (∀ x, x ∈ fs → NoH 0 x) ∧ ∀ x, x ∈ cs → NoH 0 x) (hp : ∀ x, x ∈ l → FnP Tryz.prog F (fs ++ [(AV.int .i64) x] ++ cs) (.bool (p x))) : FnP Tryz.prog 115 [.sl (l.map (AV.int .i64)), .fn (.func F) fs cs] (.bool (l.any p)) := by
  refine FnP.of Tryz.func115 rfl rfl (by simp) (by simp [AV.cells, aIn, aOut, aLn, aCl, aRp]) (fun G hG => ?_)
  have hN : NoH G.length (.bool (l.any p)) := (by simp [AV.cells, aIn, aOut, aLn, aCl, aRp])
  refine AWP.seq ?_
  refine AWP.region (fun _ => ?_)
  refine ARun.move (.inr rfl) rfl rfl rfl (Ev.plain rfl) optN ?_
  refine ⟨_, _, rfl, hG, ?_⟩
  refine thenA_n ?_
  refine AWP.seq ?_
  refine AWP.region (fun _ => ?_)
  refine ARun.move (.inl rfl) rfl rfl rfl (Ev.plain rfl) optN ?_
  refine ARun.move (.inl rfl) rfl rfl rfl (Ev.plain rfl) optN ?_
  refine ARun.call rfl rfl rfl rfl cf144 (Ev.plain rfl) (.cons (Ev.plain rfl) (.cons (Ev.plain rfl) .nil)) rfl (fun hg => indexI F fs cs p l hl hcf hn hp) optN ?_
  refine ARun.cmp rfl rfl rfl rfl (Ev.plain rfl) (Ev.plain rfl) rfl optN ?_
  refine ARun.move (.inr rfl) rfl rfl rfl (Ev.plain rfl) optN ?_
  refine ⟨_, _, rfl, hG, ?_⟩
  refine thenA_n ?_
  refine AWP.ret ?_
  refine endF.one (.inr rfl) rfl (.tmp rfl) ?_ hN
  rw [← any_idx]
set_option maxHeartbeats 1000000 in
theorem putR_c (c : Rp) (hl : c.nums.length ≤ 100000) (hf : ∀ x, x ∈ c.nums → -9223372036854775808 ≤ x ∧ x ≤ 9223372036854775807) : FnP Tryz.prog 80 [aRp c] (.tup [.str (putR c), aEr (Er.new tReply (repE c))]) := by
  refine FnP.of Tryz.func80 rfl rfl (by simp) (by simp [AV.cells, aIn, aOut, aLn, aCl, aRp]) (fun G hG => ?_)
  have hN : NoH G.length (.tup [.str (putR c), aEr (Er.new tReply (repE c))]) := (by simp [AV.cells, aIn, aOut, aLn, aCl, aRp])
  refine AWP.seq ?_
  refine AWP.region (fun _ => ?_)
  refine ARun.boxPe rfl rfl rfl rfl (Ev.plain rfl) rfl rfl optN ?_
  refine ARun.move (.inr rfl) rfl rfl rfl (Ev.plain rfl) optN ?_
  refine ARun.move (.inr rfl) rfl rfl rfl (Ev.plain rfl) optN ?_
  refine ⟨_, _, rfl, hG, ?_⟩
  refine thenA_n ?_
  refine AWP.seq ?_
  refine AWP.region (fun _ => ?_)
  refine ARun.move (.inr rfl) rfl rfl rfl (Ev.plain rfl) optN ?_
  refine ⟨_, _, rfl, hG, ?_⟩
  refine thenA_n ?_
  refine AWP.seq ?_
  refine AWP.seq ?_
  refine AWP.region (fun _ => ?_)
  refine ARun.fieldPe rfl rfl rfl rfl Tryz.underlying31 rfl rfl sz28 (by decide) (Ev.plain rfl) rfl optN ?_
  refine ARun.loadPe rfl rfl rfl rfl Tryz.underlying28 rfl (Ev.plain rfl) rfl optN ?_
  refine ARun.cmp rfl rfl rfl rfl (Ev.plain rfl) (Ev.plain rfl) rfl optN ?_
  refine ARun.move (.inl rfl) rfl rfl rfl (Ev.plain rfl) optN ?_
  refine ARun.fieldPe rfl rfl rfl rfl Tryz.underlying31 rfl rfl sz28 (by decide) (Ev.plain rfl) rfl optS ?_
  refine ARun.loadPe rfl rfl rfl rfl Tryz.underlying28 rfl (Ev.opt rfl (fun h => h)) rfl optS ?_
  refine ARun.cmp rfl rfl rfl rfl (Ev.opt rfl (fun h => h)) (Ev.plain rfl) rfl optS ?_
  refine ARun.pick rfl rfl rfl rfl (Ev.plain rfl) (Ev.plain rfl) (Ev.opt rfl (by first | exact pkF | exact pkF2 | simp +contextual)) (orB _ _) optN ?_
  refine ARun.move (.inl rfl) rfl rfl rfl (Ev.plain rfl) optN ?_
  refine ARun.fieldPe rfl rfl rfl rfl Tryz.underlying31 rfl rfl sz29 (by decide) (Ev.plain rfl) rfl optS ?_
  refine ARun.loadPe rfl rfl rfl rfl Tryz.underlying29 rfl (Ev.opt rfl (fun h => h)) rfl optS ?_
  refine ARun.lenSl rfl rfl rfl rfl Tryz.underlying29 (Ev.opt rfl (fun h => h)) optS ?_
  refine ARun.cmp rfl rfl rfl rfl (Ev.opt rfl (fun h => h)) (Ev.plain rfl) rfl optS ?_
  refine ARun.pick rfl rfl rfl rfl (Ev.plain rfl) (Ev.plain rfl) (Ev.opt rfl (by first | exact pkF | exact pkF2 | simp +contextual)) (orB _ _) optN ?_
  refine ARun.move (.inl rfl) rfl rfl rfl (Ev.plain rfl) optN ?_
  refine ARun.fieldPe rfl rfl rfl rfl Tryz.underlying31 rfl rfl sz29 (by decide) (Ev.plain rfl) rfl optS ?_
  refine ARun.loadPe rfl rfl rfl rfl Tryz.underlying29 rfl (Ev.opt rfl (fun h => h)) rfl optS ?_
  refine ARun.move (.inl rfl) rfl rfl rfl (Ev.plain rfl) optS ?_
  refine ARun.call rfl rfl rfl rfl cf115 (Ev.plain rfl) (.cons (Ev.opt rfl (fun h => h)) (.cons (Ev.opt rfl (fun h => h)) .nil)) rfl (fun hg => containsI 114 [] [] (fun n => decide (n < 0)) c.nums (by omega) cf114 (by simp) (fun x _ => neg_fn x)) optS ?_
  refine ARun.pick rfl rfl rfl rfl (Ev.plain rfl) (Ev.plain rfl) (Ev.opt rfl (by first | exact pkF | exact pkF2 | simp +contextual)) (orB _ _) optN ?_
  refine ⟨_, _, rfl, hG, ?_⟩
  refine thenA_n ?_
  refine AWP.cond rfl (fun h0 => ?_) (fun h0 => ?_)
  · skip
    rw [any_neg] at h0
    simp at h0
    refine AWP.seq ?_
    refine AWP.region (fun _ => ?_)
    refine ARun.call rfl rfl rfl rfl cf62 (Ev.plain rfl) (.cons (Ev.plain rfl) (.cons (Ev.plain rfl) .nil)) rfl (fun hg => new_fn tReply 2) optN ?_
    refine ARun.move (.inr rfl) rfl rfl rfl (Ev.plain rfl) optN ?_
    refine ARun.move (.inr rfl) rfl rfl rfl (Ev.plain rfl) optN ?_
    refine ⟨_, _, rfl, hG, ?_⟩
    refine thenA_n ?_
    refine AWP.ret ?_
    refine thenA_r ?_
    refine endF.many (.inr rfl) (rs := [.tmp 2, .tmp 3]) rfl (.cons (.tmp rfl) (.cons (.tmp rfl) .nil)) (by simp) ?_ hN
    have he : repE c = 2 := by rw [repE, if_pos (by rcases h0 with ((h0 | h0) | h0) | h0 <;> first | exact .inr (.inr (.inr h0)) | omega)]
    rw [putR, if_neg (by omega), he]; rfl
  · skip
    rw [any_neg] at h0
    simp at h0
    have he : repE c = 0 := by rw [repE, if_neg (by simp [h0]; omega)]
    have hlay := layR_ok he
    have hwl := wrNums_len [c.code] WrS.new
    have hwl3 : WrS.new.s.length = 0 := rfl
    simp only [List.length_cons, List.length_nil] at hwl
    refine AWP.skip ?_
    refine thenA_n ?_
    refine AWP.seq ?_
    refine AWP.region (fun _ => ?_)
    refine ARun.allocBld (j := 0) (e := 5) hG rfl rfl rfl rfl rfl zv172 rfl rfl rfl optN ?_
    refine ⟨_, _, rfl, hG, ?_⟩
    refine thenA_n ?_
    refine AWP.seq ?_
    refine AWP.region (fun _ => ?_)
    refine ARun.fieldPe rfl rfl rfl rfl Tryz.underlying31 rfl rfl sz28 (by decide) (Ev.plain rfl) rfl optN ?_
    refine ARun.loadPe rfl rfl rfl rfl Tryz.underlying28 rfl (Ev.plain rfl) rfl optN ?_
    refine ARun.buildSl rfl rfl rfl rfl Tryz.underlying29 sz3 zv3 rfl (by decide) (.cons (Ev.plain rfl) .nil) rfl rfl rfl rfl (by decide) rfl rfl optN ?_
    refine ARun.callSet (j := 0) hG rfl rfl rfl rfl cf116 (Ev.plain rfl) (.cons (Ev.plain rfl) (.cons (Ev.plain rfl) .nil)) rfl (nums_w WrS.new [c.code] (by simp) (by simp [WrS.new]) (fit_one (by omega)) _ _ ((hG.at _ _).trans rfl)) rfl optN ?_
    refine ⟨_, _, rfl, hG, ?_⟩
    refine thenA_n ?_
    refine AWP.seq ?_
    refine AWP.region (fun _ => ?_)
    refine ARun.fieldPe rfl rfl rfl rfl Tryz.underlying31 rfl rfl sz29 (by decide) (Ev.plain rfl) rfl optN ?_
    refine ARun.loadPe rfl rfl rfl rfl Tryz.underlying29 rfl (Ev.plain rfl) rfl optN ?_
    refine ARun.callSet (j := 0) hG rfl rfl rfl rfl cf117 (Ev.plain rfl) (.cons (Ev.plain rfl) (.cons (Ev.plain rfl) .nil)) rfl (row_w (wrNums WrS.new [c.code]) c.nums (by omega) (by omega) hf _ _ ((hG.at _ _).trans rfl)) rfl optN ?_
    refine ⟨_, _, rfl, hG, ?_⟩
    refine thenA_n ?_
    refine AWP.seq ?_
    refine AWP.region (fun _ => ?_)
    refine ARun.callSet (j := 0) hG rfl rfl rfl rfl cf118 (Ev.plain rfl) (.cons (Ev.plain rfl) .nil) rfl (done_w (layR c) _ _ ((hG.at _ _).trans rfl)) rfl optN ?_
    refine ARun.extract rfl rfl rfl rfl (Ev.plain rfl) rfl optN ?_
    refine ARun.extract rfl rfl rfl rfl (Ev.plain rfl) rfl optN ?_
    refine ARun.move (.inr rfl) rfl rfl rfl (Ev.plain rfl) optN ?_
    refine ARun.move (.inr rfl) rfl rfl rfl (Ev.plain rfl) optN ?_
    refine ⟨_, _, rfl, hG, ?_⟩
    refine thenA_n ?_
    refine AWP.ret ?_
    refine endF.many (.inr rfl) (rs := [.tmp 2, .tmp 3]) rfl (.cons (.tmp rfl) (.cons (.tmp rfl) .nil)) (by simp) ?_ hN
    rw [putR, if_pos he, hlay, he]; rfl
set_option maxHeartbeats 1000000 in
theorem takeR_c (s : ByteArray) (hs : s.size ≤ 1000000) : FnP Tryz.prog 24 [.str s] (.tup [aRp (takeR s), aEr (takeRErr s)]) := by
  refine FnP.of Tryz.func24 rfl rfl (by simp) (by simp [AV.cells, aIn, aOut, aLn, aCl, aRp]) (fun G hG => ?_)
  have hN : NoH G.length (.tup [aRp (takeR s), aEr (takeRErr s)]) := (by simp [AV.cells, aIn, aOut, aLn, aCl, aRp])
  refine AWP.seq ?_
  refine AWP.region (fun _ => ?_)
  refine ARun.alloc (j := 0) hG rfl rfl rfl rfl rfl zv31 rfl optN ?_
  refine ARun.move (.inr rfl) rfl rfl rfl (Ev.plain rfl) optN ?_
  refine ⟨_, _, rfl, hG, ?_⟩
  refine thenA_n ?_
  refine AWP.seq ?_
  refine AWP.region (fun _ => ?_)
  refine ARun.move (.inl rfl) rfl rfl rfl (Ev.plain rfl) optN ?_
  refine ARun.callNewB (j := 1) hG rfl rfl rfl rfl rfl cf56 (Ev.plain rfl) (.cons (Ev.plain rfl) .nil) rfl (newr_fn s) optN ?_
  refine ARun.move (.inr rfl) rfl rfl rfl (Ev.plain rfl) optN ?_
  refine ⟨_, _, rfl, hG, ?_⟩
  refine thenA_n ?_
  refine AWP.seq ?_
  refine AWP.region (fun _ => ?_)
  refine ARun.move (.inl rfl) rfl rfl rfl (Ev.plain rfl) optN ?_
  refine ARun.callSet (j := 1) hG rfl rfl rfl rfl cf57 (Ev.plain rfl) (.cons (Ev.plain rfl) (.cons (Ev.plain rfl) .nil)) rfl (num_r (RdS.new s) 255 (rd_new_ok hs) _ _ ((hG.at _ _).trans rfl)) rfl optN ?_
  refine ARun.move (.inl rfl) rfl rfl rfl (Ev.plain rfl) optN ?_
  refine ARun.callSet (j := 1) hG rfl rfl rfl rfl cf58 (Ev.plain rfl) (.cons (Ev.plain rfl) (.cons (Ev.plain rfl) .nil)) rfl (row_r (rdNum (RdS.new s) 255).1 20 (rdNum_ok (rd_new_ok hs) _) _ _ ((hG.at _ _).trans rfl)) rfl optN ?_
  refine ARun.build rfl rfl rfl rfl so31 (.cons (Ev.plain rfl) (.cons (Ev.plain rfl) .nil)) rfl rfl optN ?_
  refine ARun.alloc (j := 2) hG rfl rfl rfl rfl rfl zv31 rfl optN ?_
  refine ARun.storeL hG rfl rfl rfl sz31 (Ev.plain rfl) (Ev.plain rfl) rfl rfl rfl rfl rfl (Nat.le_of_ble_eq_true rfl) rfl rfl ?_
  refine ⟨_, _, rfl, hG, ?_⟩
  refine thenA_n ?_
  refine AWP.seq ?_
  refine AWP.region (fun _ => ?_)
  refine ARun.move (.inl rfl) rfl rfl rfl (Ev.plain rfl) optN ?_
  refine ARun.callSet (j := 1) hG rfl rfl rfl rfl cf59 (Ev.plain rfl) (.cons (Ev.plain rfl) .nil) rfl (end_r (rdRow (rdNum (RdS.new s) 255).1 20).1 (rdRow_ok (rdNum_ok (rd_new_ok hs) _) _) _ _ ((hG.at _ _).trans rfl)) rfl optN ?_
  refine ⟨_, _, rfl, hG, ?_⟩
  refine thenA_n ?_
  refine AWP.seq ?_
  refine AWP.seq ?_
  refine AWP.region (fun _ => ?_)
  refine ARun.move (.inl rfl) rfl rfl rfl (Ev.plain rfl) optN ?_
  refine ARun.callR rfl rfl rfl rfl cf60 (Ev.plain rfl) (.cons (Ev.plain rfl) .nil) rfl (fun hg => FnM.keep (rdone_fn (rdReply s).1) ((hG.at _ _).trans rfl)) optN ?_
  refine ARun.move (.inr rfl) rfl rfl rfl (Ev.plain rfl) optN ?_
  refine ⟨_, _, rfl, hG, ?_⟩
  refine thenA_n ?_
  refine AWP.seq ?_
  refine AWP.region (fun _ => ?_)
  refine ARun.move (.inl rfl) rfl rfl rfl (Ev.plain rfl) optN ?_
  refine ARun.isNil rfl rfl rfl rfl Tryz.underlying53 (Ev.plain rfl) (fun hg => by first | rfl | exact nilA_aEr _) (.inr ⟨rfl, rfl⟩) optN ?_
  refine ⟨_, _, rfl, hG, ?_⟩
  refine thenA_n ?_
  refine AWP.cond rfl (fun h0 => ?_) (fun h0 => ?_)
  · skip
    have he : (rdReply s).1.e ≠ 0 := by simpa [errOf_none] using h0
    refine AWP.seq ?_
    refine AWP.region (fun _ => ?_)
    refine ARun.build rfl rfl rfl rfl so31 .nil rfl rfl optN ?_
    refine ARun.move (.inl rfl) rfl rfl rfl (Ev.plain rfl) optN ?_
    refine ARun.call rfl rfl rfl rfl cf61 (Ev.plain rfl) (.cons (Ev.plain rfl) (.cons (Ev.plain rfl) .nil)) rfl (fun hg => wrap_fn tTake (errOf tRead (rdReply s).1.p (rdReply s).1.e)) optN ?_
    refine ARun.storeL hG rfl rfl rfl sz31 (Ev.plain rfl) (Ev.plain rfl) rfl rfl rfl rfl rfl (Nat.le_of_ble_eq_true rfl) rfl rfl ?_
    refine ARun.move (.inr rfl) rfl rfl rfl (Ev.plain rfl) optN ?_
    refine ⟨_, _, rfl, hG, ?_⟩
    refine thenA_n ?_
    refine AWP.ret ?_
    refine thenA_r ?_
    refine endF.many (.inr rfl) (rs := [.cell 2 31, .tmp 3]) rfl (.cons (.cellA rfl ((hG.at _ _).trans rfl) Tryz.underlying31 rfl sz31 rfl rfl) (.cons (.tmp rfl) .nil)) (by simp) ?_ hN
    rw [takeR, if_pos he]; rfl
  · skip
    have he : (rdReply s).1.e = 0 := by simpa [errOf_none] using h0
    refine AWP.skip ?_
    refine thenA_n ?_
    refine AWP.seq ?_
    refine AWP.region (fun _ => ?_)
    refine ARun.loadBoxA rfl rfl rfl rfl Tryz.underlying31 rfl sz31 (Ev.plain rfl) ((hG.at _ _).trans rfl) rfl rfl optN ?_
    refine ARun.storeL hG rfl rfl rfl sz31 (Ev.plain rfl) (Ev.plain rfl) rfl rfl rfl rfl rfl (Nat.le_of_ble_eq_true rfl) rfl rfl ?_
    refine ARun.move (.inr rfl) rfl rfl rfl (Ev.plain rfl) optN ?_
    refine ⟨_, _, rfl, hG, ?_⟩
    refine thenA_n ?_
    refine AWP.ret ?_
    refine endF.many (.inr rfl) (rs := [.cell 2 31, .tmp 3]) rfl (.cons (.cellA rfl ((hG.at _ _).trans rfl) Tryz.underlying31 rfl sz31 rfl rfl) (.cons (.tmp rfl) .nil)) (by simp) ?_ hN
    rw [takeR, if_neg (by omega), takeRErr, he]; rfl
set_option maxHeartbeats 1000000 in
theorem take_c (s : ByteArray) (hs : s.size ≤ 1000000) : FnP Tryz.prog 23 [.str s] (.tup [aCl (takeC s), aEr (takeErr s)]) := by
  have hrl := rdRow_len (sixR s 6) 10
  refine FnP.of Tryz.func23 rfl rfl (by simp) (by simp [AV.cells, aIn, aOut, aLn, aCl, aRp]) (fun G hG => ?_)
  have hN : NoH G.length (.tup [aCl (takeC s), aEr (takeErr s)]) := (by simp [AV.cells, aIn, aOut, aLn, aCl, aRp])
  refine AWP.seq ?_
  refine AWP.region (fun _ => ?_)
  refine ARun.alloc (j := 0) hG rfl rfl rfl rfl rfl zv25 rfl optN ?_
  refine ARun.move (.inr rfl) rfl rfl rfl (Ev.plain rfl) optN ?_
  refine ⟨_, _, rfl, hG, ?_⟩
  refine thenA_n ?_
  refine AWP.seq ?_
  refine AWP.region (fun _ => ?_)
  refine ARun.move (.inl rfl) rfl rfl rfl (Ev.plain rfl) optN ?_
  refine ARun.callNewB (j := 1) hG rfl rfl rfl rfl rfl cf56 (Ev.plain rfl) (.cons (Ev.plain rfl) .nil) rfl (newr_fn s) optN ?_
  refine ARun.move (.inr rfl) rfl rfl rfl (Ev.plain rfl) optN ?_
  refine ⟨_, _, rfl, hG, ?_⟩
  refine thenA_n ?_
  refine AWP.seq ?_
  refine AWP.region (fun _ => ?_)
  refine ARun.move (.inl rfl) rfl rfl rfl (Ev.plain rfl) optN ?_
  refine ARun.makeFunc rfl rfl rfl rfl (.cons (Ev.plain rfl) .nil) .nil optN ?_
  refine ARun.move (.inr rfl) rfl rfl rfl (Ev.plain rfl) optN ?_
  refine ⟨_, _, rfl, hG, ?_⟩
  refine thenA_n ?_
  refine AWP.seq ?_
  refine AWP.region (fun _ => ?_)
  refine ARun.move (.inl rfl) rfl rfl rfl (Ev.plain rfl) optN ?_
  refine ARun.callSet (j := 1) hG rfl rfl rfl rfl cf57 (Ev.plain rfl) (.cons (Ev.plain rfl) .nil) rfl (num_r (sixR s 0) 2000000 (sixR_ok hs 0) _ _ ((hG.at _ _).trans rfl)) rfl optN ?_
  refine ARun.move (.inl rfl) rfl rfl rfl (Ev.plain rfl) optN ?_
  refine ARun.callSet (j := 1) hG rfl rfl rfl rfl cf57 (Ev.plain rfl) (.cons (Ev.plain rfl) .nil) rfl (num_r (sixR s 1) 2000000 (sixR_ok hs 1) _ _ ((hG.at _ _).trans rfl)) rfl optN ?_
  refine ARun.move (.inl rfl) rfl rfl rfl (Ev.plain rfl) optN ?_
  refine ARun.callSet (j := 1) hG rfl rfl rfl rfl cf57 (Ev.plain rfl) (.cons (Ev.plain rfl) .nil) rfl (num_r (sixR s 2) 2000000 (sixR_ok hs 2) _ _ ((hG.at _ _).trans rfl)) rfl optN ?_
  refine ARun.move (.inl rfl) rfl rfl rfl (Ev.plain rfl) optN ?_
  refine ARun.callSet (j := 1) hG rfl rfl rfl rfl cf57 (Ev.plain rfl) (.cons (Ev.plain rfl) .nil) rfl (num_r (sixR s 3) 2000000 (sixR_ok hs 3) _ _ ((hG.at _ _).trans rfl)) rfl optN ?_
  refine ARun.move (.inl rfl) rfl rfl rfl (Ev.plain rfl) optN ?_
  refine ARun.callSet (j := 1) hG rfl rfl rfl rfl cf57 (Ev.plain rfl) (.cons (Ev.plain rfl) .nil) rfl (num_r (sixR s 4) 2000000 (sixR_ok hs 4) _ _ ((hG.at _ _).trans rfl)) rfl optN ?_
  refine ARun.move (.inl rfl) rfl rfl rfl (Ev.plain rfl) optN ?_
  refine ARun.callSet (j := 1) hG rfl rfl rfl rfl cf57 (Ev.plain rfl) (.cons (Ev.plain rfl) .nil) rfl (num_r (sixR s 5) 2000000 (sixR_ok hs 5) _ _ ((hG.at _ _).trans rfl)) rfl optN ?_
  refine ARun.buildNil (e := 108) (z := 2) (j := 2) (p := 6) hG rfl rfl rfl rfl rfl so25 rfl (.cons (Ev.plain rfl) (.cons (Ev.plain rfl) (.cons (Ev.plain rfl) (.cons (Ev.plain rfl) (.cons (Ev.plain rfl) (.cons (Ev.plain rfl) .nil)))))) rfl rfl optN ?_
  refine ARun.alloc (j := 3) hG rfl rfl rfl rfl rfl zv25 rfl optN ?_
  refine ARun.storeL hG rfl rfl rfl sz25 (Ev.plain rfl) (Ev.plain rfl) rfl rfl rfl rfl rfl (Nat.le_of_ble_eq_true rfl) rfl rfl ?_
  refine ⟨_, _, rfl, hG, ?_⟩
  refine thenA_n ?_
  refine AWP.seq ?_
  refine AWP.region (fun _ => ?_)
  refine ARun.move (.inl rfl) rfl rfl rfl (Ev.plain rfl) optN ?_
  refine ARun.callSet (j := 1) hG rfl rfl rfl rfl cf58 (Ev.plain rfl) (.cons (Ev.plain rfl) (.cons (Ev.plain rfl) .nil)) rfl (row_r (sixR s 6) 10 (sixR_ok hs 6) _ _ ((hG.at _ _).trans rfl)) rfl optN ?_
  refine ARun.move (.inr rfl) rfl rfl rfl (Ev.plain rfl) optN ?_
  refine ⟨_, _, rfl, hG, ?_⟩
  refine thenA_n ?_
  refine AWP.seq ?_
  refine AWP.region (fun _ => ?_)
  refine ARun.move (.inl rfl) rfl rfl rfl (Ev.plain rfl) optN ?_
  refine ARun.callSet (j := 1) hG rfl rfl rfl rfl cf59 (Ev.plain rfl) (.cons (Ev.plain rfl) .nil) rfl (end_r (rdRow (sixR s 6) 10).1 (rdRow_ok (sixR_ok hs 6) _) _ _ ((hG.at _ _).trans rfl)) rfl optN ?_
  refine ⟨_, _, rfl, hG, ?_⟩
  refine thenA_n ?_
  refine AWP.seq ?_
  refine AWP.seq ?_
  refine AWP.region (fun _ => ?_)
  refine ARun.move (.inl rfl) rfl rfl rfl (Ev.plain rfl) optN ?_
  refine ARun.callR rfl rfl rfl rfl cf60 (Ev.plain rfl) (.cons (Ev.plain rfl) .nil) rfl (fun hg => FnM.keep (rdone_fn (rdCall s).1) ((hG.at _ _).trans rfl)) optN ?_
  refine ARun.move (.inr rfl) rfl rfl rfl (Ev.plain rfl) optN ?_
  refine ⟨_, _, rfl, hG, ?_⟩
  refine thenA_n ?_
  refine AWP.seq ?_
  refine AWP.region (fun _ => ?_)
  refine ARun.move (.inl rfl) rfl rfl rfl (Ev.plain rfl) optN ?_
  refine ARun.isNil rfl rfl rfl rfl Tryz.underlying53 (Ev.plain rfl) (fun hg => by first | rfl | exact nilA_aEr _) (.inr ⟨rfl, rfl⟩) optN ?_
  refine ⟨_, _, rfl, hG, ?_⟩
  refine thenA_n ?_
  refine AWP.cond rfl (fun h0 => ?_) (fun h0 => ?_)
  · skip
    have he : (rdCall s).1.e ≠ 0 := by simpa [errOf_none] using h0
    refine AWP.seq ?_
    refine AWP.region (fun _ => ?_)
    refine ARun.build rfl rfl rfl rfl so25 .nil rfl rfl optN ?_
    refine ARun.move (.inl rfl) rfl rfl rfl (Ev.plain rfl) optN ?_
    refine ARun.call rfl rfl rfl rfl cf61 (Ev.plain rfl) (.cons (Ev.plain rfl) (.cons (Ev.plain rfl) .nil)) rfl (fun hg => wrap_fn tTake (errOf tRead (rdCall s).1.p (rdCall s).1.e)) optN ?_
    refine ARun.storeL hG rfl rfl rfl sz25 (Ev.plain rfl) (Ev.plain rfl) rfl rfl rfl rfl rfl (Nat.le_of_ble_eq_true rfl) rfl rfl ?_
    refine ARun.move (.inr rfl) rfl rfl rfl (Ev.plain rfl) optN ?_
    refine ⟨_, _, rfl, hG, ?_⟩
    refine thenA_n ?_
    refine AWP.ret ?_
    refine thenA_r ?_
    refine endF.many (.inr rfl) (rs := [.cell 2 25, .tmp 3]) rfl (.cons (.cellA rfl ((hG.at _ _).trans rfl) Tryz.underlying25 rfl sz25 rfl rfl) (.cons (.tmp rfl) .nil)) (by simp) ?_ hN
    have ht : takeE s ≠ 0 := by rw [takeE, if_pos he]; exact he
    rw [takeC, if_neg ht, takeErr, if_pos he]; rfl
  · skip
    have he : (rdCall s).1.e = 0 := by simpa [errOf_none] using h0
    refine AWP.skip ?_
    refine thenA_n ?_
    refine AWP.seq ?_
    refine AWP.seq ?_
    refine AWP.region (fun _ => ?_)
    refine ARun.move (.inl rfl) rfl rfl rfl (Ev.plain rfl) optN ?_
    refine ARun.lenSl rfl rfl rfl rfl Tryz.underlying29 (Ev.plain rfl) optN ?_
    refine ARun.remI rfl rfl rfl rfl (Ev.plain rfl) (Ev.plain rfl) (fun _ => by decide) optN ?_
    refine ARun.cmp rfl rfl rfl rfl (Ev.plain rfl) (Ev.plain rfl) rfl optN ?_
    refine ⟨_, _, rfl, hG, ?_⟩
    refine thenA_n ?_
    refine AWP.cond rfl (fun h1 => ?_) (fun h1 => ?_)
    · skip
      simp at h1
      have h1p : (((rdRow (sixR s 6) 10).2.length % 2 : Nat) : Int) ≠ 0 := h1
      refine AWP.seq ?_
      refine AWP.region (fun _ => ?_)
      refine ARun.build rfl rfl rfl rfl so25 .nil rfl rfl optN ?_
      refine ARun.call rfl rfl rfl rfl cf62 (Ev.plain rfl) (.cons (Ev.plain rfl) (.cons (Ev.plain rfl) .nil)) rfl (fun hg => new_fn tTake 5) optN ?_
      refine ARun.storeL hG rfl rfl rfl sz25 (Ev.plain rfl) (Ev.plain rfl) rfl rfl rfl rfl rfl (Nat.le_of_ble_eq_true rfl) rfl rfl ?_
      refine ARun.move (.inr rfl) rfl rfl rfl (Ev.plain rfl) optN ?_
      refine ⟨_, _, rfl, hG, ?_⟩
      refine thenA_n ?_
      refine AWP.ret ?_
      refine thenA_r ?_
      refine endF.many (.inr rfl) (rs := [.cell 2 25, .tmp 3]) rfl (.cons (.cellA rfl ((hG.at _ _).trans rfl) Tryz.underlying25 rfl sz25 rfl rfl) (.cons (.tmp rfl) .nil)) (by simp) ?_ hN
      have h1q : (rdCall s).2.2.length % 2 = 1 := by show (rdRow (sixR s 6) 10).2.length % 2 = 1; omega
      have ht : takeE s ≠ 0 := by rw [takeE, if_neg (by omega), if_pos h1q]; decide
      rw [takeC, if_neg ht, takeErr, if_neg (by omega), if_pos h1q]; rfl
    · skip
      simp at h1
      have h1p : (((rdRow (sixR s 6) 10).2.length % 2 : Nat) : Int) = 0 := h1
      refine AWP.skip ?_
      refine thenA_n ?_
      refine AWP.seq ?_
      refine AWP.seq ?_
      refine AWP.region (fun _ => ?_)
      refine ARun.move (.inr rfl) rfl rfl rfl (Ev.plain rfl) optN ?_
      refine ⟨_, _, rfl, hG, ?_⟩
      refine thenA_n ?_
      refine AWP.block ?_
      refine AWP.rounds (fun st => 2 * st.1 ≤ (rdRow (sixR s 6) 10).2.length) (fun st => [(2, .box (G.length + 0) 0), (6, .box (G.length + 3) 0), (7, .sl ((rdRow (sixR s 6) 10).2.map (AV.int .i64))), (9, .int .i64 ((2 * st.1 : Nat) : Int))]) (fun st => [.box [.int .i64 0, .int .i64 0, .int .i64 0, .int .i64 0, .int .i64 0, .int .i64 0, .sl []], .box (aRd (rdCall s).1), .row st.2 108 2 ((pairsL ((rdRow (sixR s 6) 10).2.take (2 * st.1))).map aLn), .box [.int .i64 (sixN s 0), .int .i64 (sixN s 1), .int .i64 (sixN s 2), .int .i64 (sixN s 3), .int .i64 (sixN s 4), .int .i64 (sixN s 5), .own (G.length + 2) st.2]]) (fun st => (rdRow (sixR s 6) 10).2.length - 2 * st.1) 4 ((0, 0) : Nat × Nat) (Nat.zero_le _) (by repeat (first | exact .nil | refine .cons rfl ?_)) rfl (fun _ => rfl) (fun _ => ⟨by simp [AV.cells], by simp [AO.conts, aRd, aLn, AV.cells]; rintro y a _ (rfl | rfl) <;> simp⟩) (fun st hI => ?_)
      obtain ⟨k, g⟩ := st
      dsimp only at hI
      show AWP _ _ _ _ _ [(2, .box (G.length + 0) 0), (6, .box (G.length + 3) 0), (7, .sl ((rdRow (sixR s 6) 10).2.map (AV.int .i64))), (9, .int .i64 ((2 * k : Nat) : Int))] _ [.box [.int .i64 0, .int .i64 0, .int .i64 0, .int .i64 0, .int .i64 0, .int .i64 0, .sl []], .box (aRd (rdCall s).1), .row g 108 2 ((pairsL ((rdRow (sixR s 6) 10).2.take (2 * k))).map aLn), .box [.int .i64 (sixN s 0), .int .i64 (sixN s 1), .int .i64 (sixN s 2), .int .i64 (sixN s 3), .int .i64 (sixN s 4), .int .i64 (sixN s 5), .own (G.length + 2) g]]
      refine AWP.seq ?_
      refine AWP.seq ?_
      refine AWP.region (fun _ => ?_)
      refine ARun.move (.inl rfl) rfl rfl rfl (Ev.plain rfl) optN ?_
      refine ARun.move (.inl rfl) rfl rfl rfl (Ev.plain rfl) optN ?_
      refine ARun.lenSl rfl rfl rfl rfl Tryz.underlying29 (Ev.plain rfl) optN ?_
      refine ARun.cmp rfl rfl rfl rfl (Ev.plain rfl) (Ev.plain rfl) rfl optN ?_
      refine ⟨_, _, rfl, hG, ?_⟩
      refine thenA_n ?_
      refine AWP.cond rfl (fun h2 => ?_) (fun h2 => ?_)
      · skip
        try simp [-List.getD_eq_getElem?_getD] at h2
        refine AWP.skip ?_
        refine thenA_n ?_
        refine AWP.seq ?_
        refine AWP.block ?_
        refine AWP.draw mixed (by kernel_rfl) (fun _ => ?_)
        refine ARun.fieldBox (fo := 6) rfl rfl rfl rfl Tryz.underlying25 rfl rfl sz23 (by decide) (Ev.plain rfl) ((hG.at _ _).trans rfl) optN ?_
        refine ARun.loadBox rfl rfl rfl rfl Tryz.underlying23 rfl (Ev.plain rfl) ((hG.at _ _).trans rfl) rfl optN ?_
        refine ARun.move (.inl rfl) rfl rfl rfl (Ev.plain rfl) optN ?_
        refine ARun.move (.inl rfl) rfl rfl rfl (Ev.plain rfl) optN ?_
        first | refine ARun.indexSl rfl rfl rfl rfl Tryz.underlying29 sz3 (Ev.plain rfl) (Ev.plain rfl) (fun _ => rfl) (fun hg => getMap _ _ _ (by (try simp at hg); omega)) rfl rfl optN ?_ | refine ARun.indexSl rfl rfl rfl rfl Tryz.underlying29 sz3 (Ev.plain rfl) (Ev.plain rfl) (fun hg => ofNonneg (by (try simp at hg); omega)) (fun hg => getMap _ _ _ (by (try simp at hg); omega)) rfl rfl optN ?_
        refine ARun.loadPe rfl rfl rfl rfl Tryz.underlying3 rfl (Ev.plain rfl) rfl optN ?_
        refine ARun.move (.inl rfl) rfl rfl rfl (Ev.plain rfl) optN ?_
        refine ARun.move (.inl rfl) rfl rfl rfl (Ev.plain rfl) optN ?_
        first | refine ARun.arith rfl rfl rfl rfl (Ev.plain rfl) (Ev.plain rfl) rfl (fun hg => i64w (by (try simp at hg); omega)) optN ?_ | refine ARun.arith rfl rfl rfl rfl (Ev.plain rfl) (Ev.plain rfl) rfl (fun _ => rfl) optN ?_
        first | refine ARun.indexSl rfl rfl rfl rfl Tryz.underlying29 sz3 (Ev.plain rfl) (Ev.plain rfl) (fun _ => rfl) (fun hg => getMap _ _ _ (by (try simp at hg); omega)) rfl rfl optN ?_ | refine ARun.indexSl rfl rfl rfl rfl Tryz.underlying29 sz3 (Ev.plain rfl) (Ev.plain rfl) (fun hg => ofNonneg (by (try simp at hg); omega)) (fun hg => getMap _ _ _ (by (try simp at hg); omega)) rfl rfl optN ?_
        refine ARun.loadPe rfl rfl rfl rfl Tryz.underlying3 rfl (Ev.plain rfl) rfl optN ?_
        refine ARun.build rfl rfl rfl rfl so108 (.cons (Ev.plain rfl) (.cons (Ev.plain rfl) .nil)) rfl rfl optN ?_
        refine ARun.buildSl rfl rfl rfl rfl Tryz.underlying23 sz108 zv108 rfl (by decide) (.cons (Ev.plain rfl) .nil) rfl rfl rfl rfl (by decide) rfl rfl optN ?_
        refine ARun.appendL hG rfl rfl rfl rfl Tryz.underlying23 ti108 rfl (by decide) (Ev.plain rfl) (Ev.plain rfl) rfl rfl (by have := pairsL_len (((rdRow (sixR s 6) 10).2).take (2 * k)); simp only [List.length_take] at this; simp [maxLen]; omega) (by have := pairsL_len (((rdRow (sixR s 6) 10).2).take (2 * k)); simp only [List.length_take] at this; simp; omega) (pair_snoc (rdRow (sixR s 6) 10).2 k (by omega)) optN rfl ?_
        refine ARun.fieldBox (fo := 6) rfl rfl rfl rfl Tryz.underlying25 rfl rfl sz23 (by decide) (Ev.plain rfl) ((hG.at _ _).trans rfl) optN ?_
        refine ARun.storeL1 hG rfl rfl rfl sz23 (Ev.plain rfl) (Ev.plain rfl) rfl (by first | rfl | exact aEr_one _ | exact aFl_one _) (Nat.le_of_ble_eq_true rfl) rfl rfl ?_
        refine ⟨by kernel_rfl, _, _, rfl, hG, ?_⟩
        refine blockA_n ?_
        refine thenA_n ?_
        refine AWP.region (fun _ => ?_)
        refine ARun.move (.inl rfl) rfl rfl rfl (Ev.plain rfl) optN ?_
        first | refine ARun.arith rfl rfl rfl rfl (Ev.plain rfl) (Ev.plain rfl) rfl (fun hg => i64w (by (try simp at hg); omega)) optN ?_ | refine ARun.arith rfl rfl rfl rfl (Ev.plain rfl) (Ev.plain rfl) rfl (fun _ => rfl) optN ?_
        refine ARun.move (.inr rfl) rfl rfl rfl (Ev.plain rfl) optN ?_
        refine ⟨_, _, rfl, hG, ?_⟩
        refine thenA_n ⟨rfl, (k + 1, g + 1), _, ?_, ?_, rfl, ?_⟩
        · dsimp only; omega
        · repeat (first | exact .nil | refine .cons rfl ?_)
        · dsimp only; omega
      · skip
        simp at h2
        have hk2 : 2 * k = (rdRow (sixR s 6) 10).2.length := by omega
        rw [hk2, List.take_length]
        refine AWP.exit ?_
        refine thenA_x ?_
        refine thenA_x ?_
        refine blockA_h ?_
        refine thenA_n ?_
        refine AWP.seq ?_
        refine AWP.seq ?_
        refine AWP.frzIn (j := 2) (q := 3) (p := 6) hG rfl (by have := pairsL_len (rdRow (sixR s 6) 10).2; have := rdRow_len (sixR s 6) 10; simp [maxLen]; omega) rfl rfl rfl ?_
        refine AWP.region (fun _ => ?_)
        refine ARun.loadBoxA rfl rfl rfl rfl Tryz.underlying25 rfl sz25 (Ev.plain rfl) ((hG.at _ _).trans rfl) rfl rfl optN ?_
        refine ARun.call rfl rfl rfl rfl cf28 (Ev.plain rfl) (.cons (Ev.plain rfl) .nil) rfl (fun hg => check_fn (mkCall (sixL s) (rdRow (sixR s 6) 10).2) (by have := pairsL_len (rdRow (sixR s 6) 10).2; show (pairsL (rdRow (sixR s 6) 10).2).length ≤ _; omega)) optN ?_
        refine ARun.move (.inr rfl) rfl rfl rfl (Ev.plain rfl) optN ?_
        refine ⟨_, _, rfl, hG, ?_⟩
        refine thenA_n ?_
        refine AWP.seq ?_
        refine AWP.region (fun _ => ?_)
        refine ARun.move (.inl rfl) rfl rfl rfl (Ev.plain rfl) optN ?_
        refine ARun.isNil rfl rfl rfl rfl Tryz.underlying53 (Ev.plain rfl) (fun hg => by first | rfl | exact nilA_aEr _) (.inr ⟨rfl, rfl⟩) optN ?_
        refine ⟨_, _, rfl, hG, ?_⟩
        refine thenA_n ?_
        refine AWP.cond rfl (fun h3 => ?_) (fun h3 => ?_)
        · skip
          simp [new_none] at h3
          refine AWP.seq ?_
          refine AWP.region (fun _ => ?_)
          refine ARun.build rfl rfl rfl rfl so25 .nil rfl rfl optN ?_
          refine ARun.move (.inl rfl) rfl rfl rfl (Ev.plain rfl) optN ?_
          refine ARun.call rfl rfl rfl rfl cf61 (Ev.plain rfl) (.cons (Ev.plain rfl) (.cons (Ev.plain rfl) .nil)) rfl (fun hg => wrap_fn tTake (Er.new tCall (checkP (mkCall (sixL s) (rdRow (sixR s 6) 10).2)))) optN ?_
          refine ARun.storeL hG rfl rfl rfl sz25 (Ev.plain rfl) (Ev.plain rfl) rfl rfl rfl rfl rfl (Nat.le_of_ble_eq_true rfl) rfl rfl ?_
          refine ARun.move (.inr rfl) rfl rfl rfl (Ev.plain rfl) optN ?_
          refine ⟨_, _, rfl, hG, ?_⟩
          refine thenA_n ?_
          refine AWP.ret ?_
          refine thenA_r ?_
          refine endF.many (.inr rfl) (rs := [.cell 2 25, .tmp 3]) rfl (.cons (.cellA rfl ((hG.at _ _).trans rfl) Tryz.underlying25 rfl sz25 rfl rfl) (.cons (.tmp rfl) .nil)) (by simp) ?_ hN
          have h1q : ¬ (rdCall s).2.2.length % 2 = 1 := by show ¬ (rdRow (sixR s 6) 10).2.length % 2 = 1; omega
          have ht : takeE s ≠ 0 := by rw [takeE, if_neg (by omega), if_neg h1q]; exact h3
          rw [takeC, if_neg ht, takeErr, if_neg (by omega), if_neg h1q]; rfl
        · skip
          simp [new_none] at h3
          refine AWP.skip ?_
          refine thenA_n ?_
          refine AWP.seq ?_
          refine AWP.region (fun _ => ?_)
          refine ARun.loadBoxA rfl rfl rfl rfl Tryz.underlying25 rfl sz25 (Ev.plain rfl) ((hG.at _ _).trans rfl) rfl rfl optN ?_
          refine ARun.storeL hG rfl rfl rfl sz25 (Ev.plain rfl) (Ev.plain rfl) rfl rfl rfl rfl rfl (Nat.le_of_ble_eq_true rfl) rfl rfl ?_
          refine ARun.move (.inr rfl) rfl rfl rfl (Ev.plain rfl) optN ?_
          refine ⟨_, _, rfl, hG, ?_⟩
          refine thenA_n ?_
          refine AWP.ret ?_
          refine endF.many (.inr rfl) (rs := [.cell 2 25, .tmp 3]) rfl (.cons (.cellA rfl ((hG.at _ _).trans rfl) Tryz.underlying25 rfl sz25 rfl rfl) (.cons (.tmp rfl) .nil)) (by simp) ?_ hN
          have h1q : ¬ (rdCall s).2.2.length % 2 = 1 := by show ¬ (rdRow (sixR s 6) 10).2.length % 2 = 1; omega
          have ht : takeE s = 0 := by rw [takeE, if_neg (by omega), if_neg h1q]; exact h3
          rw [takeC, if_pos ht, takeErr, if_neg (by omega), if_neg h1q, show checkP (mkCall (rdCall s).2.1 (rdCall s).2.2) = 0 from h3]; rfl
end Go.Proofs.YtgebpndhnkkbgaaGreatDoor
namespace Go.Proofs.YtgebpndhnkkbgaaGreatDoor.Stk
set_option linter.unusedVariables false
set_option linter.unusedSimpArgs false
open Go.RowKit
open StockP
set_option maxRecDepth 100000
abbrev holdF (ys : List It) (i q : Int) : List It × Int := withP (holdG q) ys i q
theorem ln_get {m : List Ln} {k : Nat} (h : k < m.length) : m.getD k default = m[k] := by simp [List.getD, h]
theorem stepL (m : List Ln) (k : Nat) (h : k < m.length) : okLFrom 0 (m.take (k + 1)) = (okLFrom 0 (m.take k) && decide (lastL 0 (m.take k) < (m.getD k default).item ∧ (m.getD k default).item ≤ 99999 ∧ 1 ≤ (m.getD k default).qty ∧ (m.getD k default).qty ≤ 1000000)) := by
  rw [ln_get h, show m.take (k + 1) = m.take k ++ [m[k]] by simp]; exact okLFrom_snoc _ _ _
theorem lastL_at (m : List Ln) (k : Nat) (h : k < m.length) : lastL 0 (m.take (k + 1)) = (m.getD k default).item := by
  rw [ln_get h, show m.take (k + 1) = m.take k ++ [m[k]] by simp]; exact lastL_snoc _ _ _
theorem lastL_ge (l : List Ln) : ∀ p, okLFrom p l = true → p ≤ lastL p l := by
  induction l with
  | nil => intro p _; exact Int.le_refl _
  | cons x l ih =>
    intro p h
    simp only [okLFrom, Bool.and_eq_true, decide_eq_true_eq] at h
    have := ih _ h.2
    show p ≤ lastL x.item l
    omega
theorem okLE_bad {m : List Ln} {k : Nat} (h : okLFrom 0 (m.take (k + 1)) = false) : okLE m = 2 := by
  unfold okLE okL; rw [okLFrom_cut h]; simp
theorem okLE_big {m : List Ln} (h : m.length < 1 ∨ 5 < m.length) : okLE m = 2 := by
  unfold okLE okL; rw [decide_eq_false (by omega)]; simp
theorem okLE_good {m : List Ln} (h : 1 ≤ m.length ∧ m.length ≤ 5) (h2 : okLFrom 0 (m.take m.length) = true) : okLE m = 0 := by
  rw [List.take_length] at h2
  unfold okLE okL; rw [decide_eq_true h, h2]; simp
theorem okLE_ok {m : List Ln} : okLE m = 0 ↔ okL m = true := by unfold okLE; split <;> simp_all
theorem okL_len {m : List Ln} (h : okL m = true) : 1 ≤ m.length ∧ m.length ≤ 5 := by unfold okL at h; simp at h; exact h.1
theorem okL_at {m : List Ln} (h : okL m = true) {k : Nat} (hk : k < m.length) : 1 ≤ (m.getD k default).qty ∧ (m.getD k default).qty ≤ 1000000 := by
  have h2 : okLFrom 0 m = true := by unfold okL at h; simp at h; exact h.2
  have := okLFrom_mem h2 m[k] (List.getElem_mem hk)
  rw [ln_get hk]; omega
theorem sumF_at (m : List Ln) (k : Nat) (h : k < m.length) : sumF (m.take (k + 1)) = sumF (m.take k) + (m.getD k default).qty := by
  rw [ln_get h, show m.take (k + 1) = m.take k ++ [m[k]] by simp]; exact sumF_snoc _ _
theorem sumF_bd {m : List Ln} (h : okL m = true) : ∀ k, k ≤ m.length → 0 ≤ sumF (m.take k) ∧ sumF (m.take k) ≤ 1000000 * (k : Int) := by
  intro k
  induction k with
  | zero => intro _; simp [sumF]
  | succ k ih =>
    intro hk
    have h1 := ih (by omega)
    have h2 := okL_at h (k := k) (by omega)
    rw [sumF_at m k (by omega)]; omega
theorem goes_step {fn : List It → Int → Int → List It × Int} {cur : List It} {m : List Ln} {k : Nat} (h : k < m.length) : goesP fn k cur (m.drop k) = if (fn cur (m.getD k default).item (m.getD k default).qty).2 ≠ 0 then ([], (k : Int), (fn cur (m.getD k default).item (m.getD k default).qty).2) else goesP fn ((k + 1 : Nat) : Int) (fn cur (m.getD k default).item (m.getD k default).qty).1 (m.drop (k + 1)) := by
  rw [List.drop_eq_getElem_cons h, ← ln_get h, goesP_cons]; rfl
theorem goes_end {fn : List It → Int → Int → List It × Int} {cur : List It} {m : List Ln} : goesP fn m.length cur (m.drop m.length) = (cur, (m.length : Int), 0) := by
  rw [List.drop_length]; rfl
theorem hold_len (l : List It) (i q : Int) : (holdF l i q).1.length ≤ l.length := with_len (holdG q) l i q
theorem allP_no {fn : List It → Int → Int → List It × Int} {l : List It} {m : List Ln} (h : ¬ (ok l = true ∧ okL m = true)) : allP fn l m = ([], 0, 2) := if_neg h
theorem allP_yes {fn : List It → Int → Int → List It × Int} {l : List It} {m : List Ln} (h : ok l = true ∧ okL m = true) : allP fn l m = goesP fn 0 l m := if_pos h
set_option maxHeartbeats 1000000 in
theorem checkL_fn (m : List Ln) : FnP Tryz.prog 137 [.sl (m.map aLn)] (.int .i64 (okLE m)) := by
  refine FnP.of Tryz.func137 rfl rfl (by simp) (by simp [AV.cells, aIt, aLn]) (fun G hG => ?_)
  have hN : NoH G.length (.int .i64 (okLE m)) := (by simp [AV.cells, aIt, aLn])
  refine AWP.seq ?_
  refine AWP.region (fun _ => ?_)
  refine ARun.move (.inr rfl) rfl rfl rfl (Ev.plain rfl) optN ?_
  refine ⟨_, _, rfl, hG, ?_⟩
  refine thenA_n ?_
  refine AWP.seq ?_
  refine AWP.seq ?_
  refine AWP.region (fun _ => ?_)
  refine ARun.move (.inl rfl) rfl rfl rfl (Ev.plain rfl) optN ?_
  refine ARun.lenSl rfl rfl rfl rfl Tryz.underlying23 (Ev.plain rfl) optN ?_
  refine ARun.cmp rfl rfl rfl rfl (Ev.plain rfl) (Ev.plain rfl) rfl optN ?_
  refine ARun.move (.inl rfl) rfl rfl rfl (Ev.plain rfl) optN ?_
  refine ARun.move (.inl rfl) rfl rfl rfl (Ev.plain rfl) optS ?_
  refine ARun.lenSl rfl rfl rfl rfl Tryz.underlying23 (Ev.opt rfl (fun h => h)) optS ?_
  refine ARun.cmp rfl rfl rfl rfl (Ev.opt rfl (fun h => h)) (Ev.plain rfl) rfl optS ?_
  refine ARun.pick rfl rfl rfl rfl (Ev.plain rfl) (Ev.plain rfl) (Ev.opt rfl (by first | exact pkF | exact pkF2 | simp +contextual)) (orB _ _) optN ?_
  refine ⟨_, _, rfl, hG, ?_⟩
  refine thenA_n ?_
  refine AWP.cond rfl (fun h0 => ?_) (fun h0 => ?_)
  · skip
    simp only [Bool.or_eq_true, decide_eq_true_eq, List.length_map] at h0
    refine AWP.seq ?_
    refine AWP.region (fun _ => ?_)
    refine ARun.move (.inr rfl) rfl rfl rfl (Ev.plain rfl) optN ?_
    refine ⟨_, _, rfl, hG, ?_⟩
    refine thenA_n ?_
    refine AWP.ret ?_
    refine thenA_r ?_
    refine endF.one (.inr rfl) rfl (.tmp rfl) ?_ hN
    rw [okLE_big (by omega)]; rfl
  · skip
    simp only [Bool.or_eq_false_iff, decide_eq_false_iff_not, List.length_map] at h0
    refine AWP.skip ?_
    refine thenA_n ?_
    refine AWP.seq ?_
    refine AWP.region (fun _ => ?_)
    refine ARun.move (.inr rfl) rfl rfl rfl (Ev.plain rfl) optN ?_
    refine ⟨_, _, rfl, hG, ?_⟩
    refine thenA_n ?_
    refine AWP.seq ?_
    refine AWP.seq ?_
    refine AWP.region (fun _ => ?_)
    refine ARun.move (.inl rfl) rfl rfl rfl (Ev.plain rfl) optN ?_
    refine ARun.lenSl rfl rfl rfl rfl Tryz.underlying23 (Ev.plain rfl) optN ?_
    refine ARun.move (.inl rfl) rfl rfl rfl (Ev.plain rfl) optN ?_
    refine ⟨_, _, rfl, hG, ?_⟩
    refine thenA_n ?_
    refine AWP.block ?_
    refine AWP.rounds (fun k => k ≤ m.length ∧ okLFrom 0 (m.take k) = true) (fun k => [(3, .int .i64 (lastL 0 (m.take k))), (14, .sl (m.map aLn)), (15, .int .i64 ((m.map aLn).length : Int)), (16, .int .i64 (k : Int))]) (fun k => []) (fun k => m.length - k) 0 0 ⟨by omega, rfl⟩ (by repeat (first | exact .nil | refine .cons rfl ?_)) rfl (fun _ => rfl) (fun _ => (by simp [AO.conts, AV.cells, aIt, aLn])) (fun k hI => ?_)
    obtain ⟨hk, hok⟩ := hI
    refine AWP.seq ?_
    refine AWP.region (fun _ => ?_)
    refine ARun.cmp rfl rfl rfl rfl (Ev.plain rfl) (Ev.plain rfl) rfl optN ?_
    refine ⟨_, _, rfl, hG, ?_⟩
    refine thenA_n ?_
    refine AWP.seq ?_
    refine AWP.cond rfl (fun h1 => ?_) (fun h1 => ?_)
    · skip
      try simp [-List.getD_eq_getElem?_getD] at h1
      refine AWP.skip ?_
      refine thenA_n ?_
      refine AWP.seq ?_
      refine AWP.block ?_
      refine AWP.seq ?_
      refine AWP.region (fun _ => ?_)
      first | refine ARun.indexSl rfl rfl rfl rfl Tryz.underlying23 sz108 (Ev.plain rfl) (Ev.plain rfl) (fun _ => rfl) (fun hg => getMap _ _ _ (by (try simp at hg); omega)) rfl rfl optN ?_ | refine ARun.indexSl rfl rfl rfl rfl Tryz.underlying23 sz108 (Ev.plain rfl) (Ev.plain rfl) (fun hg => ofNonneg (by (try simp at hg); omega)) (fun hg => getMap _ _ _ (by (try simp at hg); omega)) rfl rfl optN ?_
      refine ARun.loadPeA rfl rfl rfl rfl Tryz.underlying108 rfl sz108 (Ev.plain rfl) rfl optN ?_
      refine ARun.alloc (j := 0) hG rfl rfl rfl rfl rfl zv108 rfl optN ?_
      refine ARun.storeL hG rfl rfl rfl sz108 (Ev.plain rfl) (Ev.plain rfl) rfl rfl rfl rfl rfl (Nat.le_of_ble_eq_true rfl) rfl rfl ?_
      refine ⟨_, _, rfl, hG, ?_⟩
      refine thenA_n ?_
      refine AWP.seq ?_
      refine AWP.seq ?_
      refine AWP.region (fun _ => ?_)
      refine ARun.fieldBox (fo := 0) rfl rfl rfl rfl Tryz.underlying108 rfl rfl sz3 (by decide) (Ev.plain rfl) ((hG.at _ _).trans rfl) optN ?_
      refine ARun.loadBox rfl rfl rfl rfl Tryz.underlying3 rfl (Ev.plain rfl) ((hG.at _ _).trans rfl) rfl optN ?_
      refine ARun.move (.inl rfl) rfl rfl rfl (Ev.plain rfl) optN ?_
      refine ARun.cmp rfl rfl rfl rfl (Ev.plain rfl) (Ev.plain rfl) rfl optN ?_
      refine ARun.move (.inl rfl) rfl rfl rfl (Ev.plain rfl) optN ?_
      refine ARun.fieldBox (fo := 0) rfl rfl rfl rfl Tryz.underlying108 rfl rfl sz3 (by decide) (Ev.plain rfl) ((hG.at _ _).trans rfl) optS ?_
      refine ARun.loadBox rfl rfl rfl rfl Tryz.underlying3 rfl (Ev.opt rfl (fun h => h)) ((hG.at _ _).trans rfl) rfl optS ?_
      refine ARun.cmp rfl rfl rfl rfl (Ev.opt rfl (fun h => h)) (Ev.plain rfl) rfl optS ?_
      refine ARun.pick rfl rfl rfl rfl (Ev.plain rfl) (Ev.plain rfl) (Ev.opt rfl (by first | exact pkF | exact pkF2 | simp +contextual)) (orB _ _) optN ?_
      refine ARun.move (.inl rfl) rfl rfl rfl (Ev.plain rfl) optN ?_
      refine ARun.fieldBox (fo := 1) rfl rfl rfl rfl Tryz.underlying108 rfl rfl sz3 (by decide) (Ev.plain rfl) ((hG.at _ _).trans rfl) optS ?_
      refine ARun.loadBox rfl rfl rfl rfl Tryz.underlying3 rfl (Ev.opt rfl (fun h => h)) ((hG.at _ _).trans rfl) rfl optS ?_
      refine ARun.cmp rfl rfl rfl rfl (Ev.opt rfl (fun h => h)) (Ev.plain rfl) rfl optS ?_
      refine ARun.pick rfl rfl rfl rfl (Ev.plain rfl) (Ev.plain rfl) (Ev.opt rfl (by first | exact pkF | exact pkF2 | simp +contextual)) (orB _ _) optN ?_
      refine ARun.move (.inl rfl) rfl rfl rfl (Ev.plain rfl) optN ?_
      refine ARun.fieldBox (fo := 1) rfl rfl rfl rfl Tryz.underlying108 rfl rfl sz3 (by decide) (Ev.plain rfl) ((hG.at _ _).trans rfl) optS ?_
      refine ARun.loadBox rfl rfl rfl rfl Tryz.underlying3 rfl (Ev.opt rfl (fun h => h)) ((hG.at _ _).trans rfl) rfl optS ?_
      refine ARun.cmp rfl rfl rfl rfl (Ev.opt rfl (fun h => h)) (Ev.plain rfl) rfl optS ?_
      refine ARun.pick rfl rfl rfl rfl (Ev.plain rfl) (Ev.plain rfl) (Ev.opt rfl (by first | exact pkF | exact pkF2 | simp +contextual)) (orB _ _) optN ?_
      refine ⟨_, _, rfl, hG, ?_⟩
      refine thenA_n ?_
      refine AWP.cond rfl (fun h2 => ?_) (fun h2 => ?_)
      · skip
        simp [-List.getD_eq_getElem?_getD] at h2
        have hst := stepL m k (by omega)
        have hln := lastL_ge (m.take k) 0 hok
        rw [decide_eq_false (by omega), Bool.and_false] at hst
        refine AWP.seq ?_
        refine AWP.region (fun _ => ?_)
        refine ARun.move (.inr rfl) rfl rfl rfl (Ev.plain rfl) optN ?_
        refine ⟨_, _, rfl, hG, ?_⟩
        refine thenA_n ?_
        refine AWP.ret ?_
        refine thenA_r ?_
        refine blockA_r ?_
        refine thenA_r ?_
        refine thenA_r ?_
        refine blockA_r ?_
        refine thenA_r ?_
        refine endF.one (.inr rfl) rfl (.tmp rfl) ?_ hN
        rw [okLE_bad hst]; rfl
      · skip
        simp [-List.getD_eq_getElem?_getD] at h2
        have hst := stepL m k (by omega)
        rw [decide_eq_true (by omega), hok, Bool.true_and] at hst
        refine AWP.skip ?_
        refine thenA_n ?_
        refine AWP.region (fun _ => ?_)
        refine ARun.fieldBox (fo := 0) rfl rfl rfl rfl Tryz.underlying108 rfl rfl sz3 (by decide) (Ev.plain rfl) ((hG.at _ _).trans rfl) optN ?_
        refine ARun.loadBox rfl rfl rfl rfl Tryz.underlying3 rfl (Ev.plain rfl) ((hG.at _ _).trans rfl) rfl optN ?_
        refine ARun.move (.inr rfl) rfl rfl rfl (Ev.plain rfl) optN ?_
        refine ⟨_, _, rfl, hG, ?_⟩
        refine blockA_n ?_
        refine thenA_n ?_
        refine AWP.region (fun _ => ?_)
        first | refine ARun.arith rfl rfl rfl rfl (Ev.plain rfl) (Ev.plain rfl) rfl (fun hg => i64w (by (try simp at hg); omega)) optN ?_ | refine ARun.arith rfl rfl rfl rfl (Ev.plain rfl) (Ev.plain rfl) rfl (fun _ => rfl) optN ?_
        refine ARun.move (.inl rfl) rfl rfl rfl (Ev.plain rfl) optN ?_
        refine ⟨_, _, rfl, hG, ?_⟩
        refine thenA_n ⟨rfl, k + 1, _, ?_, ?_, rfl, ?_⟩
        · exact ⟨by omega, hst⟩
        · rw [lastL_at m k (by omega)]
          repeat (first | exact .nil | refine .cons rfl ?_)
        · omega
    · skip
      simp at h1
      obtain rfl : k = m.length := by omega
      refine AWP.exit ?_
      refine thenA_x ?_
      refine thenA_x ?_
      refine blockA_h ?_
      refine thenA_n ?_
      refine AWP.seq ?_
      refine AWP.region (fun _ => ?_)
      refine ARun.move (.inr rfl) rfl rfl rfl (Ev.plain rfl) optN ?_
      refine ⟨_, _, rfl, hG, ?_⟩
      refine thenA_n ?_
      refine AWP.ret ?_
      refine endF.one (.inr rfl) rfl (.tmp rfl) ?_ hN
      rw [okLE_good (by omega) hok]; rfl
set_option maxHeartbeats 1000000 in
theorem mayB_fn (l : List It) (m : List Ln) : FnP Tryz.prog 155 [.sl (l.map aIt), .sl (m.map aLn)] (.bool (ok l && okL m)) := by
  refine FnP.of Tryz.func155 rfl rfl (by simp) (by simp [AV.cells, aIt, aLn]) (fun G hG => ?_)
  have hN : NoH G.length (.bool (ok l && okL m)) := (by simp [AV.cells, aIt, aLn])
  refine AWP.seq ?_
  refine AWP.region (fun _ => ?_)
  refine ARun.move (.inr rfl) rfl rfl rfl (Ev.plain rfl) optN ?_
  refine ⟨_, _, rfl, hG, ?_⟩
  refine thenA_n ?_
  refine AWP.seq ?_
  refine AWP.region (fun _ => ?_)
  refine ARun.move (.inl rfl) rfl rfl rfl (Ev.plain rfl) optN ?_
  refine ARun.call rfl rfl rfl rfl cf26 (Ev.plain rfl) (.cons (Ev.plain rfl) .nil) rfl (fun hg => check_fn l) optN ?_
  refine ARun.cmp rfl rfl rfl rfl (Ev.plain rfl) (Ev.plain rfl) rfl optN ?_
  refine ARun.move (.inl rfl) rfl rfl rfl (Ev.plain rfl) optN ?_
  refine ARun.move (.inl rfl) rfl rfl rfl (Ev.plain rfl) optS ?_
  refine ARun.call rfl rfl rfl rfl cf137 (Ev.plain rfl) (.cons (Ev.opt rfl (fun h => h)) .nil) rfl (fun hg => checkL_fn m) optS ?_
  refine ARun.cmp rfl rfl rfl rfl (Ev.opt rfl (fun h => h)) (Ev.plain rfl) rfl optS ?_
  refine ARun.pick rfl rfl rfl rfl (Ev.plain rfl) (Ev.opt rfl (by first | exact pkT | exact pkT2 | simp +contextual)) (Ev.plain rfl) (andB _ _) optN ?_
  refine ARun.move (.inr rfl) rfl rfl rfl (Ev.plain rfl) optN ?_
  refine ⟨_, _, rfl, hG, ?_⟩
  refine thenA_n ?_
  refine AWP.ret ?_
  refine endF.one (.inr rfl) rfl (.tmp rfl) ?_ hN
  simp [okE_ok, okLE_ok]
def stp (l : List It) (x : Ln) : List It := if (holdF l x.item x.qty).2 = 0 then (holdF l x.item x.qty).1 else l
set_option maxHeartbeats 1000000 in
theorem doing_fn (l : List It) : FnNewB Tryz.prog 156 [.sl (l.map aIt), .fn (.func 111) [] []] (fun i => .fn (.func 163) [] [.pe [.fn (.func 111) [] []], .box i 0]) [.sl (l.map aIt)] := by
  refine FnNewB.of Tryz.func156 rfl rfl (by simp) (fun G hG => ?_)
  refine AWP.seq ?_
  refine AWP.region (fun _ => ?_)
  refine ARun.box1 (j := 0) hG rfl rfl rfl rfl rfl (Ev.plain rfl) (by first | rfl | exact aEr_one _ | exact aFl_one _) optN ?_
  refine ARun.boxPe1 rfl rfl rfl rfl (Ev.plain rfl) (by first | rfl | exact aEr_one _ | exact aFl_one _) optN ?_
  refine ARun.move (.inr rfl) rfl rfl rfl (Ev.plain rfl) optN ?_
  refine ⟨_, _, rfl, hG, ?_⟩
  refine thenA_n ?_
  refine AWP.seq ?_
  refine AWP.region (fun _ => ?_)
  refine ARun.makeFunc rfl rfl rfl rfl .nil (.cons (Ev.plain rfl) (.cons (Ev.plain rfl) .nil)) optN ?_
  refine ARun.move (.inr rfl) rfl rfl rfl (Ev.plain rfl) optN ?_
  refine ⟨_, _, rfl, hG, ?_⟩
  refine thenA_n ?_
  refine AWP.ret ?_
  refine endN.one (.inr rfl) rfl (.tmp rfl) ?_ (by simp [AV.cells, aIt]) (by simp [AV.cells, aIt])
  rfl
set_option maxHeartbeats 1000000 in
theorem step_fn (l : List It) (x : Ln) (hl : l.length ≤ 1000) : FnM Tryz.prog 163 (fun i => [aLn x, .pe [.fn (.func 111) [] []], .box i 0]) [.sl (l.map aIt)] (.tup [.sl ((holdF l x.item x.qty).1.map aIt), .int .i64 (holdF l x.item x.qty).2]) [.sl ((stp l x).map aIt)] := by
  refine FnM.of Tryz.func163 rfl rfl (fun i => by simp) (fun H i m hHm hi hG => ?_)
  have hN : NoH H.length (.tup [.sl ((holdF l x.item x.qty).1.map aIt), .int .i64 (holdF l x.item x.qty).2]) := (by simp [AV.cells, aIt])
  refine AWP.seq ?_
  refine AWP.region (fun _ => ?_)
  refine ARun.boxPe rfl rfl rfl rfl (Ev.plain rfl) rfl rfl optN ?_
  refine ARun.move (.inr rfl) rfl rfl rfl (Ev.plain rfl) optN ?_
  refine ARun.move (.inr rfl) rfl rfl rfl (Ev.plain rfl) optN ?_
  refine ⟨_, _, rfl, hG, ?_⟩
  refine thenA_n ?_
  refine AWP.seq ?_
  refine AWP.region (fun _ => ?_)
  first | refine ARun.loadPe rfl rfl rfl rfl Tryz.underlying165 rfl (Ev.plain rfl) rfl optN ?_ | refine ARun.loadBox rfl rfl rfl rfl Tryz.underlying165 rfl (Ev.plain rfl) ((hG.at _ _).trans rfl) rfl optN ?_
  refine ARun.loadBox rfl rfl rfl rfl Tryz.underlying22 rfl (Ev.plain rfl) (atO hi) rfl optN ?_
  refine ARun.fieldPe rfl rfl rfl rfl Tryz.underlying108 rfl rfl sz3 (by decide) (Ev.plain rfl) rfl optN ?_
  refine ARun.loadPe rfl rfl rfl rfl Tryz.underlying3 rfl (Ev.plain rfl) rfl optN ?_
  refine ARun.fieldPe rfl rfl rfl rfl Tryz.underlying108 rfl rfl sz3 (by decide) (Ev.plain rfl) rfl optN ?_
  refine ARun.loadPe rfl rfl rfl rfl Tryz.underlying3 rfl (Ev.plain rfl) rfl optN ?_
  refine ARun.call rfl rfl rfl rfl cf111 (Ev.plain rfl) (.cons (Ev.plain rfl) (.cons (Ev.plain rfl) (.cons (Ev.plain rfl) .nil))) rfl (fun hg => reserve_fn l x.item x.qty hl) optN ?_
  refine ARun.move (.inl rfl) rfl rfl rfl (Ev.plain rfl) optN ?_
  refine ARun.extract rfl rfl rfl rfl (Ev.plain rfl) rfl optN ?_
  refine ARun.extract rfl rfl rfl rfl (Ev.plain rfl) rfl optN ?_
  refine ARun.move (.inr rfl) rfl rfl rfl (Ev.plain rfl) optN ?_
  refine ARun.move (.inr rfl) rfl rfl rfl (Ev.plain rfl) optN ?_
  refine ⟨_, _, rfl, hG, ?_⟩
  refine thenA_n ?_
  refine AWP.seq ?_
  refine AWP.seq ?_
  refine AWP.region (fun _ => ?_)
  refine ARun.move (.inl rfl) rfl rfl rfl (Ev.plain rfl) optN ?_
  refine ARun.cmp rfl rfl rfl rfl (Ev.plain rfl) (Ev.plain rfl) rfl optN ?_
  refine ⟨_, _, rfl, hG, ?_⟩
  refine thenA_n ?_
  refine AWP.cond rfl (fun h0 => ?_) (fun h0 => ?_)
  · skip
    try simp [-List.getD_eq_getElem?_getD] at h0
    refine AWP.region (fun _ => ?_)
    refine ARun.move (.inl rfl) rfl rfl rfl (Ev.plain rfl) optN ?_
    refine ARun.storeO1 hi hG rfl rfl rfl sz22 (Ev.plain rfl) (Ev.plain rfl) (by first | rfl | exact aEr_one _ | exact aFl_one _) (Nat.le_of_ble_eq_true rfl) rfl (by simp [AV.cells, aIt]) (fun hG => ?_)
    refine ⟨_, _, rfl, hG, ?_⟩
    refine thenA_n ?_
    refine AWP.seq ?_
    refine AWP.region (fun _ => ?_)
    refine ARun.move (.inl rfl) rfl rfl rfl (Ev.plain rfl) optN ?_
    refine ARun.move (.inl rfl) rfl rfl rfl (Ev.plain rfl) optN ?_
    refine ARun.move (.inr rfl) rfl rfl rfl (Ev.plain rfl) optN ?_
    refine ARun.move (.inr rfl) rfl rfl rfl (Ev.plain rfl) optN ?_
    refine ⟨_, _, rfl, hG, ?_⟩
    refine thenA_n ?_
    refine AWP.ret ?_
    refine endF.toG (congrArg (fun c => H.set i (AO.box c)) (by rw [stp, if_pos h0]; rfl)) ?_
    refine endF.many (.inr rfl) (rs := [.tmp 4, .tmp 5]) rfl (.cons (.tmp rfl) (.cons (.tmp rfl) .nil)) (by simp) ?_ (by rw [List.length_set]; exact hN)
    rfl
  · skip
    try simp [-List.getD_eq_getElem?_getD] at h0
    refine AWP.skip ?_
    refine thenA_n ?_
    refine AWP.seq ?_
    refine AWP.region (fun _ => ?_)
    refine ARun.move (.inl rfl) rfl rfl rfl (Ev.plain rfl) optN ?_
    refine ARun.move (.inl rfl) rfl rfl rfl (Ev.plain rfl) optN ?_
    refine ARun.move (.inr rfl) rfl rfl rfl (Ev.plain rfl) optN ?_
    refine ARun.move (.inr rfl) rfl rfl rfl (Ev.plain rfl) optN ?_
    refine ⟨_, _, rfl, hG, ?_⟩
    refine thenA_n ?_
    refine AWP.ret ?_
    refine endF.toG (congrArg (fun c => H.set i (AO.box c)) (by rw [stp, if_neg h0])) ?_
    refine endF.many (.inr rfl) (rs := [.tmp 4, .tmp 5]) rfl (.cons (.tmp rfl) (.cons (.tmp rfl) .nil)) (by simp) ?_ (by rw [List.length_set]; exact hN)
    rfl
set_option maxHeartbeats 1000000 in
theorem all_fn (l : List It) (m : List Ln) (hl : l.length ≤ 1000) : FnP Tryz.prog 136 [.sl (l.map aIt), .sl (m.map aLn), .fn (.func 111) [] []] (.tup [.sl ((allP holdF l m).1.map aIt), .int .i64 (allP holdF l m).2.1, .int .i64 (allP holdF l m).2.2]) := by
  refine FnP.of Tryz.func136 rfl rfl (by simp) (by simp [AV.cells, aIt, aLn]) (fun G hG => ?_)
  have hN : NoH G.length (.tup [.sl ((allP holdF l m).1.map aIt), .int .i64 (allP holdF l m).2.1, .int .i64 (allP holdF l m).2.2]) := (by simp [AV.cells, aIt, aLn])
  refine AWP.seq ?_
  refine AWP.region (fun _ => ?_)
  refine ARun.move (.inr rfl) rfl rfl rfl (Ev.plain rfl) optN ?_
  refine ARun.move (.inr rfl) rfl rfl rfl (Ev.plain rfl) optN ?_
  refine ARun.move (.inr rfl) rfl rfl rfl (Ev.plain rfl) optN ?_
  refine ⟨_, _, rfl, hG, ?_⟩
  refine thenA_n ?_
  refine AWP.seq ?_
  refine AWP.seq ?_
  refine AWP.region (fun _ => ?_)
  refine ARun.move (.inl rfl) rfl rfl rfl (Ev.plain rfl) optN ?_
  refine ARun.move (.inl rfl) rfl rfl rfl (Ev.plain rfl) optN ?_
  refine ARun.call rfl rfl rfl rfl cf155 (Ev.plain rfl) (.cons (Ev.plain rfl) (.cons (Ev.plain rfl) .nil)) rfl (fun hg => mayB_fn l m) optN ?_
  refine ARun.not rfl rfl rfl rfl (Ev.plain rfl) optN ?_
  refine ⟨_, _, rfl, hG, ?_⟩
  refine thenA_n ?_
  refine AWP.cond rfl (fun h0 => ?_) (fun h0 => ?_)
  · skip
    simp at h0
    refine AWP.seq ?_
    refine AWP.region (fun _ => ?_)
    refine ARun.move (.inr rfl) rfl rfl rfl (Ev.plain rfl) optN ?_
    refine ARun.move (.inr rfl) rfl rfl rfl (Ev.plain rfl) optN ?_
    refine ARun.move (.inr rfl) rfl rfl rfl (Ev.plain rfl) optN ?_
    refine ⟨_, _, rfl, hG, ?_⟩
    refine thenA_n ?_
    refine AWP.ret ?_
    refine thenA_r ?_
    refine endF.many (.inr rfl) (rs := [.tmp 6, .tmp 7, .tmp 8]) rfl (.cons (.tmp rfl) (.cons (.tmp rfl) (.cons (.tmp rfl) .nil))) (by simp) ?_ hN
    rw [allP_no (by rintro ⟨a, b⟩; rw [a, b] at h0; simp at h0)]; rfl
  · skip
    simp at h0
    have hml := okL_len h0.2
    have hdef := allP_yes (fn := holdF) h0
    refine AWP.skip ?_
    refine thenA_n ?_
    refine AWP.seq ?_
    refine AWP.region (fun _ => ?_)
    refine ARun.move (.inl rfl) rfl rfl rfl (Ev.plain rfl) optN ?_
    refine ARun.move (.inl rfl) rfl rfl rfl (Ev.plain rfl) optN ?_
    refine ARun.callNewB (j := 0) hG rfl rfl rfl rfl rfl cf156 (Ev.plain rfl) (.cons (Ev.plain rfl) (.cons (Ev.plain rfl) .nil)) rfl (doing_fn l) optN ?_
    refine ARun.move (.inr rfl) rfl rfl rfl (Ev.plain rfl) optN ?_
    refine ⟨_, _, rfl, hG, ?_⟩
    refine thenA_n ?_
    refine AWP.seq ?_
    refine AWP.seq ?_
    refine AWP.region (fun _ => ?_)
    refine ARun.move (.inl rfl) rfl rfl rfl (Ev.plain rfl) optN ?_
    refine ARun.lenSl rfl rfl rfl rfl Tryz.underlying23 (Ev.plain rfl) optN ?_
    refine ARun.move (.inl rfl) rfl rfl rfl (Ev.plain rfl) optN ?_
    refine ⟨_, _, rfl, hG, ?_⟩
    refine thenA_n ?_
    refine AWP.block ?_
    refine AWP.rounds (fun s => s.1 ≤ m.length ∧ s.2.length ≤ 1000 ∧ goesP holdF 0 l m = goesP holdF s.1 s.2 (m.drop s.1)) (fun s => [(1, .sl (m.map aLn)), (6, .sl ((if s.1 = 0 then [] else s.2).map aIt)), (9, .fn (.func 163) [] [.pe [.fn (.func 111) [] []], .box (G.length + 0) 0]), (21, .sl (m.map aLn)), (22, .int .i64 ((m.map aLn).length : Int)), (23, .int .i64 (s.1 : Int))]) (fun s => [.box [.sl (s.2.map aIt)]]) (fun s => m.length - s.1) 1 ((0, l) : Nat × List It) ⟨by omega, hl, rfl⟩ (by repeat (first | exact .nil | refine .cons rfl ?_)) rfl (fun _ => rfl) (fun _ => ⟨by simp [AV.cells, aIt, aLn]; intro x a _ _ e y hy; subst e; simp at hy; rcases hy with rfl | rfl | rfl | rfl <;> simp, by simp [AO.conts, AV.cells, aIt]⟩) (fun s hI => ?_)
    obtain ⟨k, cur⟩ := s
    dsimp only at hI
    show AWP _ _ _ _ _ [(1, .sl (m.map aLn)), (6, .sl ((if k = 0 then [] else cur).map aIt)), (9, .fn (.func 163) [] [.pe [.fn (.func 111) [] []], .box (G.length + 0) 0]), (21, .sl (m.map aLn)), (22, .int .i64 ((m.map aLn).length : Int)), (23, .int .i64 (k : Int))] _ [.box [.sl (cur.map aIt)]]
    obtain ⟨hk, hc, hg2⟩ := hI
    have hhl := hold_len cur (m.getD k default).item (m.getD k default).qty
    refine AWP.seq ?_
    refine AWP.region (fun _ => ?_)
    refine ARun.cmp rfl rfl rfl rfl (Ev.plain rfl) (Ev.plain rfl) rfl optN ?_
    refine ⟨_, _, rfl, hG, ?_⟩
    refine thenA_n ?_
    refine AWP.seq ?_
    refine AWP.cond rfl (fun h1 => ?_) (fun h1 => ?_)
    · skip
      try simp [-List.getD_eq_getElem?_getD] at h1
      refine AWP.skip ?_
      refine thenA_n ?_
      refine AWP.seq ?_
      refine AWP.block ?_
      refine AWP.seq ?_
      refine AWP.region (fun _ => ?_)
      refine ARun.move (.inl rfl) rfl rfl rfl (Ev.plain rfl) optN ?_
      first | refine ARun.indexSl rfl rfl rfl rfl Tryz.underlying23 sz108 (Ev.plain rfl) (Ev.plain rfl) (fun _ => rfl) (fun hg => getMap _ _ _ (by (try simp at hg); omega)) rfl rfl optN ?_ | refine ARun.indexSl rfl rfl rfl rfl Tryz.underlying23 sz108 (Ev.plain rfl) (Ev.plain rfl) (fun hg => ofNonneg (by (try simp at hg); omega)) (fun hg => getMap _ _ _ (by (try simp at hg); omega)) rfl rfl optN ?_
      refine ARun.loadPeA rfl rfl rfl rfl Tryz.underlying108 rfl sz108 (Ev.plain rfl) rfl optN ?_
      refine ARun.alloc (j := 1) hG rfl rfl rfl rfl rfl zv108 rfl optN ?_
      refine ARun.move (.inr rfl) rfl rfl rfl (Ev.plain rfl) optN ?_
      refine ARun.storeL hG rfl rfl rfl sz108 (Ev.plain rfl) (Ev.plain rfl) rfl rfl rfl rfl rfl (Nat.le_of_ble_eq_true rfl) rfl rfl ?_
      refine ⟨_, _, rfl, hG, ?_⟩
      refine thenA_n ?_
      refine AWP.seq ?_
      refine AWP.region (fun _ => ?_)
      refine ARun.move (.inl rfl) rfl rfl rfl (Ev.plain rfl) optN ?_
      refine ARun.loadBoxA rfl rfl rfl rfl Tryz.underlying108 rfl sz108 (Ev.plain rfl) ((hG.at _ _).trans rfl) rfl rfl optN ?_
      refine ARun.callSet (j := 0) hG rfl rfl rfl rfl cf163 (Ev.plain rfl) (.cons (Ev.plain rfl) .nil) rfl (step_fn cur (m.getD k default) hc _ _ ((hG.at _ _).trans rfl)) rfl optN ?_
      refine ARun.move (.inl rfl) rfl rfl rfl (Ev.plain rfl) optN ?_
      refine ARun.extract rfl rfl rfl rfl (Ev.plain rfl) rfl optN ?_
      refine ARun.extract rfl rfl rfl rfl (Ev.plain rfl) rfl optN ?_
      refine ARun.move (.inr rfl) rfl rfl rfl (Ev.plain rfl) optN ?_
      refine ARun.move (.inr rfl) rfl rfl rfl (Ev.plain rfl) optN ?_
      refine ⟨_, _, rfl, hG, ?_⟩
      refine thenA_n ?_
      refine AWP.seq ?_
      refine AWP.seq ?_
      refine AWP.region (fun _ => ?_)
      refine ARun.move (.inl rfl) rfl rfl rfl (Ev.plain rfl) optN ?_
      refine ARun.cmp rfl rfl rfl rfl (Ev.plain rfl) (Ev.plain rfl) rfl optN ?_
      refine ⟨_, _, rfl, hG, ?_⟩
      refine thenA_n ?_
      refine AWP.cond rfl (fun h2 => ?_) (fun h2 => ?_)
      · skip
        simp [-List.getD_eq_getElem?_getD] at h2
        rw [goes_step (by omega), if_pos h2] at hg2
        refine AWP.seq ?_
        refine AWP.region (fun _ => ?_)
        refine ARun.move (.inl rfl) rfl rfl rfl (Ev.plain rfl) optN ?_
        refine ARun.move (.inl rfl) rfl rfl rfl (Ev.plain rfl) optN ?_
        refine ARun.move (.inr rfl) rfl rfl rfl (Ev.plain rfl) optN ?_
        refine ARun.move (.inr rfl) rfl rfl rfl (Ev.plain rfl) optN ?_
        refine ARun.move (.inr rfl) rfl rfl rfl (Ev.plain rfl) optN ?_
        refine ⟨_, _, rfl, hG, ?_⟩
        refine thenA_n ?_
        refine AWP.ret ?_
        refine thenA_r ?_
        refine blockA_r ?_
        refine thenA_r ?_
        refine thenA_r ?_
        refine blockA_r ?_
        refine thenA_r ?_
        refine endF.many (.inr rfl) (rs := [.tmp 6, .tmp 7, .tmp 8]) rfl (.cons (.tmp rfl) (.cons (.tmp rfl) (.cons (.tmp rfl) .nil))) (by simp) ?_ hN
        rw [hdef, hg2]; rfl
      · skip
        simp [-List.getD_eq_getElem?_getD] at h2
        rw [goes_step (by omega), if_neg (by rw [h2]; simp)] at hg2
        have hst : stp cur (m.getD k default) = (holdF cur (m.getD k default).item (m.getD k default).qty).1 := by rw [stp, if_pos h2]
        rw [hst]
        refine AWP.skip ?_
        refine thenA_n ?_
        refine AWP.region (fun _ => ?_)
        refine ARun.move (.inl rfl) rfl rfl rfl (Ev.plain rfl) optN ?_
        refine ARun.move (.inr rfl) rfl rfl rfl (Ev.plain rfl) optN ?_
        refine ⟨_, _, rfl, hG, ?_⟩
        refine blockA_n ?_
        refine thenA_n ?_
        refine AWP.region (fun _ => ?_)
        first | refine ARun.arith rfl rfl rfl rfl (Ev.plain rfl) (Ev.plain rfl) rfl (fun hg => i64w (by (try simp at hg); omega)) optN ?_ | refine ARun.arith rfl rfl rfl rfl (Ev.plain rfl) (Ev.plain rfl) rfl (fun _ => rfl) optN ?_
        refine ARun.move (.inl rfl) rfl rfl rfl (Ev.plain rfl) optN ?_
        refine ⟨_, _, rfl, hG, ?_⟩
        refine thenA_n ⟨rfl, (k + 1, (holdF cur (m.getD k default).item (m.getD k default).qty).1), _, ?_, ?_, rfl, ?_⟩
        · exact ⟨by dsimp only; omega, by dsimp only; omega, hg2⟩
        · repeat (first | exact .nil | refine .cons rfl ?_)
        · dsimp only; omega
    · skip
      simp at h1
      obtain rfl : k = m.length := by omega
      rw [goes_end] at hg2
      have hk0 : ¬ m.length = 0 := by omega
      refine AWP.exit ?_
      refine thenA_x ?_
      refine thenA_x ?_
      refine blockA_h ?_
      refine thenA_n ?_
      refine AWP.seq ?_
      refine AWP.region (fun _ => ?_)
      refine ARun.move (.inl rfl) rfl rfl rfl (Ev.plain rfl) optN ?_
      refine ARun.move (.inl rfl) rfl rfl rfl (Ev.plain rfl) optN ?_
      refine ARun.lenSl rfl rfl rfl rfl Tryz.underlying23 (Ev.plain rfl) optN ?_
      refine ARun.move (.inr rfl) rfl rfl rfl (Ev.plain rfl) optN ?_
      refine ARun.move (.inr rfl) rfl rfl rfl (Ev.plain rfl) optN ?_
      refine ARun.move (.inr rfl) rfl rfl rfl (Ev.plain rfl) optN ?_
      refine ⟨_, _, rfl, hG, ?_⟩
      refine thenA_n ?_
      refine AWP.ret ?_
      refine endF.many (.inr rfl) (rs := [.tmp 6, .tmp 7, .tmp 8]) rfl (.cons (.tmp rfl) (.cons (.tmp rfl) (.cons (.tmp rfl) .nil))) (by simp) ?_ hN
      rw [hdef, hg2, if_neg hk0, List.length_map]; rfl
set_option maxHeartbeats 1000000 in
theorem holdB_fn (l : List It) (m : List Ln) (hl : l.length ≤ 1000) : FnP Tryz.prog 107 [.sl (l.map aIt), .sl (m.map aLn)] (.tup [.sl ((allP holdF l m).1.map aIt), .int .i64 (allP holdF l m).2.1, .int .i64 (allP holdF l m).2.2]) := by
  refine FnP.of Tryz.func107 rfl rfl (by simp) (by simp [AV.cells, aIt, aLn]) (fun G hG => ?_)
  have hN : NoH G.length (.tup [.sl ((allP holdF l m).1.map aIt), .int .i64 (allP holdF l m).2.1, .int .i64 (allP holdF l m).2.2]) := (by simp [AV.cells, aIt, aLn])
  refine AWP.seq ?_
  refine AWP.region (fun _ => ?_)
  refine ARun.move (.inr rfl) rfl rfl rfl (Ev.plain rfl) optN ?_
  refine ARun.move (.inr rfl) rfl rfl rfl (Ev.plain rfl) optN ?_
  refine ARun.move (.inr rfl) rfl rfl rfl (Ev.plain rfl) optN ?_
  refine ⟨_, _, rfl, hG, ?_⟩
  refine thenA_n ?_
  refine AWP.seq ?_
  refine AWP.region (fun _ => ?_)
  refine ARun.move (.inl rfl) rfl rfl rfl (Ev.plain rfl) optN ?_
  refine ARun.move (.inl rfl) rfl rfl rfl (Ev.plain rfl) optN ?_
  refine ARun.call rfl rfl rfl rfl cf136 (Ev.plain rfl) (.cons (Ev.plain rfl) (.cons (Ev.plain rfl) (.cons (Ev.plain rfl) .nil))) rfl (fun hg => all_fn l m hl) optN ?_
  refine ARun.extract rfl rfl rfl rfl (Ev.plain rfl) rfl optN ?_
  refine ARun.extract rfl rfl rfl rfl (Ev.plain rfl) rfl optN ?_
  refine ARun.extract rfl rfl rfl rfl (Ev.plain rfl) rfl optN ?_
  refine ARun.move (.inr rfl) rfl rfl rfl (Ev.plain rfl) optN ?_
  refine ARun.move (.inr rfl) rfl rfl rfl (Ev.plain rfl) optN ?_
  refine ARun.move (.inr rfl) rfl rfl rfl (Ev.plain rfl) optN ?_
  refine ⟨_, _, rfl, hG, ?_⟩
  refine thenA_n ?_
  refine AWP.ret ?_
  refine endF.many (.inr rfl) (rs := [.tmp 4, .tmp 5, .tmp 6]) rfl (.cons (.tmp rfl) (.cons (.tmp rfl) (.cons (.tmp rfl) .nil))) (by simp) ?_ hN
  rfl
set_option maxHeartbeats 1000000 in
theorem total_fn (m : List Ln) (hm : m.length ≤ 1000) : FnP Tryz.prog 108 [.sl (m.map aLn)] (.int .i64 (totalP m)) := by
  refine FnP.of Tryz.func108 rfl rfl (by simp) (by simp [AV.cells, aIt, aLn]) (fun G hG => ?_)
  have hN : NoH G.length (.int .i64 (totalP m)) := (by simp [AV.cells, aIt, aLn])
  refine AWP.seq ?_
  refine AWP.region (fun _ => ?_)
  refine ARun.move (.inr rfl) rfl rfl rfl (Ev.plain rfl) optN ?_
  refine ⟨_, _, rfl, hG, ?_⟩
  refine thenA_n ?_
  refine AWP.seq ?_
  refine AWP.region (fun _ => ?_)
  refine ARun.move (.inr rfl) rfl rfl rfl (Ev.plain rfl) optN ?_
  refine ⟨_, _, rfl, hG, ?_⟩
  refine thenA_n ?_
  refine AWP.seq ?_
  refine AWP.seq ?_
  refine AWP.region (fun _ => ?_)
  refine ARun.move (.inl rfl) rfl rfl rfl (Ev.plain rfl) optN ?_
  refine ARun.lenSl rfl rfl rfl rfl Tryz.underlying23 (Ev.plain rfl) optN ?_
  refine ARun.move (.inl rfl) rfl rfl rfl (Ev.plain rfl) optN ?_
  refine ⟨_, _, rfl, hG, ?_⟩
  refine thenA_n ?_
  refine AWP.block ?_
  refine AWP.rounds (fun k => k ≤ m.length) (fun k => [(0, .sl (m.map aLn)), (3, .int .i64 (if okL m = true then sumF (m.take k) else 0)), (6, .sl (m.map aLn)), (7, .int .i64 ((m.map aLn).length : Int)), (8, .int .i64 (k : Int))]) (fun k => []) (fun k => m.length - k) 0 0 (Nat.zero_le _) (by rw [show (if okL m = true then sumF (m.take 0) else 0) = 0 from by split <;> rfl]; repeat (first | exact .nil | refine .cons rfl ?_)) rfl (fun _ => rfl) (fun _ => (by simp [AO.conts, AV.cells, aIt, aLn])) (fun k hI => ?_)
  refine AWP.seq ?_
  refine AWP.region (fun _ => ?_)
  refine ARun.cmp rfl rfl rfl rfl (Ev.plain rfl) (Ev.plain rfl) rfl optN ?_
  refine ⟨_, _, rfl, hG, ?_⟩
  refine thenA_n ?_
  refine AWP.seq ?_
  refine AWP.cond rfl (fun h0 => ?_) (fun h0 => ?_)
  · skip
    try simp [-List.getD_eq_getElem?_getD] at h0
    refine AWP.skip ?_
    refine thenA_n ?_
    refine AWP.seq ?_
    refine AWP.block ?_
    refine AWP.seq ?_
    refine AWP.region (fun _ => ?_)
    first | refine ARun.indexSl rfl rfl rfl rfl Tryz.underlying23 sz108 (Ev.plain rfl) (Ev.plain rfl) (fun _ => rfl) (fun hg => getMap _ _ _ (by (try simp at hg); omega)) rfl rfl optN ?_ | refine ARun.indexSl rfl rfl rfl rfl Tryz.underlying23 sz108 (Ev.plain rfl) (Ev.plain rfl) (fun hg => ofNonneg (by (try simp at hg); omega)) (fun hg => getMap _ _ _ (by (try simp at hg); omega)) rfl rfl optN ?_
    refine ARun.loadPeA rfl rfl rfl rfl Tryz.underlying108 rfl sz108 (Ev.plain rfl) rfl optN ?_
    refine ARun.alloc (j := 0) hG rfl rfl rfl rfl rfl zv108 rfl optN ?_
    refine ARun.storeL hG rfl rfl rfl sz108 (Ev.plain rfl) (Ev.plain rfl) rfl rfl rfl rfl rfl (Nat.le_of_ble_eq_true rfl) rfl rfl ?_
    refine ⟨_, _, rfl, hG, ?_⟩
    refine thenA_n ?_
    refine AWP.seq ?_
    refine AWP.region (fun _ => ?_)
    refine ARun.move (.inl rfl) rfl rfl rfl (Ev.plain rfl) optN ?_
    refine ARun.call rfl rfl rfl rfl cf137 (Ev.plain rfl) (.cons (Ev.plain rfl) .nil) rfl (fun hg => checkL_fn m) optN ?_
    refine ARun.cmp rfl rfl rfl rfl (Ev.plain rfl) (Ev.plain rfl) rfl optN ?_
    refine ⟨_, _, rfl, hG, ?_⟩
    refine thenA_n ?_
    refine AWP.cond rfl (fun h1 => ?_) (fun h1 => ?_)
    · skip
      simp [okLE_ok] at h1
      have hb := sumF_bd h1 k (by omega)
      have hq := okL_at h1 (k := k) (by omega)
      have hml := okL_len h1
      have hif : (if okL m = true then sumF (m.take k) else 0) = sumF (m.take k) := if_pos h1
      refine AWP.region (fun _ => ?_)
      refine ARun.move (.inl rfl) rfl rfl rfl (Ev.plain rfl) optN ?_
      refine ARun.fieldBox (fo := 1) rfl rfl rfl rfl Tryz.underlying108 rfl rfl sz3 (by decide) (Ev.plain rfl) ((hG.at _ _).trans rfl) optN ?_
      refine ARun.loadBox rfl rfl rfl rfl Tryz.underlying3 rfl (Ev.plain rfl) ((hG.at _ _).trans rfl) rfl optN ?_
      first | refine ARun.arith rfl rfl rfl rfl (Ev.plain rfl) (Ev.plain rfl) rfl (fun hg => i64w (by (try simp at hg); omega)) optN ?_ | refine ARun.arith rfl rfl rfl rfl (Ev.plain rfl) (Ev.plain rfl) rfl (fun _ => rfl) optN ?_
      refine ARun.move (.inr rfl) rfl rfl rfl (Ev.plain rfl) optN ?_
      refine ⟨_, _, rfl, hG, ?_⟩
      refine blockA_n ?_
      refine thenA_n ?_
      refine AWP.region (fun _ => ?_)
      first | refine ARun.arith rfl rfl rfl rfl (Ev.plain rfl) (Ev.plain rfl) rfl (fun hg => i64w (by (try simp at hg); omega)) optN ?_ | refine ARun.arith rfl rfl rfl rfl (Ev.plain rfl) (Ev.plain rfl) rfl (fun _ => rfl) optN ?_
      refine ARun.move (.inl rfl) rfl rfl rfl (Ev.plain rfl) optN ?_
      refine ⟨_, _, rfl, hG, ?_⟩
      refine thenA_n ⟨rfl, k + 1, _, ?_, ?_, rfl, ?_⟩
      · omega
      · rw [if_pos h1, if_pos h1, sumF_at m k (by omega)]
        repeat (first | exact .nil | refine .cons rfl ?_)
      · omega
    · skip
      simp [okLE_ok] at h1
      refine AWP.skip ?_
      refine blockA_n ?_
      refine thenA_n ?_
      refine AWP.region (fun _ => ?_)
      first | refine ARun.arith rfl rfl rfl rfl (Ev.plain rfl) (Ev.plain rfl) rfl (fun hg => i64w (by (try simp at hg); omega)) optN ?_ | refine ARun.arith rfl rfl rfl rfl (Ev.plain rfl) (Ev.plain rfl) rfl (fun _ => rfl) optN ?_
      refine ARun.move (.inl rfl) rfl rfl rfl (Ev.plain rfl) optN ?_
      refine ⟨_, _, rfl, hG, ?_⟩
      refine thenA_n ⟨rfl, k + 1, _, ?_, ?_, rfl, ?_⟩
      · omega
      · rw [if_neg (by simp [h1]), if_neg (by simp [h1])]
        repeat (first | exact .nil | refine .cons rfl ?_)
      · omega
  · skip
    simp at h0
    obtain rfl : k = m.length := by omega
    rw [List.take_length]
    refine AWP.exit ?_
    refine thenA_x ?_
    refine thenA_x ?_
    refine blockA_h ?_
    refine thenA_n ?_
    refine AWP.seq ?_
    refine AWP.region (fun _ => ?_)
    refine ARun.move (.inl rfl) rfl rfl rfl (Ev.plain rfl) optN ?_
    refine ARun.move (.inr rfl) rfl rfl rfl (Ev.plain rfl) optN ?_
    refine ⟨_, _, rfl, hG, ?_⟩
    refine thenA_n ?_
    refine AWP.ret ?_
    refine endF.one (.inr rfl) rfl (.tmp rfl) ?_ hN
    rfl
set_option maxHeartbeats 1000000 in
theorem eq_fn (a b : List It) (hl : a.length ≤ 9223372036854775807) : FnP Tryz.prog 46 [.sl (a.map aIt), .sl (b.map aIt)] (.bool (decide (a = b))) := by
  refine FnP.of Tryz.func46 rfl rfl (by simp) (by simp [AV.cells, aIt, aLn]) (fun G hG => ?_)
  have hN : NoH G.length (.bool (decide (a = b))) := (by simp [AV.cells, aIt, aLn])
  refine AWP.seq ?_
  refine AWP.region (fun _ => ?_)
  refine ARun.move (.inr rfl) rfl rfl rfl (Ev.plain rfl) optN ?_
  refine ⟨_, _, rfl, hG, ?_⟩
  refine thenA_n ?_
  refine AWP.seq ?_
  refine AWP.seq ?_
  refine AWP.region (fun _ => ?_)
  refine ARun.move (.inl rfl) rfl rfl rfl (Ev.plain rfl) optN ?_
  refine ARun.lenSl rfl rfl rfl rfl Tryz.underlying22 (Ev.plain rfl) optN ?_
  refine ARun.move (.inl rfl) rfl rfl rfl (Ev.plain rfl) optN ?_
  refine ARun.lenSl rfl rfl rfl rfl Tryz.underlying22 (Ev.plain rfl) optN ?_
  refine ARun.cmp rfl rfl rfl rfl (Ev.plain rfl) (Ev.plain rfl) rfl optN ?_
  refine ⟨_, _, rfl, hG, ?_⟩
  refine thenA_n ?_
  refine AWP.cond rfl (fun h0 => ?_) (fun h0 => ?_)
  · skip
    simp [-List.getD_eq_getElem?_getD] at h0
    refine AWP.seq ?_
    refine AWP.region (fun _ => ?_)
    refine ARun.move (.inr rfl) rfl rfl rfl (Ev.plain rfl) optN ?_
    refine ⟨_, _, rfl, hG, ?_⟩
    refine thenA_n ?_
    refine AWP.ret ?_
    refine thenA_r ?_
    refine endF.one (.inr rfl) rfl (.tmp rfl) ?_ hN
    rw [decide_eq_false (fun e => absurd (congrArg List.length e) (by omega))]; rfl
  · skip
    simp [-List.getD_eq_getElem?_getD] at h0
    refine AWP.skip ?_
    refine thenA_n ?_
    refine AWP.seq ?_
    refine AWP.seq ?_
    refine AWP.region (fun _ => ?_)
    refine ARun.move (.inl rfl) rfl rfl rfl (Ev.plain rfl) optN ?_
    refine ARun.lenSl rfl rfl rfl rfl Tryz.underlying22 (Ev.plain rfl) optN ?_
    refine ARun.move (.inl rfl) rfl rfl rfl (Ev.plain rfl) optN ?_
    refine ⟨_, _, rfl, hG, ?_⟩
    refine thenA_n ?_
    refine AWP.block ?_
    refine AWP.rounds (fun k => k ≤ a.length ∧ a.take k = b.take k) (fun k => [(0, .sl (a.map aIt)), (1, .sl (b.map aIt)), (12, .int .i64 ((a.map aIt).length : Int)), (13, .int .i64 (k : Int))]) (fun k => []) (fun k => a.length - k) 0 0 ⟨by omega, rfl⟩ (by repeat (first | exact .nil | refine .cons rfl ?_)) rfl (fun _ => rfl) (fun _ => (by simp [AO.conts, AV.cells, aIt, aLn])) (fun k hI => ?_)
    obtain ⟨hk, hs⟩ := hI
    refine AWP.seq ?_
    refine AWP.region (fun _ => ?_)
    refine ARun.cmp rfl rfl rfl rfl (Ev.plain rfl) (Ev.plain rfl) rfl optN ?_
    refine ⟨_, _, rfl, hG, ?_⟩
    refine thenA_n ?_
    refine AWP.seq ?_
    refine AWP.cond rfl (fun h1 => ?_) (fun h1 => ?_)
    · skip
      simp [-List.getD_eq_getElem?_getD] at h1
      refine AWP.skip ?_
      refine thenA_n ?_
      refine AWP.seq ?_
      refine AWP.block ?_
      refine AWP.seq ?_
      refine AWP.region (fun _ => ?_)
      refine ARun.move (.inl rfl) rfl rfl rfl (Ev.plain rfl) optN ?_
      refine ARun.move (.inr rfl) rfl rfl rfl (Ev.plain rfl) optN ?_
      refine ⟨_, _, rfl, hG, ?_⟩
      refine thenA_n ?_
      refine AWP.seq ?_
      refine AWP.draw mixed (by kernel_rfl) (fun _ => ?_)
      refine ARun.move (.inl rfl) rfl rfl rfl (Ev.plain rfl) optN ?_
      refine ARun.move (.inl rfl) rfl rfl rfl (Ev.plain rfl) optN ?_
      first | refine ARun.indexSl rfl rfl rfl rfl Tryz.underlying22 sz64 (Ev.plain rfl) (Ev.plain rfl) (fun _ => rfl) (fun hg => getMap _ _ _ (by (try simp at hg); omega)) rfl rfl optN ?_ | refine ARun.indexSl rfl rfl rfl rfl Tryz.underlying22 sz64 (Ev.plain rfl) (Ev.plain rfl) (fun hg => ofNonneg (by (try simp at hg); omega)) (fun hg => getMap _ _ _ (by (try simp at hg); omega)) rfl rfl optN ?_
      refine ARun.loadPeA rfl rfl rfl rfl Tryz.underlying64 rfl sz64 (Ev.plain rfl) rfl optN ?_
      refine ARun.move (.inl rfl) rfl rfl rfl (Ev.plain rfl) optN ?_
      refine ARun.move (.inl rfl) rfl rfl rfl (Ev.plain rfl) optN ?_
      first | refine ARun.indexSl rfl rfl rfl rfl Tryz.underlying22 sz64 (Ev.plain rfl) (Ev.plain rfl) (fun _ => rfl) (fun hg => getMap _ _ _ (by (try simp at hg); omega)) rfl rfl optN ?_ | refine ARun.indexSl rfl rfl rfl rfl Tryz.underlying22 sz64 (Ev.plain rfl) (Ev.plain rfl) (fun hg => ofNonneg (by (try simp at hg); omega)) (fun hg => getMap _ _ _ (by (try simp at hg); omega)) rfl rfl optN ?_
      refine ARun.loadPeA rfl rfl rfl rfl Tryz.underlying64 rfl sz64 (Ev.plain rfl) rfl optN ?_
      refine ARun.eqAgg rfl rfl rfl rfl eq64 (Ev.plain rfl) (Ev.plain rfl) rfl (.inr ⟨rfl, rfl⟩) optN ?_
      refine ⟨by kernel_rfl, _, _, rfl, hG, ?_⟩
      refine thenA_n ?_
      refine AWP.cond rfl (fun h2 => ?_) (fun h2 => ?_)
      · skip
        simp [-List.getD_eq_getElem?_getD] at h2
        refine AWP.seq ?_
        refine AWP.region (fun _ => ?_)
        refine ARun.move (.inr rfl) rfl rfl rfl (Ev.plain rfl) optN ?_
        refine ⟨_, _, rfl, hG, ?_⟩
        refine thenA_n ?_
        refine AWP.ret ?_
        refine blockA_r ?_
        refine thenA_r ?_
        refine thenA_r ?_
        refine blockA_r ?_
        refine thenA_r ?_
        refine endF.one (.inr rfl) rfl (.tmp rfl) ?_ hN
        rw [decide_eq_false (ne_of_get (k := k) (aIt_ne h2))]; rfl
      · skip
        simp [-List.getD_eq_getElem?_getD] at h2
        refine AWP.skip ?_
        refine blockA_n ?_
        refine thenA_n ?_
        refine AWP.region (fun _ => ?_)
        first | refine ARun.arith rfl rfl rfl rfl (Ev.plain rfl) (Ev.plain rfl) rfl (fun hg => i64w (by (try simp at hg); omega)) optN ?_ | refine ARun.arith rfl rfl rfl rfl (Ev.plain rfl) (Ev.plain rfl) rfl (fun _ => rfl) optN ?_
        refine ARun.move (.inl rfl) rfl rfl rfl (Ev.plain rfl) optN ?_
        refine ⟨_, _, rfl, hG, ?_⟩
        refine thenA_n ⟨rfl, k + 1, _, ?_, ?_, rfl, ?_⟩
        · exact ⟨by omega, take_eq_go hs h1 (by omega) (aIt_ext h2)⟩
        · repeat (first | exact .nil | refine .cons rfl ?_)
        · omega
    · skip
      simp [-List.getD_eq_getElem?_getD] at h1
      refine AWP.exit ?_
      refine thenA_x ?_
      refine thenA_x ?_
      refine blockA_h ?_
      refine thenA_n ?_
      refine AWP.seq ?_
      refine AWP.region (fun _ => ?_)
      refine ARun.move (.inr rfl) rfl rfl rfl (Ev.plain rfl) optN ?_
      refine ⟨_, _, rfl, hG, ?_⟩
      refine thenA_n ?_
      refine AWP.ret ?_
      refine endF.one (.inr rfl) rfl (.tmp rfl) ?_ hN
      rw [decide_eq_true (by rw [List.take_of_length_le h1, List.take_of_length_le (by omega)] at hs; exact hs)]; rfl
end Go.Proofs.YtgebpndhnkkbgaaGreatDoor.Stk
namespace Go.Proofs.YtgebpndhnkkbgaaGreatDoor
set_option linter.unusedVariables false
set_option linter.unusedSimpArgs false
open NumP
set_option linter.unusedVariables false
set_option linter.unusedSimpArgs false
theorem back_numM {n most : Int} (hm : n ≤ most) (h b : List UInt8) (s : ByteArray) (hs : bl s = h ++ ((putN n).1 ++ b)) (hn : 0 ≤ n) (h1 : n ≤ 9223372036854775807) (p : ByteArray) :
    rdNum ⟨s, h.length, p, 0⟩ most = (⟨s, (h.length : Int) + ((putN n).1.length : Int), p, 0⟩, n) := by
  have hg := get_put h b n hn h1
  unfold rdNum numE
  dsimp only
  rw [hs, hg]
  dsimp only
  rw [if_neg (by omega), if_neg (by omega)]
  simp [RdS.moved]
theorem unrow_more {l : List UInt8} {p top top' to : Int} {xs : List Int} (h : unrowN l p top = (xs, to, 0)) (ht : top ≤ top') : unrowN l p top' = (xs, to, 0) := by
  unfold unrowN at h ⊢
  split at h
  · rename_i h1; simp at h; exact absurd h.2.2 h1
  · rename_i h1
    rw [if_neg h1]
    split at h
    · simp at h
    · rename_i h2
      rw [if_neg (by omega)]; exact h
theorem back_rowM {most : Int} (h b : List UInt8) (s : ByteArray) (l : List Int) (hs : bl s = h ++ ((rowN l).1 ++ b)) (hn : nneg l = true) (h1 : ∀ x, x ∈ l → x ≤ 9223372036854775807) (hl : l.length ≤ 1000) (hm : (l.length : Int) ≤ most) (p : ByteArray) :
    rdRow ⟨s, h.length, p, 0⟩ most = (⟨s, (h.length : Int) + ((rowN l).1.length : Int), p, 0⟩, l) := by
  have hg := unrow_more (unrow_row h b l hn h1 hl) hm
  unfold rdRow
  dsimp only
  rw [hs, hg]
  simp [RdS.moved]
theorem six_s (s : ByteArray) : ∀ k, (sixR s k).s = s
  | 0 => rfl
  | k + 1 => by show (rdNum (sixR s k) 2000000).1.s = s; rw [rdNum_s]; exact six_s s k
theorem six_upto (s : ByteArray) (h : s.size ≤ 1000000) : ∀ k, k ≤ 6 → Upto (sixR s k) (wrNums WrS.new ((sixL s).take k)) := by
  intro k
  induction k with
  | zero => intro _; exact upto_new s
  | succ k ih =>
    intro hk
    have h1 := first_num (sixR_ok h k) _ 2000000 (ih (by omega))
    have hk6 : k < (sixL s).length := by show k < 6; omega
    have h2 : (rdNum (sixR s k) 2000000).2 = (sixL s).getD k default := by
      show sixN s k = _
      have : k = 0 ∨ k = 1 ∨ k = 2 ∨ k = 3 ∨ k = 4 ∨ k = 5 := by omega
      rcases this with rfl | rfl | rfl | rfl | rfl | rfl <;> rfl
    rw [wrNums_succ _ _ _ hk6, ← h2]; exact h1
theorem takeE_zero {s : ByteArray} (h : takeE s = 0) : (rdCall s).1.e = 0 ∧ (rdCall s).2.2.length % 2 = 0 ∧ checkP (mkCall (rdCall s).2.1 (rdCall s).2.2) = 0 ∧ takeC s = mkCall (rdCall s).2.1 (rdCall s).2.2 := by
  have hc : takeC s = mkCall (rdCall s).2.1 (rdCall s).2.2 := if_pos h
  unfold takeE at h
  split at h
  · rename_i h1; exact absurd h h1
  · rename_i h1
    split at h
    · cases h
    · rename_i h2; exact ⟨by omega, by omega, h, hc⟩
theorem call_only {s : ByteArray} (hs : s.size ≤ 1000000) (h : takeE s = 0) : checkP (takeC s) = 0 ∧ putC (takeC s) = s := by
  obtain ⟨h1, h2, h3, h4⟩ := takeE_zero h
  rw [h4]
  refine ⟨h3, ?_⟩
  rw [putC, if_pos h3]
  have hU := first_row (sixR_ok hs 6) _ 10 (six_upto s hs 6 (Nat.le_refl _))
  have hw := (upto_end (rdRow_ok (sixR_ok hs 6) 10) hU h1).1
  rw [rdRow_s, six_s] at hw
  have hf : flatL (mkCall (rdCall s).2.1 (rdCall s).2.2).lines = (rdRow (sixR s 6) 10).2 := flat_pairs ((rdRow (sixR s 6) 10).2.length / 2) _ (by have : (rdRow (sixR s 6) 10).2.length % 2 = 0 := h2; show (rdRow (sixR s 6) 10).2.length = _; omega)
  unfold layC
  rw [hf]
  exact hw
/-! ### the errors -/
theorem new_code (p : ByteArray) (e : Int) : (Er.new p e).code = e := by
  unfold Er.new
  split
  · rename_i h; rw [h]; rfl
  · rename_i h
    show (match (some e : Option Int) with | some c => if c = 0 then 2 else c | Option.none => 2) = e
    simp [h]
theorem errOf_code (op p : ByteArray) (e : Int) : (errOf op p e).code = e := by
  unfold errOf
  split
  · rename_i h; rw [h]; rfl
  · rename_i h
    show (match (some e : Option Int) with | some c => if c = 0 then 2 else c | Option.none => 2) = e
    simp [h]
theorem wrap_code (p : ByteArray) {e : Er} : (Er.wrap p e).code = e.code := by
  cases e <;> rfl
theorem takeErr_code (s : ByteArray) : (takeErr s).code = takeE s := by
  unfold takeErr takeE
  split
  · rw [wrap_code, errOf_code]
  · split
    · rw [new_code]
    · rw [wrap_code, new_code]
theorem takeRErr_code (s : ByteArray) : (takeRErr s).code = (rdReply s).1.e := by unfold takeRErr; rw [wrap_code, errOf_code]
/-! ### replies -/
theorem repE_zero {r : Rp} (h : repE r = 0) : (0 ≤ r.code ∧ r.code ≤ 255) ∧ r.nums.length ≤ 20 ∧ nneg r.nums = true := by
  unfold repE at h
  split at h
  · cases h
  · rename_i h0
    exact ⟨by omega, by omega, by cases hh : nneg r.nums <;> simp_all⟩
theorem rep_back {r : Rp} (h : repE r = 0) (hf : ∀ x, x ∈ r.nums → x ≤ 9223372036854775807) : (rdReply (putR r)).1.e = 0 ∧ takeR (putR r) = r := by
  obtain ⟨h1, h2, h3⟩ := repE_zero h
  have hs : bl (putR r) = (putN r.code).1 ++ (rowN r.nums).1 := by rw [putR, if_pos h, layR_ok h]; exact bl_bs _
  have hsz : (putR r).size = ((putN r.code).1 ++ (rowN r.nums).1).length := by rw [← bl_len, hs]
  have e1 : rdNum (RdS.new (putR r)) 255 = (⟨putR r, ((putN r.code).1.length : Int), ⟨#[]⟩, 0⟩, r.code) := by
    have := back_numM (most := 255) h1.2 [] (rowN r.nums).1 (putR r) (by rw [hs]; rfl) h1.1 (by omega) ⟨#[]⟩
    simpa [RdS.new] using this
  have e2 : rdRow ⟨putR r, ((putN r.code).1.length : Int), ⟨#[]⟩, 0⟩ 20 = (⟨putR r, ((putN r.code).1.length : Int) + ((rowN r.nums).1.length : Int), ⟨#[]⟩, 0⟩, r.nums) :=
    back_rowM (most := 20) (putN r.code).1 [] (putR r) r.nums (by rw [hs]; simp) h3 hf (by omega) (by omega) _
  have e3 : rdReply (putR r) = (⟨putR r, ((putN r.code).1.length : Int) + ((rowN r.nums).1.length : Int), ⟨#[]⟩, 0⟩, r.code, r.nums) := by
    unfold rdReply
    simp only [e1, e2]
    unfold rdEnd
    rw [if_neg (by dsimp only; rw [hsz, List.length_append]; omega)]
  refine ⟨by rw [e3], ?_⟩
  unfold takeR
  rw [e3]; rfl
theorem takeC_len (s : ByteArray) : (takeC s).lines.length ≤ 1000 := by
  unfold takeC
  split
  · have h1 := rdRow_len (sixR s 6) 10
    have : ∀ l : List Int, (pairsL l).length ≤ l.length := by
      intro l
      induction l using pairsL.induct with
      | case1 a b r ih => simp [pairsL]; omega
      | case2 t h => rw [show pairsL t = [] from by unfold pairsL; split <;> simp_all]; exact Nat.zero_le _
    exact Nat.le_trans (this _) h1
  · exact Nat.zero_le _
theorem putR_len (r : Rp) : (putR r).size ≤ 1000 := by
  unfold putR
  split
  · rename_i h
    rw [layR_ok h]
    have h1 := rowN_len r.nums
    have h2 := (repE_zero h).2.1
    have a1 := putN_len r.code
    show (bs _).size ≤ _
    rw [bs_size]; simp; omega
  · exact Nat.zero_le _
end Go.Proofs.YtgebpndhnkkbgaaGreatDoor
namespace Go.Proofs.YtgebpndhnkkbgaaGreatDoor
set_option linter.unusedVariables false
set_option linter.unusedSimpArgs false
open NumP
set_option linter.unusedVariables false
set_option linter.unusedSimpArgs false
abbrev Its := List StockP.It
abbrev Ses := List SessP.Se
abbrev St := Its × Ses
abbrev tF (l : Its) (id : Int) : StockP.It := (StockP.findT l id).1
def numsP (l : Its) (id : Int) : List Int := [(tF l id).free, (tF l id).held, (tF l id).gone]
def oneP (l : Its) (c : Cl) : Its × Int :=
  if c.kind = 1 then Stk.createP l c.item c.qty else if c.kind = 2 then StockP.withP (StockP.inG c.qty) l c.item c.qty else
  if c.kind = 3 then StockP.withP (StockP.holdG c.qty) l c.item c.qty else if c.kind = 4 then StockP.withP (StockP.freeG c.qty) l c.item c.qty else StockP.withP (StockP.shipG c.qty) l c.item c.qty
def oneR (l : Its) (c : Cl) : Its × Rp := if (oneP l c).2 = 0 then ((oneP l c).1, ⟨0, numsP (oneP l c).1 c.item⟩) else (l, ⟨(oneP l c).2, []⟩)
abbrev mvP (l : Its) (c : Cl) : Its × Int := Stk.moveP l c.item c.to_ c.qty
def moveR (l : Its) (c : Cl) : Its × Rp := if (mvP l c).2 = 0 then ((mvP l c).1, ⟨0, [(tF (mvP l c).1 c.item).free, (tF (mvP l c).1 c.to_).free]⟩) else (l, ⟨(mvP l c).2, []⟩)
def queryR (l : Its) (c : Cl) : Its × Rp := if (StockP.findT l c.item).2 = true then (l, ⟨0, numsP l c.item⟩) else (l, ⟨40, []⟩)
abbrev orP (l : Its) (c : Cl) : Its × Int × Int := StockP.allP Stk.holdF l c.lines
def orderR (l : Its) (c : Cl) : Its × Rp := if (orP l c).2.2 = 0 then ((orP l c).1, ⟨0, [StockP.totalP c.lines]⟩) else (l, ⟨(orP l c).2.2, [(orP l c).2.1]⟩)
def kindR (l : Its) (c : Cl) : Its × Rp := if c.kind = 6 then moveR l c else if c.kind = 7 then queryR l c else if c.kind = 8 then orderR l c else oneR l c
/-- P33.2 -/
def doP (l : Its) (c : Cl) : Its × Rp := if Stk.okE l = 0 then (if checkP c = 0 then kindR l c else (l, ⟨checkP c, []⟩)) else (l, ⟨2, []⟩)
/-- P33.1 -/
def chkP (s : St) : Int := if Stk.okE s.1 = 0 ∧ SessP.okE s.2 = 0 then 0 else 2
abbrev asP (s : St) (p : ByteArray) : ByteArray × Bool × Int := Ssn.askP s.2 (takeC p).client (takeC p).seq
abbrev nwP (s : St) (p : ByteArray) : SessP.Se := ⟨(takeC p).client, (takeC p).seq, putR (doP s.1 (takeC p)).2⟩
abbrev ntP (s : St) (p : ByteArray) : Ses × Int := Ssn.noteP s.2 (nwP s p)
/-- P33.3 -/
def applyP (s : St) (p : ByteArray) : St × ByteArray :=
  if chkP s = 0 then
    if takeE p = 0 then
      if (asP s p).2.2 = 0 then
        if (asP s p).2.1 = true then (s, (asP s p).1) else (((doP s.1 (takeC p)).1, (ntP s p).1), putR (doP s.1 (takeC p)).2)
      else (s, putR ⟨(asP s p).2.2, []⟩)
    else (s, putR ⟨takeE p, []⟩)
  else (s, putR ⟨2, []⟩)
def stepP (a : St × List ByteArray) (p : ByteArray) : St × List ByteArray := ((applyP a.1 p).1, a.2 ++ [(applyP a.1 p).2])
/-- P33.4 -/
def foldP (s : St) (l : List ByteArray) : St × List ByteArray := l.foldl stepP (s, [])
/-! ### what it keeps -/
theorem ok_len {l : Its} (h : StockP.ok l = true) : l.length ≤ 20 := StockP.ok_len h
theorem find_bd {l : Its} (h : StockP.ok l = true) (id : Int) : (0 ≤ (tF l id).free ∧ (tF l id).free ≤ 1000000) ∧ (0 ≤ (tF l id).held ∧ (tF l id).held ≤ 1000000) ∧ (0 ≤ (tF l id).gone ∧ (tF l id).gone ≤ 1000000) := by
  unfold tF
  cases hf : (StockP.findT l id).2 with
  | false => rw [Stk.find_no2 hf]; exact ⟨by decide, by decide, by decide⟩
  | true =>
    have := StockP.may_bd (Stk.found_may (q := 1) (by unfold StockP.askedB; rw [h]; decide) hf)
    omega
theorem nums_fit {l : Its} (h : StockP.ok l = true) (id : Int) : ∀ x, x ∈ numsP l id → 0 ≤ x ∧ x ≤ 5000000 := by
  intro x hx
  have := find_bd h id
  simp only [numsP, List.mem_cons, List.not_mem_nil, or_false] at hx
  rcases hx with rfl | rfl | rfl <;> omega
theorem one_ok {l : Its} {c : Cl} (h : (oneP l c).2 = 0) : StockP.ok (oneP l c).1 = true := by
  unfold oneP at h ⊢
  by_cases h1 : c.kind = 1
  · rw [if_pos h1] at h ⊢; exact (Stk.create_sums h).2.ok
  rw [if_neg h1] at h ⊢
  by_cases h2 : c.kind = 2
  · rw [if_pos h2] at h ⊢; exact (Stk.with_sums 0 c.qty h (Stk.in_g c.qty)).2.ok
  rw [if_neg h2] at h ⊢
  by_cases h3 : c.kind = 3
  · rw [if_pos h3] at h ⊢; exact (Stk.with_sums 0 0 h (Stk.hold_g c.qty)).2.ok
  rw [if_neg h3] at h ⊢
  by_cases h4 : c.kind = 4
  · rw [if_pos h4] at h ⊢; exact (Stk.with_sums 0 0 h (Stk.free_g c.qty)).2.ok
  rw [if_neg h4] at h ⊢
  exact (Stk.with_sums 0 0 h (Stk.ship_g c.qty)).2.ok
theorem goes_ok (m : List Ln) : ∀ (i : Int) (l : Its), StockP.ok l = true → (StockP.goesP Stk.holdF i l m).2.2 = 0 → StockP.ok (StockP.goesP Stk.holdF i l m).1 = true := by
  induction m with
  | nil => intro i l h _; exact h
  | cons x m ih =>
    intro i l h h0
    rw [StockP.goesP_cons] at h0 ⊢
    by_cases e : (Stk.holdF l x.item x.qty).2 ≠ 0
    · rw [if_pos e] at h0; exact absurd h0 e
    · rw [if_neg e] at h0 ⊢
      exact ih _ _ (Stk.with_sums 0 0 (by simpa using e) (Stk.hold_g x.qty)).2.ok h0
theorem order_ok {l : Its} {c : Cl} (h : (orP l c).2.2 = 0) : StockP.ok (orP l c).1 = true := by
  unfold orP StockP.allP at h ⊢
  by_cases e : StockP.ok l = true ∧ StockP.okL c.lines = true
  · rw [if_pos e] at h ⊢; exact goes_ok _ _ _ e.1 h
  · rw [if_neg e] at h; simp at h
theorem kind_ok {l : Its} {c : Cl} (h : StockP.ok l = true) : StockP.ok (kindR l c).1 = true := by
  unfold kindR
  split
  · unfold moveR; split
    · rename_i h1; exact (Stk.move_sums h1).2.ok
    · exact h
  · split
    · unfold queryR; split <;> exact h
    · split
      · unfold orderR; split
        · rename_i h1; exact order_ok h1
        · exact h
      · unfold oneR; split
        · rename_i h1; exact one_ok h1
        · exact h
theorem do_ok {l : Its} {c : Cl} (h : StockP.ok l = true) : StockP.ok (doP l c).1 = true := by
  unfold doP; split
  · split
    · exact kind_ok h
    · exact h
  · exact h
/-! ### its answers -/
theorem with_rng {g : StockP.It → StockP.It × Int} {l : Its} {id q : Int} (hg : ∀ x, 0 ≤ (g x).2 ∧ (g x).2 ≤ 255) : 0 ≤ (StockP.withP g l id q).2 ∧ (StockP.withP g l id q).2 ≤ 255 := by
  unfold StockP.withP
  split
  · split
    · split
      · exact (by constructor <;> first | decide | (dsimp only; decide))
      · exact hg _
    · exact (by constructor <;> first | decide | (dsimp only; decide))
  · exact (by constructor <;> first | decide | (dsimp only; decide))
theorem lent_rng (b c : Int) : 0 ≤ StockP.lentE b c ∧ StockP.lentE b c ≤ 255 := by unfold StockP.lentE; split <;> omega
theorem in_rng (q : Int) (x : StockP.It) : 0 ≤ (StockP.inG q x).2 ∧ (StockP.inG q x).2 ≤ 255 := by unfold StockP.inG; split <;> exact (by constructor <;> first | decide | (dsimp only; decide))
theorem create_rng (l : Its) (i q : Int) : 0 ≤ (Stk.createP l i q).2 ∧ (Stk.createP l i q).2 ≤ 255 := by
  unfold Stk.createP; split
  · split
    · exact (by constructor <;> first | decide | (dsimp only; decide))
    · split <;> exact (by constructor <;> first | decide | (dsimp only; decide))
  · exact (by constructor <;> first | decide | (dsimp only; decide))
theorem move_rng (l : Its) (a b q : Int) : 0 ≤ (Stk.moveP l a b q).2 ∧ (Stk.moveP l a b q).2 ≤ 255 := by
  unfold Stk.moveP; split
  · split
    · exact (by constructor <;> first | decide | (dsimp only; decide))
    · split
      · exact with_rng (in_rng q)
      · exact with_rng (fun x => lent_rng _ _)
  · exact (by constructor <;> first | decide | (dsimp only; decide))
theorem one_rng (l : Its) (c : Cl) : 0 ≤ (oneP l c).2 ∧ (oneP l c).2 ≤ 255 := by
  unfold oneP
  split
  · exact create_rng _ _ _
  · split
    · exact with_rng (in_rng _)
    · split
      · exact with_rng (fun x => lent_rng _ _)
      · split
        · exact with_rng (fun x => lent_rng _ _)
        · exact with_rng (fun x => lent_rng _ _)
theorem goes_rng (m : List Ln) : ∀ (i : Int) (l : Its), 0 ≤ i → (0 ≤ (StockP.goesP Stk.holdF i l m).2.2 ∧ (StockP.goesP Stk.holdF i l m).2.2 ≤ 255) ∧ (0 ≤ (StockP.goesP Stk.holdF i l m).2.1 ∧ (StockP.goesP Stk.holdF i l m).2.1 ≤ i + m.length) := by
  induction m with
  | nil => intro i l h; exact ⟨⟨(show (0 : Int) ≤ 0 by decide), (show (0 : Int) ≤ 255 by decide)⟩, by show 0 ≤ i; omega, by show i ≤ _; simp⟩
  | cons x m ih =>
    intro i l h
    rw [StockP.goesP_cons]
    split
    · exact ⟨with_rng (fun x => lent_rng _ _), h, by simp only [List.length_cons]; omega⟩
    · have := ih (i + 1) (Stk.holdF l x.item x.qty).1 (by omega)
      rw [List.length_cons]; omega
theorem order_rng (l : Its) (c : Cl) : (0 ≤ (orP l c).2.2 ∧ (orP l c).2.2 ≤ 255) ∧ (0 ≤ (orP l c).2.1 ∧ (orP l c).2.1 ≤ 5) := by
  unfold orP StockP.allP
  split
  · rename_i h
    have := goes_rng c.lines 0 l (by omega)
    have h2 := Stk.okL_len h.2
    omega
  · exact ⟨(by constructor <;> first | decide | (dsimp only; decide)), (by constructor <;> first | decide | (dsimp only; decide))⟩
theorem total_bd (m : List Ln) : 0 ≤ StockP.totalP m ∧ StockP.totalP m ≤ 5000000 := by
  unfold StockP.totalP
  split
  · rename_i h
    have h1 := Stk.sumF_bd h m.length (Nat.le_refl _)
    rw [List.take_length] at h1
    have h2 := Stk.okL_len h
    omega
  · exact (by constructor <;> first | decide | (dsimp only; decide))
/-- a reply that is told in time -/
structure Fine (r : Rp) : Prop where
  code : 0 ≤ r.code ∧ r.code ≤ 255
  len : r.nums.length ≤ 3
  fit : ∀ x, x ∈ r.nums → 0 ≤ x ∧ x ≤ 5000000
theorem Fine.bare {e : Int} (h : 0 ≤ e ∧ e ≤ 255) : Fine ⟨e, []⟩ := ⟨h, Nat.zero_le _, fun x hx => by cases hx⟩
theorem Fine.one {e n : Int} (h : 0 ≤ e ∧ e ≤ 255) (hn : 0 ≤ n ∧ n ≤ 5000000) : Fine ⟨e, [n]⟩ := ⟨h, Nat.le_add_left 1 2, fun x hx => by simp at hx; subst hx; exact hn⟩
theorem Fine.rep {r : Rp} (h : Fine r) : repE r = 0 := by
  unfold repE
  rw [if_neg]
  have h1 := h.code
  have h2 := h.len
  have h3 : nneg r.nums = true := nneg_of fun x hx => (h.fit x hx).1
  rw [h3]; simp; omega
theorem Fine.num {r : Rp} (h : Fine r) : ∀ x, x ∈ r.nums → -9223372036854775808 ≤ x ∧ x ≤ 9223372036854775807 := fun x hx => by have := h.fit x hx; omega
theorem Fine.small {r : Rp} (h : Fine r) : (putR r).size ≤ 100 := by
  have he := h.rep
  have hl := h.len
  have hn : nneg r.nums = true := nneg_of fun x hx => (h.fit x hx).1
  unfold putR
  rw [if_pos he, layR_ok he]
  unfold WrS.out
  rw [if_pos rfl]
  show ((putN r.code).1 ++ (rowN r.nums).1).length ≤ 100
  rw [List.length_append]
  have h1 := putN_len r.code
  unfold rowN
  rw [if_pos hn]
  have h2 := putN_len (r.nums.length : Int)
  have h3 := rowBytes_len r.nums
  rw [List.length_append]; omega
theorem kind_fine {l : Its} {c : Cl} (h : StockP.ok l = true) : Fine (kindR l c).2 := by
  unfold kindR
  split
  · unfold moveR; split
    · rename_i h1
      have hk := (Stk.move_sums h1).2.ok
      refine ⟨(by constructor <;> first | decide | (dsimp only; decide)), Nat.le_succ _, fun x hx => ?_⟩
      have b1 := find_bd hk c.item
      have b2 := find_bd hk c.to_
      simp only [List.mem_cons, List.not_mem_nil, or_false] at hx
      rcases hx with rfl | rfl
      · exact ⟨b1.1.1, Int.le_trans b1.1.2 (by decide)⟩
      · exact ⟨b2.1.1, Int.le_trans b2.1.2 (by decide)⟩
    · exact .bare (move_rng _ _ _ _)
  · split
    · unfold queryR; split
      · exact ⟨(by constructor <;> first | decide | (dsimp only; decide)), Nat.le_refl _, nums_fit h _⟩
      · exact .bare (by constructor <;> first | decide | (dsimp only; decide))
    · split
      · unfold orderR; split
        · exact .one (by constructor <;> first | decide | (dsimp only; decide)) (total_bd _)
        · have := order_rng l c
          exact .one this.1 (by omega)
      · unfold oneR; split
        · rename_i h1
          exact ⟨(by constructor <;> first | decide | (dsimp only; decide)), Nat.le_refl _, nums_fit (one_ok h1) _⟩
        · exact .bare (one_rng _ _)
theorem check_rng (c : Cl) : 0 ≤ checkP c ∧ checkP c ≤ 255 := by rcases check_two c with h | h | h <;> rw [h] <;> exact (by constructor <;> first | decide | (dsimp only; decide))
theorem do_fine (l : Its) (c : Cl) : Fine (doP l c).2 := by
  unfold doP; split
  · rename_i h
    split
    · exact kind_fine (Stk.okE_ok.1 h)
    · exact .bare (check_rng c)
  · exact .bare (by constructor <;> first | decide | (dsimp only; decide))
theorem do_len (l : Its) (c : Cl) (hl : l.length ≤ 60) : (doP l c).1.length ≤ 60 := by
  by_cases h : Stk.okE l = 0
  · have := ok_len (do_ok (c := c) (Stk.okE_ok.1 h)); omega
  · unfold doP; rw [if_neg h]; exact hl
/-! ### what a payload is told -/
theorem chk_zero {s : St} (h : chkP s = 0) : Stk.okE s.1 = 0 ∧ SessP.okE s.2 = 0 := by unfold chkP at h; split at h <;> simp_all
theorem chk_mk {s : St} (h1 : Stk.okE s.1 = 0) (h2 : SessP.okE s.2 = 0) : chkP s = 0 := if_pos ⟨h1, h2⟩
theorem note_zero {s : St} {p : ByteArray} (ht : takeE p = 0) (hp : p.size ≤ 1000000) (h : (asP s p).2.2 = 0) (h2 : (asP s p).2.1 = false) : (ntP s p).2 = 0 := by
  unfold ntP Ssn.noteP
  have hm : SessP.may (nwP s p) = true := by
    have ha := (Ssn.askP_ok h).2
    have hsz := (do_fine s.1 (takeC p)).small
    rw [Ssn.may_iff]
    have n1 := Ssn.numB_iff (takeC p).client
    have n2 := Ssn.numB_iff (takeC p).seq
    refine ⟨?_, ?_, ?_⟩
    · exact n1.1 ha.1
    · exact n2.1 ha.2
    · show ((putR (doP s.1 (takeC p)).2).size : Int) ≤ 300; omega
  rw [if_pos h, if_pos hm, if_neg (by rw [show (Ssn.askP s.2 (nwP s p).client (nwP s p).seq).2.1 = (asP s p).2.1 from rfl, h2]; simp)]
theorem ses_len {l : Ses} (h : SessP.okE l = 0) : l.length ≤ 20 := (Ssn.okE_ok h).1
theorem apply_len (s : St) (p : ByteArray) (hp : p.size ≤ 1000000) (h1 : s.1.length ≤ 60) (h2 : s.2.length ≤ 60) : (applyP s p).1.1.length ≤ 60 ∧ (applyP s p).1.2.length ≤ 60 := by
  unfold applyP
  split
  · split
    · rename_i ht
      split
      · rename_i ha
        split
        · exact ⟨h1, h2⟩
        · rename_i hg
          have := ses_len (Ssn.note_ok (note_zero ht hp ha (by simpa using hg)))
          exact ⟨do_len _ _ h1, Nat.le_trans this (by decide)⟩
      · exact ⟨h1, h2⟩
    · exact ⟨h1, h2⟩
  · exact ⟨h1, h2⟩
theorem fold_snoc (s : St) (l : List ByteArray) (x : ByteArray) : foldP s (l ++ [x]) = stepP (foldP s l) x := by unfold foldP; rw [List.foldl_append]; rfl
theorem fold_at (s : St) (l : List ByteArray) (k : Nat) (h : k < l.length) : foldP s (l.take (k + 1)) = stepP (foldP s (l.take k)) (l.getD k default) := by
  rw [List.take_succ_eq_append_getElem h, fold_snoc]; simp [List.getD, h]
theorem fold_len (s : St) (l : List ByteArray) (hl : ∀ x, x ∈ l → x.size ≤ 1000000) (h1 : s.1.length ≤ 60) (h2 : s.2.length ≤ 60) : ∀ k, k ≤ l.length → ((foldP s (l.take k)).1.1.length ≤ 60 ∧ (foldP s (l.take k)).1.2.length ≤ 60) ∧ (foldP s (l.take k)).2.length = k := by
  intro k
  induction k with
  | zero => intro _; exact ⟨⟨h1, h2⟩, rfl⟩
  | succ k ih =>
    intro hk
    obtain ⟨⟨i1, i2⟩, i3⟩ := ih (by omega)
    rw [fold_at s l k (by omega)]
    have hx : (l.getD k default).size ≤ 1000000 := by rw [show l.getD k default = l[k] from by simp [List.getD, show k < l.length by omega]]; exact hl _ (List.getElem_mem _)
    refine ⟨apply_len _ _ hx i1 i2, ?_⟩
    show ((foldP s (l.take k)).2 ++ [_]).length = k + 1
    rw [List.length_append, i3]; rfl
end Go.Proofs.YtgebpndhnkkbgaaGreatDoor
