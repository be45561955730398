/- Package call, by the abstract machine. -/
import Derived.Test.YthogpkmidffdeaaDoorAmText
import Derived.Test.YthogpkmidffdeaaDoorCallPlain
namespace Go.Proofs.YthogpkmidffdeaaDoor
set_option linter.unusedVariables false
set_option linter.unusedSimpArgs false
open Go.RowKit
open NumP
set_option maxRecDepth 100000
def aLn (s : Ln) : AV := .agg [.int .i64 s.item, .int .i64 s.qty]
theorem aLn_ext {x y : Ln} (h : x.item = y.item ∧ x.qty = y.qty) : x = y := by
  obtain ⟨a0, a1⟩ := x
  obtain ⟨b0, b1⟩ := y
  simp only at h
  obtain ⟨rfl, rfl⟩ := h
  rfl
theorem aLn_ne {x y : Ln} (h : ¬x.item = y.item ∨ ¬x.qty = y.qty) : x ≠ y := by
  intro e; subst e; simp at h
theorem Ln_idx {l : List Ln} {k : Nat} (h : k < l.length) : l.getD k default = l[k] := by simp [List.getD, h]
def aCl (c : Cl) : AV := .agg [.int .i64 c.client, .int .i64 c.seq, .int .i64 c.kind, .int .i64 c.item, .int .i64 c.to_, .int .i64 c.qty, .sl (c.lines.map aLn)]
def aRp (r : Rp) : AV := .agg [.int .i64 r.code, .sl (r.nums.map (AV.int .i64))]
theorem okAt_not (l : List Ln) (k : Nat) : (!numbP (l.getD k default).item || decide ((l.getD k default).item ≤ lastAt l k) || !someP (l.getD k default).qty) = !okAt l k := by
  cases h : numbP (l.getD k default).item with
  | false => unfold okAt; rw [h]; rfl
  | true =>
    unfold okAt
    rw [okAt_iff l k h, h]
    by_cases h2 : lastAt l k < (l.getD k default).item
    · rw [decide_eq_true h2, decide_eq_false (by omega)]; simp
    · rw [decide_eq_false h2, decide_eq_true (by omega)]; simp
theorem new_none (p : ByteArray) (e : Int) : (Er.new p e).isNone = decide (e = 0) := by unfold Er.new; split <;> simp_all [Er.isNone]
theorem wrap_none (p : ByteArray) (e : Er) : (Er.wrap p e).isNone = e.isNone := by unfold Er.wrap; split <;> simp_all [Er.isNone]
theorem flat_snoc (l : List Ln) (k : Nat) (h : k < l.length) : (flatL (l.take k)).map (AV.int .i64) ++ [AV.int .i64 (l.getD k default).item, AV.int .i64 (l.getD k default).qty] = (flatL (l.take (k + 1))).map (AV.int .i64) := by rw [flatL_take l k h]; simp
theorem any_neg (l : List Int) : (l.any fun n => decide (n < 0)) = !nneg l := by
  induction l with
  | nil => rfl
  | cons x l ih => simp only [List.any_cons, nneg, List.all_cons] at ih ⊢; rw [ih]; by_cases h : x < 0 <;> simp [h] <;> omega
theorem pair_snoc (l : List Int) (k : Nat) (h : 2 * k + 1 < l.length) : (pairsL (l.take (2 * k))).map aLn ++ [AV.agg [AV.int .i64 (l.getD (2 * k) default), AV.int .i64 (l.getD (2 * k + 1) default)]] = (pairsL (l.take (2 * (k + 1)))).map aLn := by rw [pairsL_take l k h]; simp [aLn]
theorem pairsL_len : ∀ l : List Int, (pairsL l).length ≤ l.length
  | [] => Nat.le_refl _
  | [_] => by simp [pairsL]
  | a :: b :: r => by have := pairsL_len r; simp [pairsL]; omega
theorem last_succ (l : List Ln) (k : Nat) : lastAt l (k + 1) = (l.getD k default).item := by simp [lastAt]
theorem okAt_nR (l : List Ln) (k : Nat) (a : Int) (ha : 0 < k → a = (l.getD (k - 1) default).item) : (!numbP (l.getD k default).item || decide ((l.getD k default).qty < 1) || decide (1000000 < (l.getD k default).qty) || (decide (0 < (k : Int)) && decide ((l.getD k default).item ≤ a))) = !okAt l k := by
  unfold okAt someP
  by_cases hk : 0 < k
  · rw [ha hk]
    cases h : numbP (l.getD k default).item <;> simp [show ¬ k = 0 by omega, hk] <;> by_cases h1 : (l.getD k default).qty < 1 <;> by_cases h2 : 1000000 < (l.getD k default).qty <;> by_cases h3 : (l.getD k default).item ≤ (l.getD (k - 1) default).item <;> simp_all <;> omega
  · obtain rfl : k = 0 := by omega
    cases h : numbP (l.getD 0 default).item <;> simp <;> by_cases h1 : (l.getD 0 default).qty < 1 <;> by_cases h2 : 1000000 < (l.getD 0 default).qty <;> simp_all <;> omega
set_option maxHeartbeats 1000000 in
theorem number_fn (n : Int) : FnP Tryd.prog 54 [.int .i64 n] (.bool (numbP n)) := by
  refine FnP.of Tryd.func54 rfl rfl (by simp) (by simp [AV.cells, aIn, aOut, aLn, aCl, aRp]) (fun G hG => ?_)
  have hN : NoH G.length (.bool (numbP n)) := (by simp [AV.cells, aIn, aOut, aLn, aCl, aRp])
  refine AWP.seq ?_
  refine AWP.region (fun _ => ?_)
  refine ARun.move (.inr rfl) rfl rfl rfl (Ev.plain rfl) optN ?_
  refine ⟨_, _, rfl, hG, ?_⟩
  refine thenA_n ?_
  refine AWP.seq ?_
  refine AWP.region (fun _ => ?_)
  refine ARun.move (.inl rfl) rfl rfl rfl (Ev.plain rfl) optN ?_
  refine ARun.cmp rfl rfl rfl rfl (Ev.plain rfl) (Ev.plain rfl) rfl optN ?_
  refine ARun.move (.inl rfl) rfl rfl rfl (Ev.plain rfl) optN ?_
  refine ARun.move (.inl rfl) rfl rfl rfl (Ev.plain rfl) optS ?_
  refine ARun.cmp rfl rfl rfl rfl (Ev.opt rfl (fun h => h)) (Ev.plain rfl) rfl optS ?_
  refine ARun.pick rfl rfl rfl rfl (Ev.plain rfl) (Ev.opt rfl (by first | exact pkT | exact pkT2 | simp +contextual)) (Ev.plain rfl) (andB _ _) optN ?_
  refine ARun.move (.inr rfl) rfl rfl rfl (Ev.plain rfl) optN ?_
  refine ⟨_, _, rfl, hG, ?_⟩
  refine thenA_n ?_
  refine AWP.ret ?_
  refine endF.one (.inr rfl) rfl (.tmp rfl) ?_ hN
  rfl
set_option maxHeartbeats 1000000 in
theorem some_fn (n : Int) : FnP Tryd.prog 68 [.int .i64 n] (.bool (someP n)) := by
  refine FnP.of Tryd.func68 rfl rfl (by simp) (by simp [AV.cells, aIn, aOut, aLn, aCl, aRp]) (fun G hG => ?_)
  have hN : NoH G.length (.bool (someP n)) := (by simp [AV.cells, aIn, aOut, aLn, aCl, aRp])
  refine AWP.seq ?_
  refine AWP.region (fun _ => ?_)
  refine ARun.move (.inr rfl) rfl rfl rfl (Ev.plain rfl) optN ?_
  refine ⟨_, _, rfl, hG, ?_⟩
  refine thenA_n ?_
  refine AWP.seq ?_
  refine AWP.region (fun _ => ?_)
  refine ARun.move (.inl rfl) rfl rfl rfl (Ev.plain rfl) optN ?_
  refine ARun.cmp rfl rfl rfl rfl (Ev.plain rfl) (Ev.plain rfl) rfl optN ?_
  refine ARun.move (.inl rfl) rfl rfl rfl (Ev.plain rfl) optN ?_
  refine ARun.move (.inl rfl) rfl rfl rfl (Ev.plain rfl) optS ?_
  refine ARun.cmp rfl rfl rfl rfl (Ev.opt rfl (fun h => h)) (Ev.plain rfl) rfl optS ?_
  refine ARun.pick rfl rfl rfl rfl (Ev.plain rfl) (Ev.opt rfl (by first | exact pkT | exact pkT2 | simp +contextual)) (Ev.plain rfl) (andB _ _) optN ?_
  refine ARun.move (.inr rfl) rfl rfl rfl (Ev.plain rfl) optN ?_
  refine ⟨_, _, rfl, hG, ?_⟩
  refine thenA_n ?_
  refine AWP.ret ?_
  refine endF.one (.inr rfl) rfl (.tmp rfl) ?_ hN
  rfl
set_option maxHeartbeats 1000000 in
theorem lines_fn (l : List Ln) (hl : l.length ≤ 100000) : FnP Tryd.prog 69 [.sl (l.map aLn)] (.bool (linesP l)) := by
  refine FnP.of Tryd.func69 rfl rfl (by simp) (by simp [AV.cells, aIn, aOut, aLn, aCl, aRp]) (fun G hG => ?_)
  have hN : NoH G.length (.bool (linesP l)) := (by simp [AV.cells, aIn, aOut, aLn, aCl, aRp])
  refine AWP.seq ?_
  refine AWP.region (fun _ => ?_)
  refine ARun.move (.inr rfl) rfl rfl rfl (Ev.plain rfl) optN ?_
  refine ⟨_, _, rfl, hG, ?_⟩
  refine thenA_n ?_
  refine AWP.seq ?_
  refine AWP.region (fun _ => ?_)
  refine ARun.move (.inr rfl) rfl rfl rfl (Ev.plain rfl) optN ?_
  refine ⟨_, _, rfl, hG, ?_⟩
  refine thenA_n ?_
  refine AWP.seq ?_
  refine AWP.seq ?_
  refine AWP.region (fun _ => ?_)
  refine ARun.move (.inl rfl) rfl rfl rfl (Ev.plain rfl) optN ?_
  refine ARun.lenSl rfl rfl rfl rfl Tryd.underlying48 (Ev.plain rfl) optN ?_
  refine ARun.move (.inl rfl) rfl rfl rfl (Ev.plain rfl) optN ?_
  refine ⟨_, _, rfl, hG, ?_⟩
  refine thenA_n ?_
  refine AWP.block ?_
  refine AWP.rounds (fun k => k ≤ l.length ∧ ∀ j, j < k → okAt l j = true) (fun k => [(0, .sl (l.map aLn)), (3, .int .i64 (lastAt l k)), (6, .sl (l.map aLn)), (7, .int .i64 ((l.map aLn).length : Int)), (8, .int .i64 (k : Int))]) (fun k => []) (fun k => l.length - k) 0 0 ⟨by omega, fun j h => by omega⟩ (by repeat (first | exact .nil | refine .cons rfl ?_)) rfl (fun _ => rfl) (fun _ => ⟨by simp [AV.cells, aLn], by simp⟩) (fun k hI => ?_)
  obtain ⟨hk, hno⟩ := hI
  refine AWP.seq ?_
  refine AWP.region (fun _ => ?_)
  refine ARun.cmp rfl rfl rfl rfl (Ev.plain rfl) (Ev.plain rfl) rfl optN ?_
  refine ⟨_, _, rfl, hG, ?_⟩
  refine thenA_n ?_
  refine AWP.seq ?_
  refine AWP.cond rfl (fun h0 => ?_) (fun h0 => ?_)
  · skip
    try simp [-List.getD_eq_getElem?_getD] at h0
    refine AWP.skip ?_
    refine thenA_n ?_
    refine AWP.seq ?_
    refine AWP.block ?_
    refine AWP.seq ?_
    refine AWP.region (fun _ => ?_)
    first | refine ARun.indexSl rfl rfl rfl rfl Tryd.underlying48 sz72 (Ev.plain rfl) (Ev.plain rfl) (fun _ => rfl) (fun hg => getMap _ _ _ (by (try simp at hg); omega)) rfl rfl optN ?_ | refine ARun.indexSl rfl rfl rfl rfl Tryd.underlying48 sz72 (Ev.plain rfl) (Ev.plain rfl) (fun hg => ofNonneg (by (try simp at hg); omega)) (fun hg => getMap _ _ _ (by (try simp at hg); omega)) rfl rfl optN ?_
    refine ARun.loadPeA rfl rfl rfl rfl Tryd.underlying72 rfl sz72 (Ev.plain rfl) rfl optN ?_
    refine ARun.alloc (j := 0) hG rfl rfl rfl rfl rfl zv72 rfl optN ?_
    refine ARun.storeL hG rfl rfl rfl sz72 (Ev.plain rfl) (Ev.plain rfl) rfl rfl rfl rfl rfl (Nat.le_of_ble_eq_true rfl) rfl rfl ?_
    refine ⟨_, _, rfl, hG, ?_⟩
    refine thenA_n ?_
    refine AWP.seq ?_
    refine AWP.seq ?_
    refine AWP.region (fun _ => ?_)
    refine ARun.fieldBox (fo := 0) rfl rfl rfl rfl Tryd.underlying72 rfl rfl sz3 (by decide) (Ev.plain rfl) ((hG.at _ _).trans rfl) optN ?_
    refine ARun.loadBox rfl rfl rfl rfl Tryd.underlying3 rfl (Ev.plain rfl) ((hG.at _ _).trans rfl) rfl optN ?_
    refine ARun.call rfl rfl rfl rfl cf54 (Ev.plain rfl) (.cons (Ev.plain rfl) .nil) rfl (fun hg => number_fn (l.getD k default).item) optN ?_
    refine ARun.not rfl rfl rfl rfl (Ev.plain rfl) optN ?_
    refine ARun.move (.inl rfl) rfl rfl rfl (Ev.plain rfl) optN ?_
    refine ARun.fieldBox (fo := 0) rfl rfl rfl rfl Tryd.underlying72 rfl rfl sz3 (by decide) (Ev.plain rfl) ((hG.at _ _).trans rfl) optS ?_
    refine ARun.loadBox rfl rfl rfl rfl Tryd.underlying3 rfl (Ev.opt rfl (fun h => h)) ((hG.at _ _).trans rfl) rfl optS ?_
    refine ARun.move (.inl rfl) rfl rfl rfl (Ev.plain rfl) optS ?_
    refine ARun.cmp rfl rfl rfl rfl (Ev.opt rfl (fun h => h)) (Ev.opt rfl (fun h => h)) rfl optS ?_
    refine ARun.pick rfl rfl rfl rfl (Ev.plain rfl) (Ev.plain rfl) (Ev.opt rfl (by first | exact pkF | exact pkF2 | simp +contextual)) (orB _ _) optN ?_
    refine ARun.move (.inl rfl) rfl rfl rfl (Ev.plain rfl) optN ?_
    refine ARun.fieldBox (fo := 1) rfl rfl rfl rfl Tryd.underlying72 rfl rfl sz3 (by decide) (Ev.plain rfl) ((hG.at _ _).trans rfl) optS ?_
    refine ARun.loadBox rfl rfl rfl rfl Tryd.underlying3 rfl (Ev.opt rfl (fun h => h)) ((hG.at _ _).trans rfl) rfl optS ?_
    refine ARun.call rfl rfl rfl rfl cf68 (Ev.plain rfl) (.cons (Ev.opt rfl (fun h => h)) .nil) rfl (fun hg => some_fn (l.getD k default).qty) optS ?_
    refine ARun.not rfl rfl rfl rfl (Ev.opt rfl (fun h => h)) optS ?_
    refine ARun.pick rfl rfl rfl rfl (Ev.plain rfl) (Ev.plain rfl) (Ev.opt rfl (by first | exact pkF | exact pkF2 | simp +contextual)) (orB _ _) optN ?_
    refine ⟨_, _, rfl, hG, ?_⟩
    refine thenA_n ?_
    refine AWP.cond rfl (fun h1 => ?_) (fun h1 => ?_)
    · skip
      rw [show (!numbP (l.getD k default).item || decide ((l.getD k default).item ≤ lastAt l k) || !someP (l.getD k default).qty) = !okAt l k from okAt_not l k] at h1
      simp only [Bool.not_eq_true'] at h1
      refine AWP.seq ?_
      refine AWP.region (fun _ => ?_)
      refine ARun.move (.inr rfl) rfl rfl rfl (Ev.plain rfl) optN ?_
      refine ⟨_, _, rfl, hG, ?_⟩
      refine thenA_n ?_
      refine AWP.ret ?_
      refine thenA_r ?_
      refine blockA_r ?_
      refine thenA_r ?_
      refine thenA_r ?_
      refine blockA_r ?_
      refine thenA_r ?_
      refine endF.one (.inr rfl) rfl (.tmp rfl) ?_ hN
      rw [linesP_no (by omega) h1]; rfl
    · skip
      rw [show (!numbP (l.getD k default).item || decide ((l.getD k default).item ≤ lastAt l k) || !someP (l.getD k default).qty) = !okAt l k from okAt_not l k] at h1
      simp only [Bool.not_eq_false'] at h1
      refine AWP.skip ?_
      refine thenA_n ?_
      refine AWP.region (fun _ => ?_)
      refine ARun.fieldBox (fo := 0) rfl rfl rfl rfl Tryd.underlying72 rfl rfl sz3 (by decide) (Ev.plain rfl) ((hG.at _ _).trans rfl) optN ?_
      refine ARun.loadBox rfl rfl rfl rfl Tryd.underlying3 rfl (Ev.plain rfl) ((hG.at _ _).trans rfl) rfl optN ?_
      refine ARun.move (.inr rfl) rfl rfl rfl (Ev.plain rfl) optN ?_
      refine ⟨_, _, rfl, hG, ?_⟩
      refine blockA_n ?_
      refine thenA_n ?_
      refine AWP.region (fun _ => ?_)
      first | refine ARun.arith rfl rfl rfl rfl (Ev.plain rfl) (Ev.plain rfl) rfl (fun hg => i64w (by (try simp at hg); omega)) optN ?_ | refine ARun.arith rfl rfl rfl rfl (Ev.plain rfl) (Ev.plain rfl) rfl (fun _ => rfl) optN ?_
      refine ARun.move (.inl rfl) rfl rfl rfl (Ev.plain rfl) optN ?_
      refine ⟨_, _, rfl, hG, ?_⟩
      refine thenA_n ⟨rfl, k + 1, _, ?_, ?_, rfl, ?_⟩
      · refine ⟨by omega, fun j hj => ?_⟩
        by_cases e : j = k
        · subst e; exact h1
        · exact hno j (by omega)
      · rw [last_succ]
        repeat (first | exact .nil | refine .cons rfl ?_)
      · omega
  · skip
    try simp [-List.getD_eq_getElem?_getD] at h0
    refine AWP.exit ?_
    refine thenA_x ?_
    refine thenA_x ?_
    refine blockA_h ?_
    refine thenA_n ?_
    refine AWP.seq ?_
    refine AWP.region (fun _ => ?_)
    refine ARun.move (.inl rfl) rfl rfl rfl (Ev.plain rfl) optN ?_
    refine ARun.lenSl rfl rfl rfl rfl Tryd.underlying48 (Ev.plain rfl) optN ?_
    refine ARun.cmp rfl rfl rfl rfl (Ev.plain rfl) (Ev.plain rfl) rfl optN ?_
    refine ARun.move (.inl rfl) rfl rfl rfl (Ev.plain rfl) optN ?_
    refine ARun.move (.inl rfl) rfl rfl rfl (Ev.plain rfl) optS ?_
    refine ARun.lenSl rfl rfl rfl rfl Tryd.underlying48 (Ev.opt rfl (fun h => h)) optS ?_
    refine ARun.cmp rfl rfl rfl rfl (Ev.opt rfl (fun h => h)) (Ev.plain rfl) rfl optS ?_
    refine ARun.pick rfl rfl rfl rfl (Ev.plain rfl) (Ev.opt rfl (by first | exact pkT | exact pkT2 | simp +contextual)) (Ev.plain rfl) (andB _ _) optN ?_
    refine ARun.move (.inr rfl) rfl rfl rfl (Ev.plain rfl) optN ?_
    refine ⟨_, _, rfl, hG, ?_⟩
    refine thenA_n ?_
    refine AWP.ret ?_
    refine endF.one (.inr rfl) rfl (.tmp rfl) ?_ hN
    rw [linesP_yes (fun j hj => hno j (by omega))]; first | (simp; done) | (simp; congr 1; exact decide_eq_decide.2 (by omega))
set_option maxHeartbeats 1000000 in
theorem bare_fn (c : Cl) : FnP Tryd.prog 67 [aCl c] (.bool (bareP c)) := by
  refine FnP.of Tryd.func67 rfl rfl (by simp) (by simp [AV.cells, aIn, aOut, aLn, aCl, aRp]) (fun G hG => ?_)
  have hN : NoH G.length (.bool (bareP c)) := (by simp [AV.cells, aIn, aOut, aLn, aCl, aRp])
  refine AWP.seq ?_
  refine AWP.region (fun _ => ?_)
  refine ARun.boxPe rfl rfl rfl rfl (Ev.plain rfl) rfl rfl optN ?_
  refine ARun.move (.inr rfl) rfl rfl rfl (Ev.plain rfl) optN ?_
  refine ⟨_, _, rfl, hG, ?_⟩
  refine thenA_n ?_
  refine AWP.seq ?_
  refine AWP.region (fun _ => ?_)
  refine ARun.fieldPe rfl rfl rfl rfl Tryd.underlying50 rfl rfl sz3 (by decide) (Ev.plain rfl) rfl optN ?_
  refine ARun.loadPe rfl rfl rfl rfl Tryd.underlying3 rfl (Ev.plain rfl) rfl optN ?_
  refine ARun.cmp rfl rfl rfl rfl (Ev.plain rfl) (Ev.plain rfl) rfl optN ?_
  refine ARun.move (.inl rfl) rfl rfl rfl (Ev.plain rfl) optN ?_
  refine ARun.fieldPe rfl rfl rfl rfl Tryd.underlying50 rfl rfl sz48 (by decide) (Ev.plain rfl) rfl optS ?_
  refine ARun.loadPe rfl rfl rfl rfl Tryd.underlying48 rfl (Ev.opt rfl (fun h => h)) rfl optS ?_
  refine ARun.lenSl rfl rfl rfl rfl Tryd.underlying48 (Ev.opt rfl (fun h => h)) optS ?_
  refine ARun.cmp rfl rfl rfl rfl (Ev.opt rfl (fun h => h)) (Ev.plain rfl) rfl optS ?_
  refine ARun.pick rfl rfl rfl rfl (Ev.plain rfl) (Ev.opt rfl (by first | exact pkT | exact pkT2 | simp +contextual)) (Ev.plain rfl) (andB _ _) optN ?_
  refine ARun.move (.inl rfl) rfl rfl rfl (Ev.plain rfl) optN ?_
  refine ARun.fieldPe rfl rfl rfl rfl Tryd.underlying50 rfl rfl sz3 (by decide) (Ev.plain rfl) rfl optS ?_
  refine ARun.loadPe rfl rfl rfl rfl Tryd.underlying3 rfl (Ev.opt rfl (fun h => h)) rfl optS ?_
  refine ARun.call rfl rfl rfl rfl cf54 (Ev.plain rfl) (.cons (Ev.opt rfl (fun h => h)) .nil) rfl (fun hg => number_fn c.item) optS ?_
  refine ARun.pick rfl rfl rfl rfl (Ev.plain rfl) (Ev.opt rfl (by first | exact pkT | exact pkT2 | simp +contextual)) (Ev.plain rfl) (andB _ _) optN ?_
  refine ARun.move (.inr rfl) rfl rfl rfl (Ev.plain rfl) optN ?_
  refine ⟨_, _, rfl, hG, ?_⟩
  refine thenA_n ?_
  refine AWP.ret ?_
  refine endF.one (.inr rfl) rfl (.tmp rfl) ?_ hN
  simp [bareP]
set_option maxHeartbeats 1000000 in
theorem may_fn (c : Cl) (hl : c.lines.length ≤ 100000) : FnP Tryd.prog 55 [aCl c] (.bool (mayP c)) := by
  refine FnP.of Tryd.func55 rfl rfl (by simp) (by simp [AV.cells, aIn, aOut, aLn, aCl, aRp]) (fun G hG => ?_)
  have hN : NoH G.length (.bool (mayP c)) := (by simp [AV.cells, aIn, aOut, aLn, aCl, aRp])
  refine AWP.seq ?_
  refine AWP.region (fun _ => ?_)
  refine ARun.boxPe rfl rfl rfl rfl (Ev.plain rfl) rfl rfl optN ?_
  refine ARun.move (.inr rfl) rfl rfl rfl (Ev.plain rfl) optN ?_
  refine ⟨_, _, rfl, hG, ?_⟩
  refine thenA_n ?_
  refine AWP.seq ?_
  refine AWP.seq ?_
  refine AWP.region (fun _ => ?_)
  refine ARun.fieldPe rfl rfl rfl rfl Tryd.underlying50 rfl rfl sz3 (by decide) (Ev.plain rfl) rfl optN ?_
  refine ARun.loadPe rfl rfl rfl rfl Tryd.underlying3 rfl (Ev.plain rfl) rfl optN ?_
  refine ⟨_, _, rfl, hG, ?_⟩
  refine thenA_n ?_
  refine AWP.block ?_
  refine AWP.seq ?_
  refine AWP.region (fun _ => ?_)
  refine ARun.cmp rfl rfl rfl rfl (Ev.plain rfl) (Ev.plain rfl) rfl optN ?_
  refine ARun.move (.inr rfl) rfl rfl rfl (Ev.plain rfl) optN ?_
  refine ⟨_, _, rfl, hG, ?_⟩
  refine thenA_n ?_
  refine AWP.cond rfl (fun h0 => ?_) (fun h0 => ?_)
  · skip
    simp at h0
    refine AWP.seq ?_
    refine AWP.region (fun _ => ?_)
    refine ARun.loadPeA rfl rfl rfl rfl Tryd.underlying50 rfl sz50 (Ev.plain rfl) rfl optN ?_
    refine ARun.call rfl rfl rfl rfl cf67 (Ev.plain rfl) (.cons (Ev.plain rfl) .nil) rfl (fun hg => bare_fn c) optN ?_
    refine ARun.move (.inl rfl) rfl rfl rfl (Ev.plain rfl) optN ?_
    refine ARun.fieldPe rfl rfl rfl rfl Tryd.underlying50 rfl rfl sz3 (by decide) (Ev.plain rfl) rfl optS ?_
    refine ARun.loadPe rfl rfl rfl rfl Tryd.underlying3 rfl (Ev.opt rfl (fun h => h)) rfl optS ?_
    refine ARun.cmp rfl rfl rfl rfl (Ev.opt rfl (fun h => h)) (Ev.plain rfl) rfl optS ?_
    refine ARun.move (.inl rfl) rfl rfl rfl (Ev.opt rfl (fun h => h)) optS ?_
    refine ARun.fieldPe rfl rfl rfl rfl Tryd.underlying50 rfl rfl sz3 (by decide) (Ev.plain rfl) rfl optS ?_
    refine ARun.loadPe rfl rfl rfl rfl Tryd.underlying3 rfl (Ev.opt rfl (fun h => h)) rfl optS ?_
    refine ARun.call rfl rfl rfl rfl cf68 (Ev.plain rfl) (.cons (Ev.opt rfl (fun h => h)) .nil) rfl (fun hg => some_fn c.qty) optS ?_
    refine ARun.pick rfl rfl rfl rfl (Ev.opt rfl (fun h => h)) (Ev.plain rfl) (Ev.opt rfl (by first | exact pkF | exact pkF2 | simp +contextual)) (orB _ _) optS ?_
    refine ARun.pick rfl rfl rfl rfl (Ev.plain rfl) (Ev.opt rfl (by first | exact pkT | exact pkT2 | simp +contextual)) (Ev.plain rfl) (andB _ _) optN ?_
    refine ARun.move (.inr rfl) rfl rfl rfl (Ev.plain rfl) optN ?_
    refine ⟨_, _, rfl, hG, ?_⟩
    refine thenA_n ?_
    refine AWP.ret ?_
    refine blockA_r ?_
    refine thenA_r ?_
    refine endF.one (.inr rfl) rfl (.tmp rfl) ?_ hN
    (unfold mayP; simp_all)
  · skip
    simp at h0
    refine AWP.seq ?_
    refine AWP.seq ?_
    refine AWP.region (fun _ => ?_)
    refine ARun.cmp rfl rfl rfl rfl (Ev.plain rfl) (Ev.plain rfl) rfl optN ?_
    refine ARun.move (.inr rfl) rfl rfl rfl (Ev.plain rfl) optN ?_
    refine ⟨_, _, rfl, hG, ?_⟩
    refine thenA_n ?_
    refine AWP.cond rfl (fun h1 => ?_) (fun h1 => ?_)
    · skip
      simp at h1
      refine AWP.skip ?_
      refine thenA_n ?_
      refine AWP.cond rfl (fun h2 => ?_) (fun h2 => ?_)
      · skip
        simp at h2
        refine AWP.seq ?_
        refine AWP.region (fun _ => ?_)
        refine ARun.loadPeA rfl rfl rfl rfl Tryd.underlying50 rfl sz50 (Ev.plain rfl) rfl optN ?_
        refine ARun.call rfl rfl rfl rfl cf67 (Ev.plain rfl) (.cons (Ev.plain rfl) .nil) rfl (fun hg => bare_fn c) optN ?_
        refine ARun.move (.inl rfl) rfl rfl rfl (Ev.plain rfl) optN ?_
        refine ARun.fieldPe rfl rfl rfl rfl Tryd.underlying50 rfl rfl sz3 (by decide) (Ev.plain rfl) rfl optS ?_
        refine ARun.loadPe rfl rfl rfl rfl Tryd.underlying3 rfl (Ev.opt rfl (fun h => h)) rfl optS ?_
        refine ARun.call rfl rfl rfl rfl cf68 (Ev.plain rfl) (.cons (Ev.opt rfl (fun h => h)) .nil) rfl (fun hg => some_fn c.qty) optS ?_
        refine ARun.pick rfl rfl rfl rfl (Ev.plain rfl) (Ev.opt rfl (by first | exact pkT | exact pkT2 | simp +contextual)) (Ev.plain rfl) (andB _ _) optN ?_
        refine ARun.move (.inr rfl) rfl rfl rfl (Ev.plain rfl) optN ?_
        refine ⟨_, _, rfl, hG, ?_⟩
        refine thenA_n ?_
        refine AWP.ret ?_
        refine blockA_r ?_
        refine thenA_r ?_
        refine endF.one (.inr rfl) rfl (.tmp rfl) ?_ hN
        (unfold mayP; simp_all)
      · skip
        simp at h2
        refine AWP.seq ?_
        refine AWP.region (fun _ => ?_)
        refine ARun.cmp rfl rfl rfl rfl (Ev.plain rfl) (Ev.plain rfl) rfl optN ?_
        refine ARun.move (.inr rfl) rfl rfl rfl (Ev.plain rfl) optN ?_
        refine ⟨_, _, rfl, hG, ?_⟩
        refine thenA_n ?_
        refine AWP.cond rfl (fun h3 => ?_) (fun h3 => ?_)
        · skip
          simp at h3
          refine AWP.seq ?_
          refine AWP.region (fun _ => ?_)
          refine ARun.fieldPe rfl rfl rfl rfl Tryd.underlying50 rfl rfl sz3 (by decide) (Ev.plain rfl) rfl optN ?_
          refine ARun.loadPe rfl rfl rfl rfl Tryd.underlying3 rfl (Ev.plain rfl) rfl optN ?_
          refine ARun.call rfl rfl rfl rfl cf54 (Ev.plain rfl) (.cons (Ev.plain rfl) .nil) rfl (fun hg => number_fn c.item) optN ?_
          refine ARun.move (.inl rfl) rfl rfl rfl (Ev.plain rfl) optN ?_
          refine ARun.fieldPe rfl rfl rfl rfl Tryd.underlying50 rfl rfl sz3 (by decide) (Ev.plain rfl) rfl optS ?_
          refine ARun.loadPe rfl rfl rfl rfl Tryd.underlying3 rfl (Ev.opt rfl (fun h => h)) rfl optS ?_
          refine ARun.call rfl rfl rfl rfl cf54 (Ev.plain rfl) (.cons (Ev.opt rfl (fun h => h)) .nil) rfl (fun hg => number_fn c.to_) optS ?_
          refine ARun.pick rfl rfl rfl rfl (Ev.plain rfl) (Ev.opt rfl (by first | exact pkT | exact pkT2 | simp +contextual)) (Ev.plain rfl) (andB _ _) optN ?_
          refine ARun.move (.inl rfl) rfl rfl rfl (Ev.plain rfl) optN ?_
          refine ARun.fieldPe rfl rfl rfl rfl Tryd.underlying50 rfl rfl sz3 (by decide) (Ev.plain rfl) rfl optS ?_
          refine ARun.loadPe rfl rfl rfl rfl Tryd.underlying3 rfl (Ev.opt rfl (fun h => h)) rfl optS ?_
          refine ARun.fieldPe rfl rfl rfl rfl Tryd.underlying50 rfl rfl sz3 (by decide) (Ev.plain rfl) rfl optS ?_
          refine ARun.loadPe rfl rfl rfl rfl Tryd.underlying3 rfl (Ev.opt rfl (fun h => h)) rfl optS ?_
          refine ARun.cmp rfl rfl rfl rfl (Ev.opt rfl (fun h => h)) (Ev.opt rfl (fun h => h)) rfl optS ?_
          refine ARun.pick rfl rfl rfl rfl (Ev.plain rfl) (Ev.opt rfl (by first | exact pkT | exact pkT2 | simp +contextual)) (Ev.plain rfl) (andB _ _) optN ?_
          refine ARun.move (.inl rfl) rfl rfl rfl (Ev.plain rfl) optN ?_
          refine ARun.fieldPe rfl rfl rfl rfl Tryd.underlying50 rfl rfl sz3 (by decide) (Ev.plain rfl) rfl optS ?_
          refine ARun.loadPe rfl rfl rfl rfl Tryd.underlying3 rfl (Ev.opt rfl (fun h => h)) rfl optS ?_
          refine ARun.call rfl rfl rfl rfl cf68 (Ev.plain rfl) (.cons (Ev.opt rfl (fun h => h)) .nil) rfl (fun hg => some_fn c.qty) optS ?_
          refine ARun.pick rfl rfl rfl rfl (Ev.plain rfl) (Ev.opt rfl (by first | exact pkT | exact pkT2 | simp +contextual)) (Ev.plain rfl) (andB _ _) optN ?_
          refine ARun.move (.inl rfl) rfl rfl rfl (Ev.plain rfl) optN ?_
          refine ARun.fieldPe rfl rfl rfl rfl Tryd.underlying50 rfl rfl sz48 (by decide) (Ev.plain rfl) rfl optS ?_
          refine ARun.loadPe rfl rfl rfl rfl Tryd.underlying48 rfl (Ev.opt rfl (fun h => h)) rfl optS ?_
          refine ARun.lenSl rfl rfl rfl rfl Tryd.underlying48 (Ev.opt rfl (fun h => h)) optS ?_
          refine ARun.cmp rfl rfl rfl rfl (Ev.opt rfl (fun h => h)) (Ev.plain rfl) rfl optS ?_
          refine ARun.pick rfl rfl rfl rfl (Ev.plain rfl) (Ev.opt rfl (by first | exact pkT | exact pkT2 | simp +contextual)) (Ev.plain rfl) (andB _ _) optN ?_
          refine ARun.move (.inr rfl) rfl rfl rfl (Ev.plain rfl) optN ?_
          refine ⟨_, _, rfl, hG, ?_⟩
          refine thenA_n ?_
          refine AWP.ret ?_
          refine blockA_r ?_
          refine thenA_r ?_
          refine endF.one (.inr rfl) rfl (.tmp rfl) ?_ hN
          (unfold mayP; simp_all)
        · skip
          simp at h3
          refine AWP.seq ?_
          refine AWP.region (fun _ => ?_)
          refine ARun.cmp rfl rfl rfl rfl (Ev.plain rfl) (Ev.plain rfl) rfl optN ?_
          refine ARun.move (.inr rfl) rfl rfl rfl (Ev.plain rfl) optN ?_
          refine ⟨_, _, rfl, hG, ?_⟩
          refine thenA_n ?_
          refine AWP.cond rfl (fun h4 => ?_) (fun h4 => ?_)
          · skip
            simp at h4
            refine AWP.seq ?_
            refine AWP.region (fun _ => ?_)
            refine ARun.loadPeA rfl rfl rfl rfl Tryd.underlying50 rfl sz50 (Ev.plain rfl) rfl optN ?_
            refine ARun.call rfl rfl rfl rfl cf67 (Ev.plain rfl) (.cons (Ev.plain rfl) .nil) rfl (fun hg => bare_fn c) optN ?_
            refine ARun.move (.inl rfl) rfl rfl rfl (Ev.plain rfl) optN ?_
            refine ARun.fieldPe rfl rfl rfl rfl Tryd.underlying50 rfl rfl sz3 (by decide) (Ev.plain rfl) rfl optS ?_
            refine ARun.loadPe rfl rfl rfl rfl Tryd.underlying3 rfl (Ev.opt rfl (fun h => h)) rfl optS ?_
            refine ARun.cmp rfl rfl rfl rfl (Ev.opt rfl (fun h => h)) (Ev.plain rfl) rfl optS ?_
            refine ARun.pick rfl rfl rfl rfl (Ev.plain rfl) (Ev.opt rfl (by first | exact pkT | exact pkT2 | simp +contextual)) (Ev.plain rfl) (andB _ _) optN ?_
            refine ARun.move (.inr rfl) rfl rfl rfl (Ev.plain rfl) optN ?_
            refine ⟨_, _, rfl, hG, ?_⟩
            refine thenA_n ?_
            refine AWP.ret ?_
            refine blockA_r ?_
            refine thenA_r ?_
            refine endF.one (.inr rfl) rfl (.tmp rfl) ?_ hN
            (unfold mayP; simp_all)
          · skip
            simp at h4
            refine AWP.skip ?_
            refine blockA_n ?_
            refine thenA_n ?_
            refine AWP.seq ?_
            refine AWP.region (fun _ => ?_)
            refine ARun.fieldPe rfl rfl rfl rfl Tryd.underlying50 rfl rfl sz3 (by decide) (Ev.plain rfl) rfl optN ?_
            refine ARun.loadPe rfl rfl rfl rfl Tryd.underlying3 rfl (Ev.plain rfl) rfl optN ?_
            refine ARun.cmp rfl rfl rfl rfl (Ev.plain rfl) (Ev.plain rfl) rfl optN ?_
            refine ARun.move (.inl rfl) rfl rfl rfl (Ev.plain rfl) optN ?_
            refine ARun.fieldPe rfl rfl rfl rfl Tryd.underlying50 rfl rfl sz3 (by decide) (Ev.plain rfl) rfl optS ?_
            refine ARun.loadPe rfl rfl rfl rfl Tryd.underlying3 rfl (Ev.opt rfl (fun h => h)) rfl optS ?_
            refine ARun.cmp rfl rfl rfl rfl (Ev.opt rfl (fun h => h)) (Ev.plain rfl) rfl optS ?_
            refine ARun.pick rfl rfl rfl rfl (Ev.plain rfl) (Ev.opt rfl (by first | exact pkT | exact pkT2 | simp +contextual)) (Ev.plain rfl) (andB _ _) optN ?_
            refine ARun.move (.inl rfl) rfl rfl rfl (Ev.plain rfl) optN ?_
            refine ARun.fieldPe rfl rfl rfl rfl Tryd.underlying50 rfl rfl sz3 (by decide) (Ev.plain rfl) rfl optS ?_
            refine ARun.loadPe rfl rfl rfl rfl Tryd.underlying3 rfl (Ev.opt rfl (fun h => h)) rfl optS ?_
            refine ARun.cmp rfl rfl rfl rfl (Ev.opt rfl (fun h => h)) (Ev.plain rfl) rfl optS ?_
            refine ARun.pick rfl rfl rfl rfl (Ev.plain rfl) (Ev.opt rfl (by first | exact pkT | exact pkT2 | simp +contextual)) (Ev.plain rfl) (andB _ _) optN ?_
            refine ARun.move (.inl rfl) rfl rfl rfl (Ev.plain rfl) optN ?_
            refine ARun.fieldPe rfl rfl rfl rfl Tryd.underlying50 rfl rfl sz48 (by decide) (Ev.plain rfl) rfl optS ?_
            refine ARun.loadPe rfl rfl rfl rfl Tryd.underlying48 rfl (Ev.opt rfl (fun h => h)) rfl optS ?_
            refine ARun.call rfl rfl rfl rfl cf69 (Ev.plain rfl) (.cons (Ev.opt rfl (fun h => h)) .nil) rfl (fun hg => lines_fn c.lines hl) optS ?_
            refine ARun.pick rfl rfl rfl rfl (Ev.plain rfl) (Ev.opt rfl (by first | exact pkT | exact pkT2 | simp +contextual)) (Ev.plain rfl) (andB _ _) optN ?_
            refine ARun.move (.inr rfl) rfl rfl rfl (Ev.plain rfl) optN ?_
            refine ⟨_, _, rfl, hG, ?_⟩
            refine thenA_n ?_
            refine AWP.ret ?_
            refine endF.one (.inr rfl) rfl (.tmp rfl) ?_ hN
            (unfold mayP; simp_all)
    · skip
      simp at h1
      refine AWP.seq ?_
      refine AWP.region (fun _ => ?_)
      refine ARun.cmp rfl rfl rfl rfl (Ev.plain rfl) (Ev.plain rfl) rfl optN ?_
      refine ARun.move (.inr rfl) rfl rfl rfl (Ev.plain rfl) optN ?_
      refine ⟨_, _, rfl, hG, ?_⟩
      refine thenA_n ?_
      refine AWP.cond rfl (fun h5 => ?_) (fun h5 => ?_)
      · skip
        simp at h5
        refine AWP.skip ?_
        refine thenA_n ?_
        refine AWP.cond rfl (fun h6 => ?_) (fun h6 => ?_)
        · skip
          simp at h6
          refine AWP.seq ?_
          refine AWP.region (fun _ => ?_)
          refine ARun.loadPeA rfl rfl rfl rfl Tryd.underlying50 rfl sz50 (Ev.plain rfl) rfl optN ?_
          refine ARun.call rfl rfl rfl rfl cf67 (Ev.plain rfl) (.cons (Ev.plain rfl) .nil) rfl (fun hg => bare_fn c) optN ?_
          refine ARun.move (.inl rfl) rfl rfl rfl (Ev.plain rfl) optN ?_
          refine ARun.fieldPe rfl rfl rfl rfl Tryd.underlying50 rfl rfl sz3 (by decide) (Ev.plain rfl) rfl optS ?_
          refine ARun.loadPe rfl rfl rfl rfl Tryd.underlying3 rfl (Ev.opt rfl (fun h => h)) rfl optS ?_
          refine ARun.call rfl rfl rfl rfl cf68 (Ev.plain rfl) (.cons (Ev.opt rfl (fun h => h)) .nil) rfl (fun hg => some_fn c.qty) optS ?_
          refine ARun.pick rfl rfl rfl rfl (Ev.plain rfl) (Ev.opt rfl (by first | exact pkT | exact pkT2 | simp +contextual)) (Ev.plain rfl) (andB _ _) optN ?_
          refine ARun.move (.inr rfl) rfl rfl rfl (Ev.plain rfl) optN ?_
          refine ⟨_, _, rfl, hG, ?_⟩
          refine thenA_n ?_
          refine AWP.ret ?_
          refine blockA_r ?_
          refine thenA_r ?_
          refine endF.one (.inr rfl) rfl (.tmp rfl) ?_ hN
          (unfold mayP; simp_all)
        · skip
          simp at h6
          refine AWP.seq ?_
          refine AWP.region (fun _ => ?_)
          refine ARun.cmp rfl rfl rfl rfl (Ev.plain rfl) (Ev.plain rfl) rfl optN ?_
          refine ARun.move (.inr rfl) rfl rfl rfl (Ev.plain rfl) optN ?_
          refine ⟨_, _, rfl, hG, ?_⟩
          refine thenA_n ?_
          refine AWP.cond rfl (fun h7 => ?_) (fun h7 => ?_)
          · skip
            simp at h7
            refine AWP.seq ?_
            refine AWP.region (fun _ => ?_)
            refine ARun.fieldPe rfl rfl rfl rfl Tryd.underlying50 rfl rfl sz3 (by decide) (Ev.plain rfl) rfl optN ?_
            refine ARun.loadPe rfl rfl rfl rfl Tryd.underlying3 rfl (Ev.plain rfl) rfl optN ?_
            refine ARun.call rfl rfl rfl rfl cf54 (Ev.plain rfl) (.cons (Ev.plain rfl) .nil) rfl (fun hg => number_fn c.item) optN ?_
            refine ARun.move (.inl rfl) rfl rfl rfl (Ev.plain rfl) optN ?_
            refine ARun.fieldPe rfl rfl rfl rfl Tryd.underlying50 rfl rfl sz3 (by decide) (Ev.plain rfl) rfl optS ?_
            refine ARun.loadPe rfl rfl rfl rfl Tryd.underlying3 rfl (Ev.opt rfl (fun h => h)) rfl optS ?_
            refine ARun.call rfl rfl rfl rfl cf54 (Ev.plain rfl) (.cons (Ev.opt rfl (fun h => h)) .nil) rfl (fun hg => number_fn c.to_) optS ?_
            refine ARun.pick rfl rfl rfl rfl (Ev.plain rfl) (Ev.opt rfl (by first | exact pkT | exact pkT2 | simp +contextual)) (Ev.plain rfl) (andB _ _) optN ?_
            refine ARun.move (.inl rfl) rfl rfl rfl (Ev.plain rfl) optN ?_
            refine ARun.fieldPe rfl rfl rfl rfl Tryd.underlying50 rfl rfl sz3 (by decide) (Ev.plain rfl) rfl optS ?_
            refine ARun.loadPe rfl rfl rfl rfl Tryd.underlying3 rfl (Ev.opt rfl (fun h => h)) rfl optS ?_
            refine ARun.fieldPe rfl rfl rfl rfl Tryd.underlying50 rfl rfl sz3 (by decide) (Ev.plain rfl) rfl optS ?_
            refine ARun.loadPe rfl rfl rfl rfl Tryd.underlying3 rfl (Ev.opt rfl (fun h => h)) rfl optS ?_
            refine ARun.cmp rfl rfl rfl rfl (Ev.opt rfl (fun h => h)) (Ev.opt rfl (fun h => h)) rfl optS ?_
            refine ARun.pick rfl rfl rfl rfl (Ev.plain rfl) (Ev.opt rfl (by first | exact pkT | exact pkT2 | simp +contextual)) (Ev.plain rfl) (andB _ _) optN ?_
            refine ARun.move (.inl rfl) rfl rfl rfl (Ev.plain rfl) optN ?_
            refine ARun.fieldPe rfl rfl rfl rfl Tryd.underlying50 rfl rfl sz3 (by decide) (Ev.plain rfl) rfl optS ?_
            refine ARun.loadPe rfl rfl rfl rfl Tryd.underlying3 rfl (Ev.opt rfl (fun h => h)) rfl optS ?_
            refine ARun.call rfl rfl rfl rfl cf68 (Ev.plain rfl) (.cons (Ev.opt rfl (fun h => h)) .nil) rfl (fun hg => some_fn c.qty) optS ?_
            refine ARun.pick rfl rfl rfl rfl (Ev.plain rfl) (Ev.opt rfl (by first | exact pkT | exact pkT2 | simp +contextual)) (Ev.plain rfl) (andB _ _) optN ?_
            refine ARun.move (.inl rfl) rfl rfl rfl (Ev.plain rfl) optN ?_
            refine ARun.fieldPe rfl rfl rfl rfl Tryd.underlying50 rfl rfl sz48 (by decide) (Ev.plain rfl) rfl optS ?_
            refine ARun.loadPe rfl rfl rfl rfl Tryd.underlying48 rfl (Ev.opt rfl (fun h => h)) rfl optS ?_
            refine ARun.lenSl rfl rfl rfl rfl Tryd.underlying48 (Ev.opt rfl (fun h => h)) optS ?_
            refine ARun.cmp rfl rfl rfl rfl (Ev.opt rfl (fun h => h)) (Ev.plain rfl) rfl optS ?_
            refine ARun.pick rfl rfl rfl rfl (Ev.plain rfl) (Ev.opt rfl (by first | exact pkT | exact pkT2 | simp +contextual)) (Ev.plain rfl) (andB _ _) optN ?_
            refine ARun.move (.inr rfl) rfl rfl rfl (Ev.plain rfl) optN ?_
            refine ⟨_, _, rfl, hG, ?_⟩
            refine thenA_n ?_
            refine AWP.ret ?_
            refine blockA_r ?_
            refine thenA_r ?_
            refine endF.one (.inr rfl) rfl (.tmp rfl) ?_ hN
            (unfold mayP; simp_all)
          · skip
            simp at h7
            refine AWP.seq ?_
            refine AWP.region (fun _ => ?_)
            refine ARun.cmp rfl rfl rfl rfl (Ev.plain rfl) (Ev.plain rfl) rfl optN ?_
            refine ARun.move (.inr rfl) rfl rfl rfl (Ev.plain rfl) optN ?_
            refine ⟨_, _, rfl, hG, ?_⟩
            refine thenA_n ?_
            refine AWP.cond rfl (fun h8 => ?_) (fun h8 => ?_)
            · skip
              simp at h8
              refine AWP.seq ?_
              refine AWP.region (fun _ => ?_)
              refine ARun.loadPeA rfl rfl rfl rfl Tryd.underlying50 rfl sz50 (Ev.plain rfl) rfl optN ?_
              refine ARun.call rfl rfl rfl rfl cf67 (Ev.plain rfl) (.cons (Ev.plain rfl) .nil) rfl (fun hg => bare_fn c) optN ?_
              refine ARun.move (.inl rfl) rfl rfl rfl (Ev.plain rfl) optN ?_
              refine ARun.fieldPe rfl rfl rfl rfl Tryd.underlying50 rfl rfl sz3 (by decide) (Ev.plain rfl) rfl optS ?_
              refine ARun.loadPe rfl rfl rfl rfl Tryd.underlying3 rfl (Ev.opt rfl (fun h => h)) rfl optS ?_
              refine ARun.cmp rfl rfl rfl rfl (Ev.opt rfl (fun h => h)) (Ev.plain rfl) rfl optS ?_
              refine ARun.pick rfl rfl rfl rfl (Ev.plain rfl) (Ev.opt rfl (by first | exact pkT | exact pkT2 | simp +contextual)) (Ev.plain rfl) (andB _ _) optN ?_
              refine ARun.move (.inr rfl) rfl rfl rfl (Ev.plain rfl) optN ?_
              refine ⟨_, _, rfl, hG, ?_⟩
              refine thenA_n ?_
              refine AWP.ret ?_
              refine blockA_r ?_
              refine thenA_r ?_
              refine endF.one (.inr rfl) rfl (.tmp rfl) ?_ hN
              (unfold mayP; simp_all)
            · skip
              simp at h8
              refine AWP.skip ?_
              refine blockA_n ?_
              refine thenA_n ?_
              refine AWP.seq ?_
              refine AWP.region (fun _ => ?_)
              refine ARun.fieldPe rfl rfl rfl rfl Tryd.underlying50 rfl rfl sz3 (by decide) (Ev.plain rfl) rfl optN ?_
              refine ARun.loadPe rfl rfl rfl rfl Tryd.underlying3 rfl (Ev.plain rfl) rfl optN ?_
              refine ARun.cmp rfl rfl rfl rfl (Ev.plain rfl) (Ev.plain rfl) rfl optN ?_
              refine ARun.move (.inl rfl) rfl rfl rfl (Ev.plain rfl) optN ?_
              refine ARun.fieldPe rfl rfl rfl rfl Tryd.underlying50 rfl rfl sz3 (by decide) (Ev.plain rfl) rfl optS ?_
              refine ARun.loadPe rfl rfl rfl rfl Tryd.underlying3 rfl (Ev.opt rfl (fun h => h)) rfl optS ?_
              refine ARun.cmp rfl rfl rfl rfl (Ev.opt rfl (fun h => h)) (Ev.plain rfl) rfl optS ?_
              refine ARun.pick rfl rfl rfl rfl (Ev.plain rfl) (Ev.opt rfl (by first | exact pkT | exact pkT2 | simp +contextual)) (Ev.plain rfl) (andB _ _) optN ?_
              refine ARun.move (.inl rfl) rfl rfl rfl (Ev.plain rfl) optN ?_
              refine ARun.fieldPe rfl rfl rfl rfl Tryd.underlying50 rfl rfl sz3 (by decide) (Ev.plain rfl) rfl optS ?_
              refine ARun.loadPe rfl rfl rfl rfl Tryd.underlying3 rfl (Ev.opt rfl (fun h => h)) rfl optS ?_
              refine ARun.cmp rfl rfl rfl rfl (Ev.opt rfl (fun h => h)) (Ev.plain rfl) rfl optS ?_
              refine ARun.pick rfl rfl rfl rfl (Ev.plain rfl) (Ev.opt rfl (by first | exact pkT | exact pkT2 | simp +contextual)) (Ev.plain rfl) (andB _ _) optN ?_
              refine ARun.move (.inl rfl) rfl rfl rfl (Ev.plain rfl) optN ?_
              refine ARun.fieldPe rfl rfl rfl rfl Tryd.underlying50 rfl rfl sz48 (by decide) (Ev.plain rfl) rfl optS ?_
              refine ARun.loadPe rfl rfl rfl rfl Tryd.underlying48 rfl (Ev.opt rfl (fun h => h)) rfl optS ?_
              refine ARun.call rfl rfl rfl rfl cf69 (Ev.plain rfl) (.cons (Ev.opt rfl (fun h => h)) .nil) rfl (fun hg => lines_fn c.lines hl) optS ?_
              refine ARun.pick rfl rfl rfl rfl (Ev.plain rfl) (Ev.opt rfl (by first | exact pkT | exact pkT2 | simp +contextual)) (Ev.plain rfl) (andB _ _) optN ?_
              refine ARun.move (.inr rfl) rfl rfl rfl (Ev.plain rfl) optN ?_
              refine ⟨_, _, rfl, hG, ?_⟩
              refine thenA_n ?_
              refine AWP.ret ?_
              refine endF.one (.inr rfl) rfl (.tmp rfl) ?_ hN
              (unfold mayP; simp_all)
      · skip
        simp at h5
        refine AWP.seq ?_
        refine AWP.region (fun _ => ?_)
        refine ARun.cmp rfl rfl rfl rfl (Ev.plain rfl) (Ev.plain rfl) rfl optN ?_
        refine ARun.move (.inr rfl) rfl rfl rfl (Ev.plain rfl) optN ?_
        refine ⟨_, _, rfl, hG, ?_⟩
        refine thenA_n ?_
        refine AWP.cond rfl (fun h9 => ?_) (fun h9 => ?_)
        · skip
          simp at h9
          refine AWP.skip ?_
          refine thenA_n ?_
          refine AWP.cond rfl (fun h10 => ?_) (fun h10 => ?_)
          · skip
            simp at h10
            refine AWP.seq ?_
            refine AWP.region (fun _ => ?_)
            refine ARun.loadPeA rfl rfl rfl rfl Tryd.underlying50 rfl sz50 (Ev.plain rfl) rfl optN ?_
            refine ARun.call rfl rfl rfl rfl cf67 (Ev.plain rfl) (.cons (Ev.plain rfl) .nil) rfl (fun hg => bare_fn c) optN ?_
            refine ARun.move (.inl rfl) rfl rfl rfl (Ev.plain rfl) optN ?_
            refine ARun.fieldPe rfl rfl rfl rfl Tryd.underlying50 rfl rfl sz3 (by decide) (Ev.plain rfl) rfl optS ?_
            refine ARun.loadPe rfl rfl rfl rfl Tryd.underlying3 rfl (Ev.opt rfl (fun h => h)) rfl optS ?_
            refine ARun.call rfl rfl rfl rfl cf68 (Ev.plain rfl) (.cons (Ev.opt rfl (fun h => h)) .nil) rfl (fun hg => some_fn c.qty) optS ?_
            refine ARun.pick rfl rfl rfl rfl (Ev.plain rfl) (Ev.opt rfl (by first | exact pkT | exact pkT2 | simp +contextual)) (Ev.plain rfl) (andB _ _) optN ?_
            refine ARun.move (.inr rfl) rfl rfl rfl (Ev.plain rfl) optN ?_
            refine ⟨_, _, rfl, hG, ?_⟩
            refine thenA_n ?_
            refine AWP.ret ?_
            refine blockA_r ?_
            refine thenA_r ?_
            refine endF.one (.inr rfl) rfl (.tmp rfl) ?_ hN
            (unfold mayP; simp_all)
          · skip
            simp at h10
            refine AWP.seq ?_
            refine AWP.region (fun _ => ?_)
            refine ARun.cmp rfl rfl rfl rfl (Ev.plain rfl) (Ev.plain rfl) rfl optN ?_
            refine ARun.move (.inr rfl) rfl rfl rfl (Ev.plain rfl) optN ?_
            refine ⟨_, _, rfl, hG, ?_⟩
            refine thenA_n ?_
            refine AWP.cond rfl (fun h11 => ?_) (fun h11 => ?_)
            · skip
              simp at h11
              refine AWP.seq ?_
              refine AWP.region (fun _ => ?_)
              refine ARun.fieldPe rfl rfl rfl rfl Tryd.underlying50 rfl rfl sz3 (by decide) (Ev.plain rfl) rfl optN ?_
              refine ARun.loadPe rfl rfl rfl rfl Tryd.underlying3 rfl (Ev.plain rfl) rfl optN ?_
              refine ARun.call rfl rfl rfl rfl cf54 (Ev.plain rfl) (.cons (Ev.plain rfl) .nil) rfl (fun hg => number_fn c.item) optN ?_
              refine ARun.move (.inl rfl) rfl rfl rfl (Ev.plain rfl) optN ?_
              refine ARun.fieldPe rfl rfl rfl rfl Tryd.underlying50 rfl rfl sz3 (by decide) (Ev.plain rfl) rfl optS ?_
              refine ARun.loadPe rfl rfl rfl rfl Tryd.underlying3 rfl (Ev.opt rfl (fun h => h)) rfl optS ?_
              refine ARun.call rfl rfl rfl rfl cf54 (Ev.plain rfl) (.cons (Ev.opt rfl (fun h => h)) .nil) rfl (fun hg => number_fn c.to_) optS ?_
              refine ARun.pick rfl rfl rfl rfl (Ev.plain rfl) (Ev.opt rfl (by first | exact pkT | exact pkT2 | simp +contextual)) (Ev.plain rfl) (andB _ _) optN ?_
              refine ARun.move (.inl rfl) rfl rfl rfl (Ev.plain rfl) optN ?_
              refine ARun.fieldPe rfl rfl rfl rfl Tryd.underlying50 rfl rfl sz3 (by decide) (Ev.plain rfl) rfl optS ?_
              refine ARun.loadPe rfl rfl rfl rfl Tryd.underlying3 rfl (Ev.opt rfl (fun h => h)) rfl optS ?_
              refine ARun.fieldPe rfl rfl rfl rfl Tryd.underlying50 rfl rfl sz3 (by decide) (Ev.plain rfl) rfl optS ?_
              refine ARun.loadPe rfl rfl rfl rfl Tryd.underlying3 rfl (Ev.opt rfl (fun h => h)) rfl optS ?_
              refine ARun.cmp rfl rfl rfl rfl (Ev.opt rfl (fun h => h)) (Ev.opt rfl (fun h => h)) rfl optS ?_
              refine ARun.pick rfl rfl rfl rfl (Ev.plain rfl) (Ev.opt rfl (by first | exact pkT | exact pkT2 | simp +contextual)) (Ev.plain rfl) (andB _ _) optN ?_
              refine ARun.move (.inl rfl) rfl rfl rfl (Ev.plain rfl) optN ?_
              refine ARun.fieldPe rfl rfl rfl rfl Tryd.underlying50 rfl rfl sz3 (by decide) (Ev.plain rfl) rfl optS ?_
              refine ARun.loadPe rfl rfl rfl rfl Tryd.underlying3 rfl (Ev.opt rfl (fun h => h)) rfl optS ?_
              refine ARun.call rfl rfl rfl rfl cf68 (Ev.plain rfl) (.cons (Ev.opt rfl (fun h => h)) .nil) rfl (fun hg => some_fn c.qty) optS ?_
              refine ARun.pick rfl rfl rfl rfl (Ev.plain rfl) (Ev.opt rfl (by first | exact pkT | exact pkT2 | simp +contextual)) (Ev.plain rfl) (andB _ _) optN ?_
              refine ARun.move (.inl rfl) rfl rfl rfl (Ev.plain rfl) optN ?_
              refine ARun.fieldPe rfl rfl rfl rfl Tryd.underlying50 rfl rfl sz48 (by decide) (Ev.plain rfl) rfl optS ?_
              refine ARun.loadPe rfl rfl rfl rfl Tryd.underlying48 rfl (Ev.opt rfl (fun h => h)) rfl optS ?_
              refine ARun.lenSl rfl rfl rfl rfl Tryd.underlying48 (Ev.opt rfl (fun h => h)) optS ?_
              refine ARun.cmp rfl rfl rfl rfl (Ev.opt rfl (fun h => h)) (Ev.plain rfl) rfl optS ?_
              refine ARun.pick rfl rfl rfl rfl (Ev.plain rfl) (Ev.opt rfl (by first | exact pkT | exact pkT2 | simp +contextual)) (Ev.plain rfl) (andB _ _) optN ?_
              refine ARun.move (.inr rfl) rfl rfl rfl (Ev.plain rfl) optN ?_
              refine ⟨_, _, rfl, hG, ?_⟩
              refine thenA_n ?_
              refine AWP.ret ?_
              refine blockA_r ?_
              refine thenA_r ?_
              refine endF.one (.inr rfl) rfl (.tmp rfl) ?_ hN
              (unfold mayP; simp_all)
            · skip
              simp at h11
              refine AWP.seq ?_
              refine AWP.region (fun _ => ?_)
              refine ARun.cmp rfl rfl rfl rfl (Ev.plain rfl) (Ev.plain rfl) rfl optN ?_
              refine ARun.move (.inr rfl) rfl rfl rfl (Ev.plain rfl) optN ?_
              refine ⟨_, _, rfl, hG, ?_⟩
              refine thenA_n ?_
              refine AWP.cond rfl (fun h12 => ?_) (fun h12 => ?_)
              · skip
                simp at h12
                refine AWP.seq ?_
                refine AWP.region (fun _ => ?_)
                refine ARun.loadPeA rfl rfl rfl rfl Tryd.underlying50 rfl sz50 (Ev.plain rfl) rfl optN ?_
                refine ARun.call rfl rfl rfl rfl cf67 (Ev.plain rfl) (.cons (Ev.plain rfl) .nil) rfl (fun hg => bare_fn c) optN ?_
                refine ARun.move (.inl rfl) rfl rfl rfl (Ev.plain rfl) optN ?_
                refine ARun.fieldPe rfl rfl rfl rfl Tryd.underlying50 rfl rfl sz3 (by decide) (Ev.plain rfl) rfl optS ?_
                refine ARun.loadPe rfl rfl rfl rfl Tryd.underlying3 rfl (Ev.opt rfl (fun h => h)) rfl optS ?_
                refine ARun.cmp rfl rfl rfl rfl (Ev.opt rfl (fun h => h)) (Ev.plain rfl) rfl optS ?_
                refine ARun.pick rfl rfl rfl rfl (Ev.plain rfl) (Ev.opt rfl (by first | exact pkT | exact pkT2 | simp +contextual)) (Ev.plain rfl) (andB _ _) optN ?_
                refine ARun.move (.inr rfl) rfl rfl rfl (Ev.plain rfl) optN ?_
                refine ⟨_, _, rfl, hG, ?_⟩
                refine thenA_n ?_
                refine AWP.ret ?_
                refine blockA_r ?_
                refine thenA_r ?_
                refine endF.one (.inr rfl) rfl (.tmp rfl) ?_ hN
                (unfold mayP; simp_all)
              · skip
                simp at h12
                refine AWP.skip ?_
                refine blockA_n ?_
                refine thenA_n ?_
                refine AWP.seq ?_
                refine AWP.region (fun _ => ?_)
                refine ARun.fieldPe rfl rfl rfl rfl Tryd.underlying50 rfl rfl sz3 (by decide) (Ev.plain rfl) rfl optN ?_
                refine ARun.loadPe rfl rfl rfl rfl Tryd.underlying3 rfl (Ev.plain rfl) rfl optN ?_
                refine ARun.cmp rfl rfl rfl rfl (Ev.plain rfl) (Ev.plain rfl) rfl optN ?_
                refine ARun.move (.inl rfl) rfl rfl rfl (Ev.plain rfl) optN ?_
                refine ARun.fieldPe rfl rfl rfl rfl Tryd.underlying50 rfl rfl sz3 (by decide) (Ev.plain rfl) rfl optS ?_
                refine ARun.loadPe rfl rfl rfl rfl Tryd.underlying3 rfl (Ev.opt rfl (fun h => h)) rfl optS ?_
                refine ARun.cmp rfl rfl rfl rfl (Ev.opt rfl (fun h => h)) (Ev.plain rfl) rfl optS ?_
                refine ARun.pick rfl rfl rfl rfl (Ev.plain rfl) (Ev.opt rfl (by first | exact pkT | exact pkT2 | simp +contextual)) (Ev.plain rfl) (andB _ _) optN ?_
                refine ARun.move (.inl rfl) rfl rfl rfl (Ev.plain rfl) optN ?_
                refine ARun.fieldPe rfl rfl rfl rfl Tryd.underlying50 rfl rfl sz3 (by decide) (Ev.plain rfl) rfl optS ?_
                refine ARun.loadPe rfl rfl rfl rfl Tryd.underlying3 rfl (Ev.opt rfl (fun h => h)) rfl optS ?_
                refine ARun.cmp rfl rfl rfl rfl (Ev.opt rfl (fun h => h)) (Ev.plain rfl) rfl optS ?_
                refine ARun.pick rfl rfl rfl rfl (Ev.plain rfl) (Ev.opt rfl (by first | exact pkT | exact pkT2 | simp +contextual)) (Ev.plain rfl) (andB _ _) optN ?_
                refine ARun.move (.inl rfl) rfl rfl rfl (Ev.plain rfl) optN ?_
                refine ARun.fieldPe rfl rfl rfl rfl Tryd.underlying50 rfl rfl sz48 (by decide) (Ev.plain rfl) rfl optS ?_
                refine ARun.loadPe rfl rfl rfl rfl Tryd.underlying48 rfl (Ev.opt rfl (fun h => h)) rfl optS ?_
                refine ARun.call rfl rfl rfl rfl cf69 (Ev.plain rfl) (.cons (Ev.opt rfl (fun h => h)) .nil) rfl (fun hg => lines_fn c.lines hl) optS ?_
                refine ARun.pick rfl rfl rfl rfl (Ev.plain rfl) (Ev.opt rfl (by first | exact pkT | exact pkT2 | simp +contextual)) (Ev.plain rfl) (andB _ _) optN ?_
                refine ARun.move (.inr rfl) rfl rfl rfl (Ev.plain rfl) optN ?_
                refine ⟨_, _, rfl, hG, ?_⟩
                refine thenA_n ?_
                refine AWP.ret ?_
                refine endF.one (.inr rfl) rfl (.tmp rfl) ?_ hN
                (unfold mayP; simp_all)
        · skip
          simp at h9
          refine AWP.region (fun _ => ?_)
          refine ARun.cmp rfl rfl rfl rfl (Ev.plain rfl) (Ev.plain rfl) rfl optN ?_
          refine ARun.move (.inr rfl) rfl rfl rfl (Ev.plain rfl) optN ?_
          refine ⟨_, _, rfl, hG, ?_⟩
          refine thenA_n ?_
          refine AWP.cond rfl (fun h13 => ?_) (fun h13 => ?_)
          · skip
            simp at h13
            refine AWP.seq ?_
            refine AWP.region (fun _ => ?_)
            refine ARun.loadPeA rfl rfl rfl rfl Tryd.underlying50 rfl sz50 (Ev.plain rfl) rfl optN ?_
            refine ARun.call rfl rfl rfl rfl cf67 (Ev.plain rfl) (.cons (Ev.plain rfl) .nil) rfl (fun hg => bare_fn c) optN ?_
            refine ARun.move (.inl rfl) rfl rfl rfl (Ev.plain rfl) optN ?_
            refine ARun.fieldPe rfl rfl rfl rfl Tryd.underlying50 rfl rfl sz3 (by decide) (Ev.plain rfl) rfl optS ?_
            refine ARun.loadPe rfl rfl rfl rfl Tryd.underlying3 rfl (Ev.opt rfl (fun h => h)) rfl optS ?_
            refine ARun.call rfl rfl rfl rfl cf68 (Ev.plain rfl) (.cons (Ev.opt rfl (fun h => h)) .nil) rfl (fun hg => some_fn c.qty) optS ?_
            refine ARun.pick rfl rfl rfl rfl (Ev.plain rfl) (Ev.opt rfl (by first | exact pkT | exact pkT2 | simp +contextual)) (Ev.plain rfl) (andB _ _) optN ?_
            refine ARun.move (.inr rfl) rfl rfl rfl (Ev.plain rfl) optN ?_
            refine ⟨_, _, rfl, hG, ?_⟩
            refine thenA_n ?_
            refine AWP.ret ?_
            refine blockA_r ?_
            refine thenA_r ?_
            refine endF.one (.inr rfl) rfl (.tmp rfl) ?_ hN
            (unfold mayP; simp_all)
          · skip
            simp at h13
            refine AWP.seq ?_
            refine AWP.region (fun _ => ?_)
            refine ARun.cmp rfl rfl rfl rfl (Ev.plain rfl) (Ev.plain rfl) rfl optN ?_
            refine ARun.move (.inr rfl) rfl rfl rfl (Ev.plain rfl) optN ?_
            refine ⟨_, _, rfl, hG, ?_⟩
            refine thenA_n ?_
            refine AWP.cond rfl (fun h14 => ?_) (fun h14 => ?_)
            · skip
              simp at h14
              refine AWP.seq ?_
              refine AWP.region (fun _ => ?_)
              refine ARun.fieldPe rfl rfl rfl rfl Tryd.underlying50 rfl rfl sz3 (by decide) (Ev.plain rfl) rfl optN ?_
              refine ARun.loadPe rfl rfl rfl rfl Tryd.underlying3 rfl (Ev.plain rfl) rfl optN ?_
              refine ARun.call rfl rfl rfl rfl cf54 (Ev.plain rfl) (.cons (Ev.plain rfl) .nil) rfl (fun hg => number_fn c.item) optN ?_
              refine ARun.move (.inl rfl) rfl rfl rfl (Ev.plain rfl) optN ?_
              refine ARun.fieldPe rfl rfl rfl rfl Tryd.underlying50 rfl rfl sz3 (by decide) (Ev.plain rfl) rfl optS ?_
              refine ARun.loadPe rfl rfl rfl rfl Tryd.underlying3 rfl (Ev.opt rfl (fun h => h)) rfl optS ?_
              refine ARun.call rfl rfl rfl rfl cf54 (Ev.plain rfl) (.cons (Ev.opt rfl (fun h => h)) .nil) rfl (fun hg => number_fn c.to_) optS ?_
              refine ARun.pick rfl rfl rfl rfl (Ev.plain rfl) (Ev.opt rfl (by first | exact pkT | exact pkT2 | simp +contextual)) (Ev.plain rfl) (andB _ _) optN ?_
              refine ARun.move (.inl rfl) rfl rfl rfl (Ev.plain rfl) optN ?_
              refine ARun.fieldPe rfl rfl rfl rfl Tryd.underlying50 rfl rfl sz3 (by decide) (Ev.plain rfl) rfl optS ?_
              refine ARun.loadPe rfl rfl rfl rfl Tryd.underlying3 rfl (Ev.opt rfl (fun h => h)) rfl optS ?_
              refine ARun.fieldPe rfl rfl rfl rfl Tryd.underlying50 rfl rfl sz3 (by decide) (Ev.plain rfl) rfl optS ?_
              refine ARun.loadPe rfl rfl rfl rfl Tryd.underlying3 rfl (Ev.opt rfl (fun h => h)) rfl optS ?_
              refine ARun.cmp rfl rfl rfl rfl (Ev.opt rfl (fun h => h)) (Ev.opt rfl (fun h => h)) rfl optS ?_
              refine ARun.pick rfl rfl rfl rfl (Ev.plain rfl) (Ev.opt rfl (by first | exact pkT | exact pkT2 | simp +contextual)) (Ev.plain rfl) (andB _ _) optN ?_
              refine ARun.move (.inl rfl) rfl rfl rfl (Ev.plain rfl) optN ?_
              refine ARun.fieldPe rfl rfl rfl rfl Tryd.underlying50 rfl rfl sz3 (by decide) (Ev.plain rfl) rfl optS ?_
              refine ARun.loadPe rfl rfl rfl rfl Tryd.underlying3 rfl (Ev.opt rfl (fun h => h)) rfl optS ?_
              refine ARun.call rfl rfl rfl rfl cf68 (Ev.plain rfl) (.cons (Ev.opt rfl (fun h => h)) .nil) rfl (fun hg => some_fn c.qty) optS ?_
              refine ARun.pick rfl rfl rfl rfl (Ev.plain rfl) (Ev.opt rfl (by first | exact pkT | exact pkT2 | simp +contextual)) (Ev.plain rfl) (andB _ _) optN ?_
              refine ARun.move (.inl rfl) rfl rfl rfl (Ev.plain rfl) optN ?_
              refine ARun.fieldPe rfl rfl rfl rfl Tryd.underlying50 rfl rfl sz48 (by decide) (Ev.plain rfl) rfl optS ?_
              refine ARun.loadPe rfl rfl rfl rfl Tryd.underlying48 rfl (Ev.opt rfl (fun h => h)) rfl optS ?_
              refine ARun.lenSl rfl rfl rfl rfl Tryd.underlying48 (Ev.opt rfl (fun h => h)) optS ?_
              refine ARun.cmp rfl rfl rfl rfl (Ev.opt rfl (fun h => h)) (Ev.plain rfl) rfl optS ?_
              refine ARun.pick rfl rfl rfl rfl (Ev.plain rfl) (Ev.opt rfl (by first | exact pkT | exact pkT2 | simp +contextual)) (Ev.plain rfl) (andB _ _) optN ?_
              refine ARun.move (.inr rfl) rfl rfl rfl (Ev.plain rfl) optN ?_
              refine ⟨_, _, rfl, hG, ?_⟩
              refine thenA_n ?_
              refine AWP.ret ?_
              refine blockA_r ?_
              refine thenA_r ?_
              refine endF.one (.inr rfl) rfl (.tmp rfl) ?_ hN
              (unfold mayP; simp_all)
            · skip
              simp at h14
              refine AWP.seq ?_
              refine AWP.region (fun _ => ?_)
              refine ARun.cmp rfl rfl rfl rfl (Ev.plain rfl) (Ev.plain rfl) rfl optN ?_
              refine ARun.move (.inr rfl) rfl rfl rfl (Ev.plain rfl) optN ?_
              refine ⟨_, _, rfl, hG, ?_⟩
              refine thenA_n ?_
              refine AWP.cond rfl (fun h15 => ?_) (fun h15 => ?_)
              · skip
                simp at h15
                refine AWP.seq ?_
                refine AWP.region (fun _ => ?_)
                refine ARun.loadPeA rfl rfl rfl rfl Tryd.underlying50 rfl sz50 (Ev.plain rfl) rfl optN ?_
                refine ARun.call rfl rfl rfl rfl cf67 (Ev.plain rfl) (.cons (Ev.plain rfl) .nil) rfl (fun hg => bare_fn c) optN ?_
                refine ARun.move (.inl rfl) rfl rfl rfl (Ev.plain rfl) optN ?_
                refine ARun.fieldPe rfl rfl rfl rfl Tryd.underlying50 rfl rfl sz3 (by decide) (Ev.plain rfl) rfl optS ?_
                refine ARun.loadPe rfl rfl rfl rfl Tryd.underlying3 rfl (Ev.opt rfl (fun h => h)) rfl optS ?_
                refine ARun.cmp rfl rfl rfl rfl (Ev.opt rfl (fun h => h)) (Ev.plain rfl) rfl optS ?_
                refine ARun.pick rfl rfl rfl rfl (Ev.plain rfl) (Ev.opt rfl (by first | exact pkT | exact pkT2 | simp +contextual)) (Ev.plain rfl) (andB _ _) optN ?_
                refine ARun.move (.inr rfl) rfl rfl rfl (Ev.plain rfl) optN ?_
                refine ⟨_, _, rfl, hG, ?_⟩
                refine thenA_n ?_
                refine AWP.ret ?_
                refine blockA_r ?_
                refine thenA_r ?_
                refine endF.one (.inr rfl) rfl (.tmp rfl) ?_ hN
                (unfold mayP; simp_all)
              · skip
                simp at h15
                refine AWP.skip ?_
                refine blockA_n ?_
                refine thenA_n ?_
                refine AWP.seq ?_
                refine AWP.region (fun _ => ?_)
                refine ARun.fieldPe rfl rfl rfl rfl Tryd.underlying50 rfl rfl sz3 (by decide) (Ev.plain rfl) rfl optN ?_
                refine ARun.loadPe rfl rfl rfl rfl Tryd.underlying3 rfl (Ev.plain rfl) rfl optN ?_
                refine ARun.cmp rfl rfl rfl rfl (Ev.plain rfl) (Ev.plain rfl) rfl optN ?_
                refine ARun.move (.inl rfl) rfl rfl rfl (Ev.plain rfl) optN ?_
                refine ARun.fieldPe rfl rfl rfl rfl Tryd.underlying50 rfl rfl sz3 (by decide) (Ev.plain rfl) rfl optS ?_
                refine ARun.loadPe rfl rfl rfl rfl Tryd.underlying3 rfl (Ev.opt rfl (fun h => h)) rfl optS ?_
                refine ARun.cmp rfl rfl rfl rfl (Ev.opt rfl (fun h => h)) (Ev.plain rfl) rfl optS ?_
                refine ARun.pick rfl rfl rfl rfl (Ev.plain rfl) (Ev.opt rfl (by first | exact pkT | exact pkT2 | simp +contextual)) (Ev.plain rfl) (andB _ _) optN ?_
                refine ARun.move (.inl rfl) rfl rfl rfl (Ev.plain rfl) optN ?_
                refine ARun.fieldPe rfl rfl rfl rfl Tryd.underlying50 rfl rfl sz3 (by decide) (Ev.plain rfl) rfl optS ?_
                refine ARun.loadPe rfl rfl rfl rfl Tryd.underlying3 rfl (Ev.opt rfl (fun h => h)) rfl optS ?_
                refine ARun.cmp rfl rfl rfl rfl (Ev.opt rfl (fun h => h)) (Ev.plain rfl) rfl optS ?_
                refine ARun.pick rfl rfl rfl rfl (Ev.plain rfl) (Ev.opt rfl (by first | exact pkT | exact pkT2 | simp +contextual)) (Ev.plain rfl) (andB _ _) optN ?_
                refine ARun.move (.inl rfl) rfl rfl rfl (Ev.plain rfl) optN ?_
                refine ARun.fieldPe rfl rfl rfl rfl Tryd.underlying50 rfl rfl sz48 (by decide) (Ev.plain rfl) rfl optS ?_
                refine ARun.loadPe rfl rfl rfl rfl Tryd.underlying48 rfl (Ev.opt rfl (fun h => h)) rfl optS ?_
                refine ARun.call rfl rfl rfl rfl cf69 (Ev.plain rfl) (.cons (Ev.opt rfl (fun h => h)) .nil) rfl (fun hg => lines_fn c.lines hl) optS ?_
                refine ARun.pick rfl rfl rfl rfl (Ev.plain rfl) (Ev.opt rfl (by first | exact pkT | exact pkT2 | simp +contextual)) (Ev.plain rfl) (andB _ _) optN ?_
                refine ARun.move (.inr rfl) rfl rfl rfl (Ev.plain rfl) optN ?_
                refine ⟨_, _, rfl, hG, ?_⟩
                refine thenA_n ?_
                refine AWP.ret ?_
                refine endF.one (.inr rfl) rfl (.tmp rfl) ?_ hN
                (unfold mayP; simp_all)
set_option maxHeartbeats 1000000 in
theorem check_fn (c : Cl) (hl : c.lines.length ≤ 100000) : FnP Tryd.prog 41 [aCl c] (aEr (Er.new tCall (checkP c))) := by
  refine FnP.of Tryd.func41 rfl rfl (by simp) (by simp [AV.cells, aIn, aOut, aLn, aCl, aRp]) (fun G hG => ?_)
  have hN : NoH G.length (aEr (Er.new tCall (checkP c))) := (by simp [AV.cells, aIn, aOut, aLn, aCl, aRp])
  refine AWP.seq ?_
  refine AWP.region (fun _ => ?_)
  refine ARun.boxPe rfl rfl rfl rfl (Ev.plain rfl) rfl rfl optN ?_
  refine ARun.move (.inr rfl) rfl rfl rfl (Ev.plain rfl) optN ?_
  refine ⟨_, _, rfl, hG, ?_⟩
  refine thenA_n ?_
  refine AWP.seq ?_
  refine AWP.block ?_
  refine AWP.seq ?_
  refine AWP.region (fun _ => ?_)
  refine ARun.fieldPe rfl rfl rfl rfl Tryd.underlying50 rfl rfl sz3 (by decide) (Ev.plain rfl) rfl optN ?_
  refine ARun.loadPe rfl rfl rfl rfl Tryd.underlying3 rfl (Ev.plain rfl) rfl optN ?_
  refine ARun.cmp rfl rfl rfl rfl (Ev.plain rfl) (Ev.plain rfl) rfl optN ?_
  refine ARun.move (.inl rfl) rfl rfl rfl (Ev.plain rfl) optN ?_
  refine ARun.fieldPe rfl rfl rfl rfl Tryd.underlying50 rfl rfl sz3 (by decide) (Ev.plain rfl) rfl optS ?_
  refine ARun.loadPe rfl rfl rfl rfl Tryd.underlying3 rfl (Ev.opt rfl (fun h => h)) rfl optS ?_
  refine ARun.cmp rfl rfl rfl rfl (Ev.opt rfl (fun h => h)) (Ev.plain rfl) rfl optS ?_
  refine ARun.pick rfl rfl rfl rfl (Ev.plain rfl) (Ev.plain rfl) (Ev.opt rfl (by first | exact pkF | exact pkF2 | simp +contextual)) (orB _ _) optN ?_
  refine ARun.move (.inr rfl) rfl rfl rfl (Ev.plain rfl) optN ?_
  refine ⟨_, _, rfl, hG, ?_⟩
  refine thenA_n ?_
  refine AWP.cond rfl (fun h0 => ?_) (fun h0 => ?_)
  · skip
    simp at h0
    refine AWP.seq ?_
    refine AWP.region (fun _ => ?_)
    refine ARun.call rfl rfl rfl rfl cf40 (Ev.plain rfl) (.cons (Ev.plain rfl) (.cons (Ev.plain rfl) .nil)) rfl (fun hg => new_fn tCall 30) optN ?_
    refine ARun.move (.inr rfl) rfl rfl rfl (Ev.plain rfl) optN ?_
    refine ⟨_, _, rfl, hG, ?_⟩
    refine thenA_n ?_
    refine AWP.ret ?_
    refine blockA_r ?_
    refine thenA_r ?_
    refine endF.one (.inr rfl) rfl (.tmp rfl) ?_ hN
    rw [checkP, if_pos (by omega)]
  · skip
    simp at h0
    refine AWP.seq ?_
    refine AWP.region (fun _ => ?_)
    refine ARun.fieldPe rfl rfl rfl rfl Tryd.underlying50 rfl rfl sz3 (by decide) (Ev.plain rfl) rfl optN ?_
    refine ARun.loadPe rfl rfl rfl rfl Tryd.underlying3 rfl (Ev.plain rfl) rfl optN ?_
    refine ARun.call rfl rfl rfl rfl cf54 (Ev.plain rfl) (.cons (Ev.plain rfl) .nil) rfl (fun hg => number_fn c.client) optN ?_
    refine ARun.not rfl rfl rfl rfl (Ev.plain rfl) optN ?_
    refine ARun.move (.inl rfl) rfl rfl rfl (Ev.plain rfl) optN ?_
    refine ARun.fieldPe rfl rfl rfl rfl Tryd.underlying50 rfl rfl sz3 (by decide) (Ev.plain rfl) rfl optS ?_
    refine ARun.loadPe rfl rfl rfl rfl Tryd.underlying3 rfl (Ev.opt rfl (fun h => h)) rfl optS ?_
    refine ARun.call rfl rfl rfl rfl cf54 (Ev.plain rfl) (.cons (Ev.opt rfl (fun h => h)) .nil) rfl (fun hg => number_fn c.seq) optS ?_
    refine ARun.not rfl rfl rfl rfl (Ev.opt rfl (fun h => h)) optS ?_
    refine ARun.pick rfl rfl rfl rfl (Ev.plain rfl) (Ev.plain rfl) (Ev.opt rfl (by first | exact pkF | exact pkF2 | simp +contextual)) (orB _ _) optN ?_
    refine ARun.move (.inl rfl) rfl rfl rfl (Ev.plain rfl) optN ?_
    refine ARun.loadPeA rfl rfl rfl rfl Tryd.underlying50 rfl sz50 (Ev.plain rfl) rfl optS ?_
    refine ARun.call rfl rfl rfl rfl cf55 (Ev.plain rfl) (.cons (Ev.opt rfl (fun h => h)) .nil) rfl (fun hg => may_fn c hl) optS ?_
    refine ARun.not rfl rfl rfl rfl (Ev.opt rfl (fun h => h)) optS ?_
    refine ARun.pick rfl rfl rfl rfl (Ev.plain rfl) (Ev.plain rfl) (Ev.opt rfl (by first | exact pkF | exact pkF2 | simp +contextual)) (orB _ _) optN ?_
    refine ARun.move (.inr rfl) rfl rfl rfl (Ev.plain rfl) optN ?_
    refine ⟨_, _, rfl, hG, ?_⟩
    refine thenA_n ?_
    refine AWP.cond rfl (fun h1 => ?_) (fun h1 => ?_)
    · skip
      simp at h1
      refine AWP.seq ?_
      refine AWP.region (fun _ => ?_)
      refine ARun.call rfl rfl rfl rfl cf40 (Ev.plain rfl) (.cons (Ev.plain rfl) (.cons (Ev.plain rfl) .nil)) rfl (fun hg => new_fn tCall 2) optN ?_
      refine ARun.move (.inr rfl) rfl rfl rfl (Ev.plain rfl) optN ?_
      refine ⟨_, _, rfl, hG, ?_⟩
      refine thenA_n ?_
      refine AWP.ret ?_
      refine blockA_r ?_
      refine thenA_r ?_
      refine endF.one (.inr rfl) rfl (.tmp rfl) ?_ hN
      rw [checkP, if_neg (by omega), if_neg (by simp; intro q1 q2; rcases h1 with (h1 | h1) | h1 <;> simp_all)]
    · skip
      simp at h1
      refine AWP.skip ?_
      refine blockA_n ?_
      refine thenA_n ?_
      refine AWP.seq ?_
      refine AWP.region (fun _ => ?_)
      refine ARun.move (.inr rfl) rfl rfl rfl (Ev.plain rfl) optN ?_
      refine ⟨_, _, rfl, hG, ?_⟩
      refine thenA_n ?_
      refine AWP.ret ?_
      refine endF.one (.inr rfl) rfl (.tmp rfl) ?_ hN
      rw [checkP, if_neg (by omega), if_pos (by simp [h1])]; rfl
theorem rp_ext {c d : Rp} {b : Bool} (h : (decide (c.code = d.code) && decide (c.nums = d.nums)) = b) : decide (c = d) = b := by
  rw [← h]
  obtain ⟨a1, a2⟩ := c
  obtain ⟨b1, b2⟩ := d
  rw [← Bool.decide_and]
  refine decide_eq_decide.2 ⟨fun e => ?_, fun e => ?_⟩
  · injection e with e1 e2; exact ⟨e1, e2⟩
  · obtain ⟨e1, e2⟩ := e; dsimp only at *; subst e1 e2; rfl
set_option maxHeartbeats 1000000 in
theorem take_c (s : ByteArray) (hs : s.size ≤ 1000000) : FnP Tryd.prog 22 [.str s] (.tup [aCl (takeC s), aEr (takeErr s)]) := by
  have hrl := rdRow_len (sixR s 6) 10
  refine FnP.of Tryd.func22 rfl rfl (by simp) (by simp [AV.cells, aIn, aOut, aLn, aCl, aRp]) (fun G hG => ?_)
  have hN : NoH G.length (.tup [aCl (takeC s), aEr (takeErr s)]) := (by simp [AV.cells, aIn, aOut, aLn, aCl, aRp])
  refine AWP.seq ?_
  refine AWP.region (fun _ => ?_)
  refine ARun.alloc (j := 0) hG rfl rfl rfl rfl rfl zv50 rfl optN ?_
  refine ARun.move (.inr rfl) rfl rfl rfl (Ev.plain rfl) optN ?_
  refine ⟨_, _, rfl, hG, ?_⟩
  refine thenA_n ?_
  refine AWP.seq ?_
  refine AWP.region (fun _ => ?_)
  refine ARun.move (.inl rfl) rfl rfl rfl (Ev.plain rfl) optN ?_
  refine ARun.callNewB (j := 1) hG rfl rfl rfl rfl rfl cf34 (Ev.plain rfl) (.cons (Ev.plain rfl) .nil) rfl (newr_fn s) optN ?_
  refine ARun.move (.inr rfl) rfl rfl rfl (Ev.plain rfl) optN ?_
  refine ⟨_, _, rfl, hG, ?_⟩
  refine thenA_n ?_
  refine AWP.seq ?_
  refine AWP.region (fun _ => ?_)
  refine ARun.move (.inl rfl) rfl rfl rfl (Ev.plain rfl) optN ?_
  refine ARun.makeFunc rfl rfl rfl rfl (.cons (Ev.plain rfl) .nil) .nil optN ?_
  refine ARun.move (.inr rfl) rfl rfl rfl (Ev.plain rfl) optN ?_
  refine ⟨_, _, rfl, hG, ?_⟩
  refine thenA_n ?_
  refine AWP.seq ?_
  refine AWP.region (fun _ => ?_)
  refine ARun.move (.inl rfl) rfl rfl rfl (Ev.plain rfl) optN ?_
  refine ARun.callSet (j := 1) hG rfl rfl rfl rfl cf35 (Ev.plain rfl) (.cons (Ev.plain rfl) .nil) rfl (num_r (sixR s 0) 2000000 (sixR_ok hs 0) _ _ ((hG.at _ _).trans rfl)) rfl optN ?_
  refine ARun.move (.inl rfl) rfl rfl rfl (Ev.plain rfl) optN ?_
  refine ARun.callSet (j := 1) hG rfl rfl rfl rfl cf35 (Ev.plain rfl) (.cons (Ev.plain rfl) .nil) rfl (num_r (sixR s 1) 2000000 (sixR_ok hs 1) _ _ ((hG.at _ _).trans rfl)) rfl optN ?_
  refine ARun.move (.inl rfl) rfl rfl rfl (Ev.plain rfl) optN ?_
  refine ARun.callSet (j := 1) hG rfl rfl rfl rfl cf35 (Ev.plain rfl) (.cons (Ev.plain rfl) .nil) rfl (num_r (sixR s 2) 2000000 (sixR_ok hs 2) _ _ ((hG.at _ _).trans rfl)) rfl optN ?_
  refine ARun.move (.inl rfl) rfl rfl rfl (Ev.plain rfl) optN ?_
  refine ARun.callSet (j := 1) hG rfl rfl rfl rfl cf35 (Ev.plain rfl) (.cons (Ev.plain rfl) .nil) rfl (num_r (sixR s 3) 2000000 (sixR_ok hs 3) _ _ ((hG.at _ _).trans rfl)) rfl optN ?_
  refine ARun.move (.inl rfl) rfl rfl rfl (Ev.plain rfl) optN ?_
  refine ARun.callSet (j := 1) hG rfl rfl rfl rfl cf35 (Ev.plain rfl) (.cons (Ev.plain rfl) .nil) rfl (num_r (sixR s 4) 2000000 (sixR_ok hs 4) _ _ ((hG.at _ _).trans rfl)) rfl optN ?_
  refine ARun.move (.inl rfl) rfl rfl rfl (Ev.plain rfl) optN ?_
  refine ARun.callSet (j := 1) hG rfl rfl rfl rfl cf35 (Ev.plain rfl) (.cons (Ev.plain rfl) .nil) rfl (num_r (sixR s 5) 2000000 (sixR_ok hs 5) _ _ ((hG.at _ _).trans rfl)) rfl optN ?_
  refine ARun.buildNil (e := 72) (z := 2) (j := 2) (p := 6) hG rfl rfl rfl rfl rfl so50 rfl (.cons (Ev.plain rfl) (.cons (Ev.plain rfl) (.cons (Ev.plain rfl) (.cons (Ev.plain rfl) (.cons (Ev.plain rfl) (.cons (Ev.plain rfl) .nil)))))) rfl rfl optN ?_
  refine ARun.alloc (j := 3) hG rfl rfl rfl rfl rfl zv50 rfl optN ?_
  refine ARun.storeL hG rfl rfl rfl sz50 (Ev.plain rfl) (Ev.plain rfl) rfl rfl rfl rfl rfl (Nat.le_of_ble_eq_true rfl) rfl rfl ?_
  refine ⟨_, _, rfl, hG, ?_⟩
  refine thenA_n ?_
  refine AWP.seq ?_
  refine AWP.region (fun _ => ?_)
  refine ARun.move (.inl rfl) rfl rfl rfl (Ev.plain rfl) optN ?_
  refine ARun.callSet (j := 1) hG rfl rfl rfl rfl cf36 (Ev.plain rfl) (.cons (Ev.plain rfl) (.cons (Ev.plain rfl) .nil)) rfl (row_r (sixR s 6) 10 (sixR_ok hs 6) _ _ ((hG.at _ _).trans rfl)) rfl optN ?_
  refine ARun.move (.inr rfl) rfl rfl rfl (Ev.plain rfl) optN ?_
  refine ⟨_, _, rfl, hG, ?_⟩
  refine thenA_n ?_
  refine AWP.seq ?_
  refine AWP.region (fun _ => ?_)
  refine ARun.move (.inl rfl) rfl rfl rfl (Ev.plain rfl) optN ?_
  refine ARun.callSet (j := 1) hG rfl rfl rfl rfl cf37 (Ev.plain rfl) (.cons (Ev.plain rfl) .nil) rfl (end_r (rdRow (sixR s 6) 10).1 (rdRow_ok (sixR_ok hs 6) _) _ _ ((hG.at _ _).trans rfl)) rfl optN ?_
  refine ⟨_, _, rfl, hG, ?_⟩
  refine thenA_n ?_
  refine AWP.seq ?_
  refine AWP.seq ?_
  refine AWP.region (fun _ => ?_)
  refine ARun.move (.inl rfl) rfl rfl rfl (Ev.plain rfl) optN ?_
  refine ARun.callR rfl rfl rfl rfl cf38 (Ev.plain rfl) (.cons (Ev.plain rfl) .nil) rfl (fun hg => FnM.keep (rdone_fn (rdCall s).1) ((hG.at _ _).trans rfl)) optN ?_
  refine ARun.move (.inr rfl) rfl rfl rfl (Ev.plain rfl) optN ?_
  refine ⟨_, _, rfl, hG, ?_⟩
  refine thenA_n ?_
  refine AWP.seq ?_
  refine AWP.region (fun _ => ?_)
  refine ARun.move (.inl rfl) rfl rfl rfl (Ev.plain rfl) optN ?_
  refine ARun.isNil rfl rfl rfl rfl Tryd.underlying52 (Ev.plain rfl) (fun hg => by first | rfl | exact nilA_aEr _) (.inr ⟨rfl, rfl⟩) optN ?_
  refine ⟨_, _, rfl, hG, ?_⟩
  refine thenA_n ?_
  refine AWP.cond rfl (fun h0 => ?_) (fun h0 => ?_)
  · skip
    have he : (rdCall s).1.e ≠ 0 := by simpa [errOf_none] using h0
    refine AWP.seq ?_
    refine AWP.region (fun _ => ?_)
    refine ARun.build rfl rfl rfl rfl so50 .nil rfl rfl optN ?_
    refine ARun.move (.inl rfl) rfl rfl rfl (Ev.plain rfl) optN ?_
    refine ARun.call rfl rfl rfl rfl cf39 (Ev.plain rfl) (.cons (Ev.plain rfl) (.cons (Ev.plain rfl) .nil)) rfl (fun hg => wrap_fn tTake (errOf tRead (rdCall s).1.p (rdCall s).1.e)) optN ?_
    refine ARun.storeL hG rfl rfl rfl sz50 (Ev.plain rfl) (Ev.plain rfl) rfl rfl rfl rfl rfl (Nat.le_of_ble_eq_true rfl) rfl rfl ?_
    refine ARun.move (.inr rfl) rfl rfl rfl (Ev.plain rfl) optN ?_
    refine ⟨_, _, rfl, hG, ?_⟩
    refine thenA_n ?_
    refine AWP.ret ?_
    refine thenA_r ?_
    refine endF.many (.inr rfl) (rs := [.cell 2 50, .tmp 3]) rfl (.cons (.cellA rfl ((hG.at _ _).trans rfl) Tryd.underlying50 rfl sz50 rfl rfl) (.cons (.tmp rfl) .nil)) (by simp) ?_ hN
    have ht : takeE s ≠ 0 := by rw [takeE, if_pos he]; exact he
    rw [takeC, if_neg ht, takeErr, if_pos he]; rfl
  · skip
    have he : (rdCall s).1.e = 0 := by simpa [errOf_none] using h0
    refine AWP.skip ?_
    refine thenA_n ?_
    refine AWP.seq ?_
    refine AWP.seq ?_
    refine AWP.region (fun _ => ?_)
    refine ARun.move (.inl rfl) rfl rfl rfl (Ev.plain rfl) optN ?_
    refine ARun.lenSl rfl rfl rfl rfl Tryd.underlying66 (Ev.plain rfl) optN ?_
    refine ARun.remI rfl rfl rfl rfl (Ev.plain rfl) (Ev.plain rfl) (fun _ => by decide) optN ?_
    refine ARun.cmp rfl rfl rfl rfl (Ev.plain rfl) (Ev.plain rfl) rfl optN ?_
    refine ⟨_, _, rfl, hG, ?_⟩
    refine thenA_n ?_
    refine AWP.cond rfl (fun h1 => ?_) (fun h1 => ?_)
    · skip
      simp at h1
      have h1p : (((rdRow (sixR s 6) 10).2.length % 2 : Nat) : Int) ≠ 0 := h1
      refine AWP.seq ?_
      refine AWP.region (fun _ => ?_)
      refine ARun.build rfl rfl rfl rfl so50 .nil rfl rfl optN ?_
      refine ARun.call rfl rfl rfl rfl cf40 (Ev.plain rfl) (.cons (Ev.plain rfl) (.cons (Ev.plain rfl) .nil)) rfl (fun hg => new_fn tTake 5) optN ?_
      refine ARun.storeL hG rfl rfl rfl sz50 (Ev.plain rfl) (Ev.plain rfl) rfl rfl rfl rfl rfl (Nat.le_of_ble_eq_true rfl) rfl rfl ?_
      refine ARun.move (.inr rfl) rfl rfl rfl (Ev.plain rfl) optN ?_
      refine ⟨_, _, rfl, hG, ?_⟩
      refine thenA_n ?_
      refine AWP.ret ?_
      refine thenA_r ?_
      refine endF.many (.inr rfl) (rs := [.cell 2 50, .tmp 3]) rfl (.cons (.cellA rfl ((hG.at _ _).trans rfl) Tryd.underlying50 rfl sz50 rfl rfl) (.cons (.tmp rfl) .nil)) (by simp) ?_ hN
      have h1q : (rdCall s).2.2.length % 2 = 1 := by show (rdRow (sixR s 6) 10).2.length % 2 = 1; omega
      have ht : takeE s ≠ 0 := by rw [takeE, if_neg (by omega), if_pos h1q]; decide
      rw [takeC, if_neg ht, takeErr, if_neg (by omega), if_pos h1q]; rfl
    · skip
      simp at h1
      have h1p : (((rdRow (sixR s 6) 10).2.length % 2 : Nat) : Int) = 0 := h1
      refine AWP.skip ?_
      refine thenA_n ?_
      refine AWP.seq ?_
      refine AWP.seq ?_
      refine AWP.region (fun _ => ?_)
      refine ARun.move (.inr rfl) rfl rfl rfl (Ev.plain rfl) optN ?_
      refine ⟨_, _, rfl, hG, ?_⟩
      refine thenA_n ?_
      refine AWP.block ?_
      refine AWP.rounds (fun st => 2 * st.1 ≤ (rdRow (sixR s 6) 10).2.length) (fun st => [(2, .box (G.length + 0) 0), (6, .box (G.length + 3) 0), (7, .sl ((rdRow (sixR s 6) 10).2.map (AV.int .i64))), (9, .int .i64 ((2 * st.1 : Nat) : Int))]) (fun st => [.box [.int .i64 0, .int .i64 0, .int .i64 0, .int .i64 0, .int .i64 0, .int .i64 0, .sl []], .box (aRd (rdCall s).1), .row st.2 72 2 ((pairsL ((rdRow (sixR s 6) 10).2.take (2 * st.1))).map aLn), .box [.int .i64 (sixN s 0), .int .i64 (sixN s 1), .int .i64 (sixN s 2), .int .i64 (sixN s 3), .int .i64 (sixN s 4), .int .i64 (sixN s 5), .own (G.length + 2) st.2]]) (fun st => (rdRow (sixR s 6) 10).2.length - 2 * st.1) 4 ((0, 0) : Nat × Nat) (Nat.zero_le _) (by repeat (first | exact .nil | refine .cons rfl ?_)) rfl (fun _ => rfl) (fun _ => ⟨by simp [AV.cells], by simp [AO.conts, aRd, aLn, AV.cells]; rintro y a _ (rfl | rfl) <;> simp⟩) (fun st hI => ?_)
      obtain ⟨k, g⟩ := st
      dsimp only at hI
      show AWP _ _ _ _ _ [(2, .box (G.length + 0) 0), (6, .box (G.length + 3) 0), (7, .sl ((rdRow (sixR s 6) 10).2.map (AV.int .i64))), (9, .int .i64 ((2 * k : Nat) : Int))] _ [.box [.int .i64 0, .int .i64 0, .int .i64 0, .int .i64 0, .int .i64 0, .int .i64 0, .sl []], .box (aRd (rdCall s).1), .row g 72 2 ((pairsL ((rdRow (sixR s 6) 10).2.take (2 * k))).map aLn), .box [.int .i64 (sixN s 0), .int .i64 (sixN s 1), .int .i64 (sixN s 2), .int .i64 (sixN s 3), .int .i64 (sixN s 4), .int .i64 (sixN s 5), .own (G.length + 2) g]]
      refine AWP.seq ?_
      refine AWP.seq ?_
      refine AWP.region (fun _ => ?_)
      refine ARun.move (.inl rfl) rfl rfl rfl (Ev.plain rfl) optN ?_
      refine ARun.move (.inl rfl) rfl rfl rfl (Ev.plain rfl) optN ?_
      refine ARun.lenSl rfl rfl rfl rfl Tryd.underlying66 (Ev.plain rfl) optN ?_
      refine ARun.cmp rfl rfl rfl rfl (Ev.plain rfl) (Ev.plain rfl) rfl optN ?_
      refine ⟨_, _, rfl, hG, ?_⟩
      refine thenA_n ?_
      refine AWP.cond rfl (fun h2 => ?_) (fun h2 => ?_)
      · skip
        try simp [-List.getD_eq_getElem?_getD] at h2
        refine AWP.skip ?_
        refine thenA_n ?_
        refine AWP.seq ?_
        refine AWP.block ?_
        refine AWP.draw mixed (by kernel_rfl) (fun _ => ?_)
        refine ARun.fieldBox (fo := 6) rfl rfl rfl rfl Tryd.underlying50 rfl rfl sz48 (by decide) (Ev.plain rfl) ((hG.at _ _).trans rfl) optN ?_
        refine ARun.loadBox rfl rfl rfl rfl Tryd.underlying48 rfl (Ev.plain rfl) ((hG.at _ _).trans rfl) rfl optN ?_
        refine ARun.move (.inl rfl) rfl rfl rfl (Ev.plain rfl) optN ?_
        refine ARun.move (.inl rfl) rfl rfl rfl (Ev.plain rfl) optN ?_
        first | refine ARun.indexSl rfl rfl rfl rfl Tryd.underlying66 sz3 (Ev.plain rfl) (Ev.plain rfl) (fun _ => rfl) (fun hg => getMap _ _ _ (by (try simp at hg); omega)) rfl rfl optN ?_ | refine ARun.indexSl rfl rfl rfl rfl Tryd.underlying66 sz3 (Ev.plain rfl) (Ev.plain rfl) (fun hg => ofNonneg (by (try simp at hg); omega)) (fun hg => getMap _ _ _ (by (try simp at hg); omega)) rfl rfl optN ?_
        refine ARun.loadPe rfl rfl rfl rfl Tryd.underlying3 rfl (Ev.plain rfl) rfl optN ?_
        refine ARun.move (.inl rfl) rfl rfl rfl (Ev.plain rfl) optN ?_
        refine ARun.move (.inl rfl) rfl rfl rfl (Ev.plain rfl) optN ?_
        first | refine ARun.arith rfl rfl rfl rfl (Ev.plain rfl) (Ev.plain rfl) rfl (fun hg => i64w (by (try simp at hg); omega)) optN ?_ | refine ARun.arith rfl rfl rfl rfl (Ev.plain rfl) (Ev.plain rfl) rfl (fun _ => rfl) optN ?_
        first | refine ARun.indexSl rfl rfl rfl rfl Tryd.underlying66 sz3 (Ev.plain rfl) (Ev.plain rfl) (fun _ => rfl) (fun hg => getMap _ _ _ (by (try simp at hg); omega)) rfl rfl optN ?_ | refine ARun.indexSl rfl rfl rfl rfl Tryd.underlying66 sz3 (Ev.plain rfl) (Ev.plain rfl) (fun hg => ofNonneg (by (try simp at hg); omega)) (fun hg => getMap _ _ _ (by (try simp at hg); omega)) rfl rfl optN ?_
        refine ARun.loadPe rfl rfl rfl rfl Tryd.underlying3 rfl (Ev.plain rfl) rfl optN ?_
        refine ARun.build rfl rfl rfl rfl so72 (.cons (Ev.plain rfl) (.cons (Ev.plain rfl) .nil)) rfl rfl optN ?_
        refine ARun.buildSl rfl rfl rfl rfl Tryd.underlying48 sz72 zv72 rfl (by decide) (.cons (Ev.plain rfl) .nil) rfl rfl rfl rfl (by decide) rfl rfl optN ?_
        refine ARun.appendL hG rfl rfl rfl rfl Tryd.underlying48 ti72 rfl (by decide) (Ev.plain rfl) (Ev.plain rfl) rfl rfl (by have := pairsL_len (((rdRow (sixR s 6) 10).2).take (2 * k)); simp only [List.length_take] at this; simp [maxLen]; omega) (by have := pairsL_len (((rdRow (sixR s 6) 10).2).take (2 * k)); simp only [List.length_take] at this; simp; omega) (pair_snoc (rdRow (sixR s 6) 10).2 k (by omega)) optN rfl ?_
        refine ARun.fieldBox (fo := 6) rfl rfl rfl rfl Tryd.underlying50 rfl rfl sz48 (by decide) (Ev.plain rfl) ((hG.at _ _).trans rfl) optN ?_
        refine ARun.storeL1 hG rfl rfl rfl sz48 (Ev.plain rfl) (Ev.plain rfl) rfl (by first | rfl | exact aEr_one _ | exact aFl_one _) (Nat.le_of_ble_eq_true rfl) rfl rfl ?_
        refine ⟨by kernel_rfl, _, _, rfl, hG, ?_⟩
        refine blockA_n ?_
        refine thenA_n ?_
        refine AWP.region (fun _ => ?_)
        refine ARun.move (.inl rfl) rfl rfl rfl (Ev.plain rfl) optN ?_
        first | refine ARun.arith rfl rfl rfl rfl (Ev.plain rfl) (Ev.plain rfl) rfl (fun hg => i64w (by (try simp at hg); omega)) optN ?_ | refine ARun.arith rfl rfl rfl rfl (Ev.plain rfl) (Ev.plain rfl) rfl (fun _ => rfl) optN ?_
        refine ARun.move (.inr rfl) rfl rfl rfl (Ev.plain rfl) optN ?_
        refine ⟨_, _, rfl, hG, ?_⟩
        refine thenA_n ⟨rfl, (k + 1, g + 1), _, ?_, ?_, rfl, ?_⟩
        · dsimp only; omega
        · repeat (first | exact .nil | refine .cons rfl ?_)
        · dsimp only; omega
      · skip
        simp at h2
        have hk2 : 2 * k = (rdRow (sixR s 6) 10).2.length := by omega
        rw [hk2, List.take_length]
        refine AWP.exit ?_
        refine thenA_x ?_
        refine thenA_x ?_
        refine blockA_h ?_
        refine thenA_n ?_
        refine AWP.seq ?_
        refine AWP.seq ?_
        refine AWP.frzIn (j := 2) (q := 3) (p := 6) hG rfl (by have := pairsL_len (rdRow (sixR s 6) 10).2; have := rdRow_len (sixR s 6) 10; simp [maxLen]; omega) rfl rfl rfl ?_
        refine AWP.region (fun _ => ?_)
        refine ARun.loadBoxA rfl rfl rfl rfl Tryd.underlying50 rfl sz50 (Ev.plain rfl) ((hG.at _ _).trans rfl) rfl rfl optN ?_
        refine ARun.call rfl rfl rfl rfl cf41 (Ev.plain rfl) (.cons (Ev.plain rfl) .nil) rfl (fun hg => check_fn (mkCall (sixL s) (rdRow (sixR s 6) 10).2) (by have := pairsL_len (rdRow (sixR s 6) 10).2; show (pairsL (rdRow (sixR s 6) 10).2).length ≤ _; omega)) optN ?_
        refine ARun.move (.inr rfl) rfl rfl rfl (Ev.plain rfl) optN ?_
        refine ⟨_, _, rfl, hG, ?_⟩
        refine thenA_n ?_
        refine AWP.seq ?_
        refine AWP.region (fun _ => ?_)
        refine ARun.move (.inl rfl) rfl rfl rfl (Ev.plain rfl) optN ?_
        refine ARun.isNil rfl rfl rfl rfl Tryd.underlying52 (Ev.plain rfl) (fun hg => by first | rfl | exact nilA_aEr _) (.inr ⟨rfl, rfl⟩) optN ?_
        refine ⟨_, _, rfl, hG, ?_⟩
        refine thenA_n ?_
        refine AWP.cond rfl (fun h3 => ?_) (fun h3 => ?_)
        · skip
          simp [new_none] at h3
          refine AWP.seq ?_
          refine AWP.region (fun _ => ?_)
          refine ARun.build rfl rfl rfl rfl so50 .nil rfl rfl optN ?_
          refine ARun.move (.inl rfl) rfl rfl rfl (Ev.plain rfl) optN ?_
          refine ARun.call rfl rfl rfl rfl cf39 (Ev.plain rfl) (.cons (Ev.plain rfl) (.cons (Ev.plain rfl) .nil)) rfl (fun hg => wrap_fn tTake (Er.new tCall (checkP (mkCall (sixL s) (rdRow (sixR s 6) 10).2)))) optN ?_
          refine ARun.storeL hG rfl rfl rfl sz50 (Ev.plain rfl) (Ev.plain rfl) rfl rfl rfl rfl rfl (Nat.le_of_ble_eq_true rfl) rfl rfl ?_
          refine ARun.move (.inr rfl) rfl rfl rfl (Ev.plain rfl) optN ?_
          refine ⟨_, _, rfl, hG, ?_⟩
          refine thenA_n ?_
          refine AWP.ret ?_
          refine thenA_r ?_
          refine endF.many (.inr rfl) (rs := [.cell 2 50, .tmp 3]) rfl (.cons (.cellA rfl ((hG.at _ _).trans rfl) Tryd.underlying50 rfl sz50 rfl rfl) (.cons (.tmp rfl) .nil)) (by simp) ?_ hN
          have h1q : ¬ (rdCall s).2.2.length % 2 = 1 := by show ¬ (rdRow (sixR s 6) 10).2.length % 2 = 1; omega
          have ht : takeE s ≠ 0 := by rw [takeE, if_neg (by omega), if_neg h1q]; exact h3
          rw [takeC, if_neg ht, takeErr, if_neg (by omega), if_neg h1q]; rfl
        · skip
          simp [new_none] at h3
          refine AWP.skip ?_
          refine thenA_n ?_
          refine AWP.seq ?_
          refine AWP.region (fun _ => ?_)
          refine ARun.loadBoxA rfl rfl rfl rfl Tryd.underlying50 rfl sz50 (Ev.plain rfl) ((hG.at _ _).trans rfl) rfl rfl optN ?_
          refine ARun.storeL hG rfl rfl rfl sz50 (Ev.plain rfl) (Ev.plain rfl) rfl rfl rfl rfl rfl (Nat.le_of_ble_eq_true rfl) rfl rfl ?_
          refine ARun.move (.inr rfl) rfl rfl rfl (Ev.plain rfl) optN ?_
          refine ⟨_, _, rfl, hG, ?_⟩
          refine thenA_n ?_
          refine AWP.ret ?_
          refine endF.many (.inr rfl) (rs := [.cell 2 50, .tmp 3]) rfl (.cons (.cellA rfl ((hG.at _ _).trans rfl) Tryd.underlying50 rfl sz50 rfl rfl) (.cons (.tmp rfl) .nil)) (by simp) ?_ hN
          have h1q : ¬ (rdCall s).2.2.length % 2 = 1 := by show ¬ (rdRow (sixR s 6) 10).2.length % 2 = 1; omega
          have ht : takeE s = 0 := by rw [takeE, if_neg (by omega), if_neg h1q]; exact h3
          rw [takeC, if_pos ht, takeErr, if_neg (by omega), if_neg h1q, show checkP (mkCall (rdCall s).2.1 (rdCall s).2.2) = 0 from h3]; rfl
end Go.Proofs.YthogpkmidffdeaaDoor
