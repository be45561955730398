/- The document of call, by the abstract machine. -/
import Derived.Test.YthogpkmidffdeaaDoorAmCl
import Derived.Test.YthogpkmidffdeaaDoorAmTextR
namespace Go.Proofs.YthogpkmidffdeaaDoor
set_option linter.unusedVariables false
set_option linter.unusedSimpArgs false
open Go.RowKit
open NumP
set_option maxRecDepth 100000
theorem numb_R (n : Int) : (decide (n > 0) && decide (n < 100000)) = numbP n := by
  unfold numbP
  rw [show decide (1 ≤ n) = decide (n > 0) from decide_eq_decide.2 (by omega), show decide (n ≤ 99999) = decide (n < 100000) from decide_eq_decide.2 (by omega)]
def plainP (c : Cl) (lo hi : Int) : Bool := numbP c.item && decide (c.to_ = 0) && decide (lo ≤ c.qty) && decide (c.qty ≤ hi) && decide (c.lines.length = 0)
theorem plain_one (c : Cl) : plainP c 0 1000000 = (bareP c && (decide (c.qty = 0) || someP c.qty)) := by
  unfold plainP bareP someP
  have h : (decide (0 ≤ c.qty) && decide (c.qty ≤ 1000000)) = (decide (c.qty = 0) || (decide (1 ≤ c.qty) && decide (c.qty ≤ 1000000))) := by rw [Bool.eq_iff_iff]; simp; omega
  rw [← h]
  generalize numbP c.item = a; generalize decide (c.to_ = 0) = b; generalize decide (c.lines.length = 0) = d; generalize decide (0 ≤ c.qty) = e; generalize decide (c.qty ≤ 1000000) = f
  cases a <;> cases b <;> cases d <;> cases e <;> cases f <;> rfl
theorem plain_some (c : Cl) : plainP c 1 1000000 = (bareP c && someP c.qty) := by
  unfold plainP bareP someP
  generalize numbP c.item = a; generalize decide (c.to_ = 0) = b; generalize decide (c.lines.length = 0) = d; generalize decide (1 ≤ c.qty) = e; generalize decide (c.qty ≤ 1000000) = f
  cases a <;> cases b <;> cases d <;> cases e <;> cases f <;> rfl
theorem plain_none (c : Cl) : plainP c 0 0 = (bareP c && decide (c.qty = 0)) := by
  unfold plainP bareP
  have h : (decide (0 ≤ c.qty) && decide (c.qty ≤ 0)) = decide (c.qty = 0) := by rw [Bool.eq_iff_iff]; simp; omega
  rw [← h]
  generalize numbP c.item = a; generalize decide (c.to_ = 0) = b; generalize decide (c.lines.length = 0) = d; generalize decide (0 ≤ c.qty) = e; generalize decide (c.qty ≤ 0) = f
  cases a <;> cases b <;> cases d <;> cases e <;> cases f <;> rfl
theorem check_R {c : Cl} {b : Bool} (hk : 1 ≤ c.kind ∧ c.kind ≤ 8) (h : b = (numbP c.client && numbP c.seq && mayP c)) : checkP c = if b = true then 0 else 2 := by
  rw [checkP, if_neg (by omega), h]
theorem linesP_out {l : List Ln} (h : l.length = 0 ∨ 5 < l.length) : linesP l = false := by
  unfold linesP
  rcases h with h | h
  · rw [h]; rfl
  · rw [decide_eq_false (show ¬ l.length ≤ 5 by omega)]; simp
theorem linesP_all {l : List Ln} (h : 0 < l.length ∧ l.length ≤ 5) (h2 : ∀ k, k < l.length → okAt l k = true) : linesP l = true := by
  rw [linesP_yes h2, decide_eq_true h.1, decide_eq_true h.2]; rfl
theorem layR_e {r : Rp} (h : ¬ (r.code < 0 ∨ 255 < r.code ∨ 20 < r.nums.length)) : (layR r).out = putR r ∧ (layR r).e = repE r := by
  cases hn : nneg r.nums with
  | true =>
    have he : repE r = 0 := by rw [repE, if_neg (by rw [hn]; simp; omega)]
    rw [putR, if_pos he, layR_ok he, he]; exact ⟨rfl, rfl⟩
  | false =>
    have he : repE r = 2 := by rw [repE, if_pos (.inr (.inr (.inr hn)))]
    have hw : (layR r).e = 2 := by
      unfold layR
      rw [wrNums_pos _ rfl (fun x hx => by simp at hx; subst hx; omega)]
      unfold wrRow wrPut rowN
      rw [if_neg (by simp [WrS.new]), if_neg (by simp [hn] : ¬ nneg r.nums = true), if_pos (by decide)]
    rw [putR, if_neg (by omega), hw, he]
    exact ⟨by rw [WrS.out, if_neg (by omega)], rfl⟩
def cells6 (s : ByteArray) (k : Nat) : List AV := (List.range 6).map fun j => AV.int .i64 (if j < k then sixN s j else 0)
theorem cells6_set (s : ByteArray) (k : Nat) (h : k < 6) : (cells6 s k).take (0 + k * 1) ++ [AV.int .i64 (sixN s k)] ++ (cells6 s k).drop (0 + k * 1 + 1) = cells6 s (k + 1) := by
  have : k = 0 ∨ k = 1 ∨ k = 2 ∨ k = 3 ∨ k = 4 ∨ k = 5 := by omega
  rcases this with rfl | rfl | rfl | rfl | rfl | rfl <;> rfl
set_option maxHeartbeats 1000000 in
theorem numberR_fn (n : Int) : FnP Tryd.prog 63 [.int .i64 n] (.bool (numbP n)) := by
  refine FnP.of Tryd.func63 rfl rfl (by simp) (by simp [AV.cells, aIn, aOut, aLn, aCl, aRp]) (fun G hG => ?_)
  have hN : NoH G.length (.bool (numbP n)) := (by simp [AV.cells, aIn, aOut, aLn, aCl, aRp])
  refine AWP.seq ?_
  refine AWP.region (fun _ => ?_)
  refine ARun.move (.inr rfl) rfl rfl rfl (Ev.plain rfl) optN ?_
  refine ⟨_, _, rfl, hG, ?_⟩
  refine thenA_n ?_
  refine AWP.seq ?_
  refine AWP.region (fun _ => ?_)
  refine ARun.move (.inl rfl) rfl rfl rfl (Ev.plain rfl) optN ?_
  refine ARun.cmp rfl rfl rfl rfl (Ev.plain rfl) (Ev.plain rfl) rfl optN ?_
  refine ARun.move (.inl rfl) rfl rfl rfl (Ev.plain rfl) optN ?_
  refine ARun.move (.inl rfl) rfl rfl rfl (Ev.plain rfl) optS ?_
  refine ARun.cmp rfl rfl rfl rfl (Ev.opt rfl (fun h => h)) (Ev.plain rfl) rfl optS ?_
  refine ARun.pick rfl rfl rfl rfl (Ev.plain rfl) (Ev.opt rfl (by first | exact pkT | exact pkT2 | simp +contextual)) (Ev.plain rfl) (andB _ _) optN ?_
  refine ARun.move (.inr rfl) rfl rfl rfl (Ev.plain rfl) optN ?_
  refine ⟨_, _, rfl, hG, ?_⟩
  refine thenA_n ?_
  refine AWP.ret ?_
  refine endF.one (.inr rfl) rfl (.tmp rfl) ?_ hN
  rw [← numb_R n]
set_option maxHeartbeats 1000000 in
theorem plainR_fn (c : Cl) (lo hi : Int) : FnP Tryd.prog 64 [aCl c, .int .i64 lo, .int .i64 hi] (.bool (plainP c lo hi)) := by
  refine FnP.of Tryd.func64 rfl rfl (by simp) (by simp [AV.cells, aIn, aOut, aLn, aCl, aRp]) (fun G hG => ?_)
  have hN : NoH G.length (.bool (plainP c lo hi)) := (by simp [AV.cells, aIn, aOut, aLn, aCl, aRp])
  refine AWP.seq ?_
  refine AWP.region (fun _ => ?_)
  refine ARun.boxPe rfl rfl rfl rfl (Ev.plain rfl) rfl rfl optN ?_
  refine ARun.move (.inr rfl) rfl rfl rfl (Ev.plain rfl) optN ?_
  refine ⟨_, _, rfl, hG, ?_⟩
  refine thenA_n ?_
  refine AWP.seq ?_
  refine AWP.region (fun _ => ?_)
  refine ARun.fieldPe rfl rfl rfl rfl Tryd.underlying50 rfl rfl sz3 (by decide) (Ev.plain rfl) rfl optN ?_
  refine ARun.loadPe rfl rfl rfl rfl Tryd.underlying3 rfl (Ev.plain rfl) rfl optN ?_
  refine ARun.call rfl rfl rfl rfl cf63 (Ev.plain rfl) (.cons (Ev.plain rfl) .nil) rfl (fun hg => numberR_fn c.item) optN ?_
  refine ARun.move (.inl rfl) rfl rfl rfl (Ev.plain rfl) optN ?_
  refine ARun.fieldPe rfl rfl rfl rfl Tryd.underlying50 rfl rfl sz3 (by decide) (Ev.plain rfl) rfl optS ?_
  refine ARun.loadPe rfl rfl rfl rfl Tryd.underlying3 rfl (Ev.opt rfl (fun h => h)) rfl optS ?_
  refine ARun.cmp rfl rfl rfl rfl (Ev.opt rfl (fun h => h)) (Ev.plain rfl) rfl optS ?_
  refine ARun.pick rfl rfl rfl rfl (Ev.plain rfl) (Ev.opt rfl (by first | exact pkT | exact pkT2 | simp +contextual)) (Ev.plain rfl) (andB _ _) optN ?_
  refine ARun.move (.inl rfl) rfl rfl rfl (Ev.plain rfl) optN ?_
  refine ARun.fieldPe rfl rfl rfl rfl Tryd.underlying50 rfl rfl sz3 (by decide) (Ev.plain rfl) rfl optS ?_
  refine ARun.loadPe rfl rfl rfl rfl Tryd.underlying3 rfl (Ev.opt rfl (fun h => h)) rfl optS ?_
  refine ARun.move (.inl rfl) rfl rfl rfl (Ev.plain rfl) optS ?_
  refine ARun.cmp rfl rfl rfl rfl (Ev.opt rfl (fun h => h)) (Ev.opt rfl (fun h => h)) rfl optS ?_
  refine ARun.pick rfl rfl rfl rfl (Ev.plain rfl) (Ev.opt rfl (by first | exact pkT | exact pkT2 | simp +contextual)) (Ev.plain rfl) (andB _ _) optN ?_
  refine ARun.move (.inl rfl) rfl rfl rfl (Ev.plain rfl) optN ?_
  refine ARun.fieldPe rfl rfl rfl rfl Tryd.underlying50 rfl rfl sz3 (by decide) (Ev.plain rfl) rfl optS ?_
  refine ARun.loadPe rfl rfl rfl rfl Tryd.underlying3 rfl (Ev.opt rfl (fun h => h)) rfl optS ?_
  refine ARun.move (.inl rfl) rfl rfl rfl (Ev.plain rfl) optS ?_
  refine ARun.cmp rfl rfl rfl rfl (Ev.opt rfl (fun h => h)) (Ev.opt rfl (fun h => h)) rfl optS ?_
  refine ARun.pick rfl rfl rfl rfl (Ev.plain rfl) (Ev.opt rfl (by first | exact pkT | exact pkT2 | simp +contextual)) (Ev.plain rfl) (andB _ _) optN ?_
  refine ARun.move (.inl rfl) rfl rfl rfl (Ev.plain rfl) optN ?_
  refine ARun.fieldPe rfl rfl rfl rfl Tryd.underlying50 rfl rfl sz48 (by decide) (Ev.plain rfl) rfl optS ?_
  refine ARun.loadPe rfl rfl rfl rfl Tryd.underlying48 rfl (Ev.opt rfl (fun h => h)) rfl optS ?_
  refine ARun.lenSl rfl rfl rfl rfl Tryd.underlying48 (Ev.opt rfl (fun h => h)) optS ?_
  refine ARun.cmp rfl rfl rfl rfl (Ev.opt rfl (fun h => h)) (Ev.plain rfl) rfl optS ?_
  refine ARun.pick rfl rfl rfl rfl (Ev.plain rfl) (Ev.opt rfl (by first | exact pkT | exact pkT2 | simp +contextual)) (Ev.plain rfl) (andB _ _) optN ?_
  refine ARun.move (.inr rfl) rfl rfl rfl (Ev.plain rfl) optN ?_
  refine ⟨_, _, rfl, hG, ?_⟩
  refine thenA_n ?_
  refine AWP.ret ?_
  refine endF.one (.inr rfl) rfl (.tmp rfl) ?_ hN
  simp [plainP]
set_option maxHeartbeats 1000000 in
theorem linesR_fn (l : List Ln) (hl : l.length ≤ 100000) : FnP Tryd.prog 65 [.sl (l.map aLn)] (.bool (linesP l)) := by
  refine FnP.of Tryd.func65 rfl rfl (by simp) (by simp [AV.cells, aIn, aOut, aLn, aCl, aRp]) (fun G hG => ?_)
  have hN : NoH G.length (.bool (linesP l)) := (by simp [AV.cells, aIn, aOut, aLn, aCl, aRp])
  refine AWP.seq ?_
  refine AWP.region (fun _ => ?_)
  refine ARun.move (.inr rfl) rfl rfl rfl (Ev.plain rfl) optN ?_
  refine ⟨_, _, rfl, hG, ?_⟩
  refine thenA_n ?_
  refine AWP.seq ?_
  refine AWP.seq ?_
  refine AWP.region (fun _ => ?_)
  refine ARun.move (.inl rfl) rfl rfl rfl (Ev.plain rfl) optN ?_
  refine ARun.lenSl rfl rfl rfl rfl Tryd.underlying48 (Ev.plain rfl) optN ?_
  refine ARun.cmp rfl rfl rfl rfl (Ev.plain rfl) (Ev.plain rfl) rfl optN ?_
  refine ARun.move (.inl rfl) rfl rfl rfl (Ev.plain rfl) optN ?_
  refine ARun.move (.inl rfl) rfl rfl rfl (Ev.plain rfl) optS ?_
  refine ARun.lenSl rfl rfl rfl rfl Tryd.underlying48 (Ev.opt rfl (fun h => h)) optS ?_
  refine ARun.cmp rfl rfl rfl rfl (Ev.opt rfl (fun h => h)) (Ev.plain rfl) rfl optS ?_
  refine ARun.pick rfl rfl rfl rfl (Ev.plain rfl) (Ev.plain rfl) (Ev.opt rfl (by first | exact pkF | exact pkF2 | simp +contextual)) (orB _ _) optN ?_
  refine ⟨_, _, rfl, hG, ?_⟩
  refine thenA_n ?_
  refine AWP.cond rfl (fun h0 => ?_) (fun h0 => ?_)
  · skip
    have hlen : l.length = 0 ∨ 5 < l.length := by simp only [List.length_map, Bool.or_eq_true, decide_eq_true_eq] at h0; omega
    refine AWP.seq ?_
    refine AWP.region (fun _ => ?_)
    refine ARun.move (.inr rfl) rfl rfl rfl (Ev.plain rfl) optN ?_
    refine ⟨_, _, rfl, hG, ?_⟩
    refine thenA_n ?_
    refine AWP.ret ?_
    refine thenA_r ?_
    refine endF.one (.inr rfl) rfl (.tmp rfl) ?_ hN
    rw [linesP_out hlen]; rfl
  · skip
    have hlen : 0 < l.length ∧ l.length ≤ 5 := by simp only [List.length_map, Bool.or_eq_false_iff, decide_eq_false_iff_not] at h0; omega
    refine AWP.skip ?_
    refine thenA_n ?_
    refine AWP.seq ?_
    refine AWP.seq ?_
    refine AWP.region (fun _ => ?_)
    refine ARun.move (.inr rfl) rfl rfl rfl (Ev.plain rfl) optN ?_
    refine ⟨_, _, rfl, hG, ?_⟩
    refine thenA_n ?_
    refine AWP.block ?_
    refine AWP.rounds (fun k => k ≤ l.length ∧ ∀ j, j < k → okAt l j = true) (fun k => [(0, .sl (l.map aLn)), (3, .int .i64 (k : Int))]) (fun k => []) (fun k => l.length - k) 0 0 ⟨by omega, fun j h => by omega⟩ (by repeat (first | exact .nil | refine .cons rfl ?_)) rfl (fun _ => rfl) (fun _ => ⟨by simp [AV.cells, aLn], by simp⟩) (fun k hI => ?_)
    obtain ⟨hk, hno⟩ := hI
    refine AWP.seq ?_
    refine AWP.seq ?_
    refine AWP.region (fun _ => ?_)
    refine ARun.move (.inl rfl) rfl rfl rfl (Ev.plain rfl) optN ?_
    refine ARun.move (.inl rfl) rfl rfl rfl (Ev.plain rfl) optN ?_
    refine ARun.lenSl rfl rfl rfl rfl Tryd.underlying48 (Ev.plain rfl) optN ?_
    refine ARun.cmp rfl rfl rfl rfl (Ev.plain rfl) (Ev.plain rfl) rfl optN ?_
    refine ⟨_, _, rfl, hG, ?_⟩
    refine thenA_n ?_
    refine AWP.cond rfl (fun h1 => ?_) (fun h1 => ?_)
    · skip
      try simp [-List.getD_eq_getElem?_getD] at h1
      refine AWP.skip ?_
      refine thenA_n ?_
      refine AWP.seq ?_
      refine AWP.block ?_
      refine AWP.seq ?_
      refine AWP.draw mixed (by kernel_rfl) (fun _ => ?_)
      refine ARun.move (.inl rfl) rfl rfl rfl (Ev.plain rfl) optN ?_
      refine ARun.move (.inl rfl) rfl rfl rfl (Ev.plain rfl) optN ?_
      first | refine ARun.indexSl rfl rfl rfl rfl Tryd.underlying48 sz72 (Ev.plain rfl) (Ev.plain rfl) (fun _ => rfl) (fun hg => getMap _ _ _ (by (try simp at hg); omega)) rfl rfl optN ?_ | refine ARun.indexSl rfl rfl rfl rfl Tryd.underlying48 sz72 (Ev.plain rfl) (Ev.plain rfl) (fun hg => ofNonneg (by (try simp at hg); omega)) (fun hg => getMap _ _ _ (by (try simp at hg); omega)) rfl rfl optN ?_
      refine ARun.fieldPe rfl rfl rfl rfl Tryd.underlying72 rfl rfl sz3 (by decide) (Ev.plain rfl) rfl optN ?_
      refine ARun.loadPe rfl rfl rfl rfl Tryd.underlying3 rfl (Ev.plain rfl) rfl optN ?_
      refine ARun.call rfl rfl rfl rfl cf63 (Ev.plain rfl) (.cons (Ev.plain rfl) .nil) rfl (fun hg => numberR_fn (l.getD k default).item) optN ?_
      refine ARun.not rfl rfl rfl rfl (Ev.plain rfl) optN ?_
      refine ARun.move (.inl rfl) rfl rfl rfl (Ev.plain rfl) optN ?_
      refine ARun.move (.inl rfl) rfl rfl rfl (Ev.plain rfl) optS ?_
      refine ARun.move (.inl rfl) rfl rfl rfl (Ev.plain rfl) optS ?_
      first | refine ARun.indexSl rfl rfl rfl rfl Tryd.underlying48 sz72 (Ev.opt rfl (fun h => h)) (Ev.opt rfl (fun h => h)) (fun _ => rfl) (fun hg => getMap _ _ _ (by (try simp at hg); omega)) rfl rfl optS ?_ | refine ARun.indexSl rfl rfl rfl rfl Tryd.underlying48 sz72 (Ev.opt rfl (fun h => h)) (Ev.opt rfl (fun h => h)) (fun hg => ofNonneg (by (try simp at hg); omega)) (fun hg => getMap _ _ _ (by (try simp at hg); omega)) rfl rfl optS ?_
      refine ARun.fieldPe rfl rfl rfl rfl Tryd.underlying72 rfl rfl sz3 (by decide) (Ev.opt rfl (fun h => h)) rfl optS ?_
      refine ARun.loadPe rfl rfl rfl rfl Tryd.underlying3 rfl (Ev.opt rfl (fun h => h)) rfl optS ?_
      refine ARun.cmp rfl rfl rfl rfl (Ev.opt rfl (fun h => h)) (Ev.plain rfl) rfl optS ?_
      refine ARun.pick rfl rfl rfl rfl (Ev.plain rfl) (Ev.plain rfl) (Ev.opt rfl (by first | exact pkF | exact pkF2 | simp +contextual)) (orB _ _) optN ?_
      refine ARun.move (.inl rfl) rfl rfl rfl (Ev.plain rfl) optN ?_
      refine ARun.move (.inl rfl) rfl rfl rfl (Ev.plain rfl) optS ?_
      refine ARun.move (.inl rfl) rfl rfl rfl (Ev.plain rfl) optS ?_
      first | refine ARun.indexSl rfl rfl rfl rfl Tryd.underlying48 sz72 (Ev.opt rfl (fun h => h)) (Ev.opt rfl (fun h => h)) (fun _ => rfl) (fun hg => getMap _ _ _ (by (try simp at hg); omega)) rfl rfl optS ?_ | refine ARun.indexSl rfl rfl rfl rfl Tryd.underlying48 sz72 (Ev.opt rfl (fun h => h)) (Ev.opt rfl (fun h => h)) (fun hg => ofNonneg (by (try simp at hg); omega)) (fun hg => getMap _ _ _ (by (try simp at hg); omega)) rfl rfl optS ?_
      refine ARun.fieldPe rfl rfl rfl rfl Tryd.underlying72 rfl rfl sz3 (by decide) (Ev.opt rfl (fun h => h)) rfl optS ?_
      refine ARun.loadPe rfl rfl rfl rfl Tryd.underlying3 rfl (Ev.opt rfl (fun h => h)) rfl optS ?_
      refine ARun.cmp rfl rfl rfl rfl (Ev.opt rfl (fun h => h)) (Ev.plain rfl) rfl optS ?_
      refine ARun.pick rfl rfl rfl rfl (Ev.plain rfl) (Ev.plain rfl) (Ev.opt rfl (by first | exact pkF | exact pkF2 | simp +contextual)) (orB _ _) optN ?_
      refine ARun.move (.inl rfl) rfl rfl rfl (Ev.plain rfl) optN ?_
      refine ARun.move (.inl rfl) rfl rfl rfl (Ev.plain rfl) optS ?_
      refine ARun.cmp rfl rfl rfl rfl (Ev.opt rfl (fun h => h)) (Ev.plain rfl) rfl optS ?_
      refine ARun.move (.inl rfl) rfl rfl rfl (Ev.opt rfl (fun h => h)) optS ?_
      refine ARun.move (.inl rfl) rfl rfl rfl (Ev.plain rfl) optS ?_
      refine ARun.move (.inl rfl) rfl rfl rfl (Ev.plain rfl) optS ?_
      first | refine ARun.indexSl rfl rfl rfl rfl Tryd.underlying48 sz72 (Ev.opt rfl (fun h => h)) (Ev.opt rfl (fun h => h)) (fun _ => rfl) (fun hg => getMap _ _ _ (by (try simp at hg); omega)) rfl rfl optS ?_ | refine ARun.indexSl rfl rfl rfl rfl Tryd.underlying48 sz72 (Ev.opt rfl (fun h => h)) (Ev.opt rfl (fun h => h)) (fun hg => ofNonneg (by (try simp at hg); omega)) (fun hg => getMap _ _ _ (by (try simp at hg); omega)) rfl rfl optS ?_
      refine ARun.fieldPe rfl rfl rfl rfl Tryd.underlying72 rfl rfl sz3 (by decide) (Ev.opt rfl (fun h => h)) rfl optS ?_
      refine ARun.loadPe rfl rfl rfl rfl Tryd.underlying3 rfl (Ev.opt rfl (fun h => h)) rfl optS ?_
      refine ARun.move (.inl rfl) rfl rfl rfl (Ev.plain rfl) optS ?_
      refine ARun.move (.inl rfl) rfl rfl rfl (Ev.plain rfl) optS ?_
      first | refine ARun.arith rfl rfl rfl rfl (Ev.opt rfl (fun h => h)) (Ev.plain rfl) rfl (fun hg => i64w (by (try simp at hg); omega)) optS ?_ | refine ARun.arith rfl rfl rfl rfl (Ev.opt rfl (fun h => h)) (Ev.plain rfl) rfl (fun _ => rfl) optS ?_
      first | refine ARun.indexSl rfl rfl rfl rfl Tryd.underlying48 sz72 (Ev.opt rfl (fun h => h)) (Ev.opt rfl (fun h => h)) (fun _ => rfl) (fun hg => getMap _ _ _ (by (try simp at hg); omega)) rfl rfl optS ?_ | refine ARun.indexSl rfl rfl rfl rfl Tryd.underlying48 sz72 (Ev.opt rfl (fun h => h)) (Ev.opt rfl (fun h => h)) (fun hg => ofNonneg (by (try simp at hg); omega)) (fun hg => getMap _ _ _ (by (try simp at hg); omega)) rfl rfl optS ?_
      refine ARun.fieldPe rfl rfl rfl rfl Tryd.underlying72 rfl rfl sz3 (by decide) (Ev.opt rfl (fun h => h)) rfl optS ?_
      refine ARun.loadPe rfl rfl rfl rfl Tryd.underlying3 rfl (Ev.opt rfl (fun h => h)) rfl optS ?_
      refine ARun.cmp rfl rfl rfl rfl (Ev.opt rfl (fun h => h)) (Ev.opt rfl (fun h => h)) rfl optS ?_
      refine ARun.pick rfl rfl rfl rfl (Ev.opt rfl (fun h => h)) (Ev.opt rfl (by first | exact pkT | exact pkT2 | simp +contextual)) (Ev.plain rfl) (andB _ _) optS ?_
      refine ARun.pick rfl rfl rfl rfl (Ev.plain rfl) (Ev.plain rfl) (Ev.opt rfl (by first | exact pkF | exact pkF2 | simp +contextual)) (orB _ _) optN ?_
      refine ⟨by kernel_rfl, _, _, rfl, hG, ?_⟩
      refine thenA_n ?_
      refine AWP.cond rfl (fun h2 => ?_) (fun h2 => ?_)
      · skip
        rw [okAt_nR l k (l.getD ((k : Int) - 1).toNat default).item (fun hk0 => by rw [show ((k : Int) - 1).toNat = k - 1 by omega])] at h2
        refine AWP.seq ?_
        refine AWP.region (fun _ => ?_)
        refine ARun.move (.inr rfl) rfl rfl rfl (Ev.plain rfl) optN ?_
        refine ⟨_, _, rfl, hG, ?_⟩
        refine thenA_n ?_
        refine AWP.ret ?_
        refine blockA_r ?_
        refine thenA_r ?_
        refine thenA_r ?_
        refine blockA_r ?_
        refine thenA_r ?_
        refine endF.one (.inr rfl) rfl (.tmp rfl) ?_ hN
        rw [linesP_no (by omega) (by simpa using h2)]; rfl
      · skip
        rw [okAt_nR l k (l.getD ((k : Int) - 1).toNat default).item (fun hk0 => by rw [show ((k : Int) - 1).toNat = k - 1 by omega])] at h2
        refine AWP.skip ?_
        refine blockA_n ?_
        refine thenA_n ?_
        refine AWP.region (fun _ => ?_)
        refine ARun.move (.inl rfl) rfl rfl rfl (Ev.plain rfl) optN ?_
        first | refine ARun.arith rfl rfl rfl rfl (Ev.plain rfl) (Ev.plain rfl) rfl (fun hg => i64w (by (try simp at hg); omega)) optN ?_ | refine ARun.arith rfl rfl rfl rfl (Ev.plain rfl) (Ev.plain rfl) rfl (fun _ => rfl) optN ?_
        refine ARun.move (.inr rfl) rfl rfl rfl (Ev.plain rfl) optN ?_
        refine ⟨_, _, rfl, hG, ?_⟩
        refine thenA_n ⟨rfl, k + 1, _, ?_, ?_, rfl, ?_⟩
        · refine ⟨by omega, fun j hj => ?_⟩
          by_cases e : j = k
          · subst e; simpa using h2
          · exact hno j (by omega)
        · repeat (first | exact .nil | refine .cons rfl ?_)
        · omega
    · skip
      try simp [-List.getD_eq_getElem?_getD] at h1
      refine AWP.exit ?_
      refine thenA_x ?_
      refine thenA_x ?_
      refine blockA_h ?_
      refine thenA_n ?_
      refine AWP.seq ?_
      refine AWP.region (fun _ => ?_)
      refine ARun.move (.inr rfl) rfl rfl rfl (Ev.plain rfl) optN ?_
      refine ⟨_, _, rfl, hG, ?_⟩
      refine thenA_n ?_
      refine AWP.ret ?_
      refine endF.one (.inr rfl) rfl (.tmp rfl) ?_ hN
      rw [linesP_all hlen (fun j hj => hno j (by omega))]; rfl
set_option maxHeartbeats 1000000 in
theorem checkR_fn (c : Cl) (hl : c.lines.length ≤ 100000) : FnP Tryd.prog 49 [aCl c] (.int .i64 (checkP c)) := by
  have hcm : (c.item = c.to_) ↔ (c.to_ = c.item) := eq_comm
  refine FnP.of Tryd.func49 rfl rfl (by simp) (by simp [AV.cells, aIn, aOut, aLn, aCl, aRp]) (fun G hG => ?_)
  have hN : NoH G.length (.int .i64 (checkP c)) := (by simp [AV.cells, aIn, aOut, aLn, aCl, aRp])
  refine AWP.seq ?_
  refine AWP.region (fun _ => ?_)
  refine ARun.boxPe rfl rfl rfl rfl (Ev.plain rfl) rfl rfl optN ?_
  refine ARun.move (.inr rfl) rfl rfl rfl (Ev.plain rfl) optN ?_
  refine ⟨_, _, rfl, hG, ?_⟩
  refine thenA_n ?_
  refine AWP.seq ?_
  refine AWP.region (fun _ => ?_)
  refine ARun.fieldPe rfl rfl rfl rfl Tryd.underlying50 rfl rfl sz3 (by decide) (Ev.plain rfl) rfl optN ?_
  refine ARun.loadPe rfl rfl rfl rfl Tryd.underlying3 rfl (Ev.plain rfl) rfl optN ?_
  refine ARun.call rfl rfl rfl rfl cf63 (Ev.plain rfl) (.cons (Ev.plain rfl) .nil) rfl (fun hg => numberR_fn c.client) optN ?_
  refine ARun.move (.inl rfl) rfl rfl rfl (Ev.plain rfl) optN ?_
  refine ARun.fieldPe rfl rfl rfl rfl Tryd.underlying50 rfl rfl sz3 (by decide) (Ev.plain rfl) rfl optS ?_
  refine ARun.loadPe rfl rfl rfl rfl Tryd.underlying3 rfl (Ev.opt rfl (fun h => h)) rfl optS ?_
  refine ARun.call rfl rfl rfl rfl cf63 (Ev.plain rfl) (.cons (Ev.opt rfl (fun h => h)) .nil) rfl (fun hg => numberR_fn c.seq) optS ?_
  refine ARun.pick rfl rfl rfl rfl (Ev.plain rfl) (Ev.opt rfl (by first | exact pkT | exact pkT2 | simp +contextual)) (Ev.plain rfl) (andB _ _) optN ?_
  refine ARun.move (.inr rfl) rfl rfl rfl (Ev.plain rfl) optN ?_
  refine ⟨_, _, rfl, hG, ?_⟩
  refine thenA_n ?_
  refine AWP.seq ?_
  refine AWP.seq ?_
  refine AWP.region (fun _ => ?_)
  refine ARun.fieldPe rfl rfl rfl rfl Tryd.underlying50 rfl rfl sz3 (by decide) (Ev.plain rfl) rfl optN ?_
  refine ARun.loadPe rfl rfl rfl rfl Tryd.underlying3 rfl (Ev.plain rfl) rfl optN ?_
  refine ⟨_, _, rfl, hG, ?_⟩
  refine thenA_n ?_
  refine AWP.block ?_
  refine AWP.seq ?_
  refine AWP.region (fun _ => ?_)
  refine ARun.cmp rfl rfl rfl rfl (Ev.plain rfl) (Ev.plain rfl) rfl optN ?_
  refine ARun.move (.inr rfl) rfl rfl rfl (Ev.plain rfl) optN ?_
  refine ⟨_, _, rfl, hG, ?_⟩
  refine thenA_n ?_
  refine AWP.cond rfl (fun h0 => ?_) (fun h0 => ?_)
  · skip
    simp at h0
    refine AWP.region (fun _ => ?_)
    refine ARun.move (.inl rfl) rfl rfl rfl (Ev.plain rfl) optN ?_
    refine ARun.move (.inl rfl) rfl rfl rfl (Ev.plain rfl) optN ?_
    refine ARun.loadPeA rfl rfl rfl rfl Tryd.underlying50 rfl sz50 (Ev.plain rfl) rfl optS ?_
    refine ARun.call rfl rfl rfl rfl cf64 (Ev.plain rfl) (.cons (Ev.opt rfl (fun h => h)) (.cons (Ev.plain rfl) (.cons (Ev.plain rfl) .nil))) rfl (fun hg => plainR_fn c 0 1000000) optS ?_
    refine ARun.pick rfl rfl rfl rfl (Ev.plain rfl) (Ev.opt rfl (by first | exact pkT | exact pkT2 | simp +contextual)) (Ev.plain rfl) (andB _ _) optN ?_
    refine ARun.move (.inr rfl) rfl rfl rfl (Ev.plain rfl) optN ?_
    refine ⟨_, _, rfl, hG, ?_⟩
    refine blockA_n ?_
    refine thenA_n ?_
    refine AWP.seq ?_
    refine AWP.seq ?_
    refine AWP.region (fun _ => ?_)
    refine ARun.move (.inl rfl) rfl rfl rfl (Ev.plain rfl) optN ?_
    refine ARun.not rfl rfl rfl rfl (Ev.plain rfl) optN ?_
    refine ⟨_, _, rfl, hG, ?_⟩
    refine thenA_n ?_
    refine AWP.cond rfl (fun h1 => ?_) (fun h1 => ?_)
    · skip
      simp at h1
      refine AWP.seq ?_
      refine AWP.region (fun _ => ?_)
      refine ARun.move (.inr rfl) rfl rfl rfl (Ev.plain rfl) optN ?_
      refine ⟨_, _, rfl, hG, ?_⟩
      refine thenA_n ?_
      refine AWP.ret ?_
      refine thenA_r ?_
      refine endF.one (.inr rfl) rfl (.tmp rfl) ?_ hN
      refine congrArg (AV.int .i64) (?_ : _ = checkP c)
      simp_all [checkP, mayP, plain_one, plain_some, plain_none, someP] <;> (intros; first | omega | (simp_all; done) | (simp_all; refine Or.resolve_left (by assumption) (?_ : ¬ (c.qty < 1 ∨ 1000000 < c.qty)); omega))
    · skip
      simp at h1
      refine AWP.skip ?_
      refine thenA_n ?_
      refine AWP.seq ?_
      refine AWP.region (fun _ => ?_)
      refine ARun.move (.inr rfl) rfl rfl rfl (Ev.plain rfl) optN ?_
      refine ⟨_, _, rfl, hG, ?_⟩
      refine thenA_n ?_
      refine AWP.ret ?_
      refine endF.one (.inr rfl) rfl (.tmp rfl) ?_ hN
      refine congrArg (AV.int .i64) (?_ : _ = checkP c)
      simp_all [checkP, mayP, plain_one, plain_some, plain_none, someP] <;> (intros; first | omega | (simp_all; done) | (simp_all; refine Or.resolve_left (by assumption) (?_ : ¬ (c.qty < 1 ∨ 1000000 < c.qty)); omega))
  · skip
    simp at h0
    refine AWP.seq ?_
    refine AWP.seq ?_
    refine AWP.region (fun _ => ?_)
    refine ARun.cmp rfl rfl rfl rfl (Ev.plain rfl) (Ev.plain rfl) rfl optN ?_
    refine ARun.move (.inr rfl) rfl rfl rfl (Ev.plain rfl) optN ?_
    refine ⟨_, _, rfl, hG, ?_⟩
    refine thenA_n ?_
    refine AWP.cond rfl (fun h2 => ?_) (fun h2 => ?_)
    · skip
      simp at h2
      refine AWP.skip ?_
      refine thenA_n ?_
      refine AWP.cond rfl (fun h3 => ?_) (fun h3 => ?_)
      · skip
        simp at h3
        refine AWP.region (fun _ => ?_)
        refine ARun.move (.inl rfl) rfl rfl rfl (Ev.plain rfl) optN ?_
        refine ARun.move (.inl rfl) rfl rfl rfl (Ev.plain rfl) optN ?_
        refine ARun.loadPeA rfl rfl rfl rfl Tryd.underlying50 rfl sz50 (Ev.plain rfl) rfl optS ?_
        refine ARun.call rfl rfl rfl rfl cf64 (Ev.plain rfl) (.cons (Ev.opt rfl (fun h => h)) (.cons (Ev.plain rfl) (.cons (Ev.plain rfl) .nil))) rfl (fun hg => plainR_fn c 1 1000000) optS ?_
        refine ARun.pick rfl rfl rfl rfl (Ev.plain rfl) (Ev.opt rfl (by first | exact pkT | exact pkT2 | simp +contextual)) (Ev.plain rfl) (andB _ _) optN ?_
        refine ARun.move (.inr rfl) rfl rfl rfl (Ev.plain rfl) optN ?_
        refine ⟨_, _, rfl, hG, ?_⟩
        refine blockA_n ?_
        refine thenA_n ?_
        refine AWP.seq ?_
        refine AWP.seq ?_
        refine AWP.region (fun _ => ?_)
        refine ARun.move (.inl rfl) rfl rfl rfl (Ev.plain rfl) optN ?_
        refine ARun.not rfl rfl rfl rfl (Ev.plain rfl) optN ?_
        refine ⟨_, _, rfl, hG, ?_⟩
        refine thenA_n ?_
        refine AWP.cond rfl (fun h4 => ?_) (fun h4 => ?_)
        · skip
          simp at h4
          refine AWP.seq ?_
          refine AWP.region (fun _ => ?_)
          refine ARun.move (.inr rfl) rfl rfl rfl (Ev.plain rfl) optN ?_
          refine ⟨_, _, rfl, hG, ?_⟩
          refine thenA_n ?_
          refine AWP.ret ?_
          refine thenA_r ?_
          refine endF.one (.inr rfl) rfl (.tmp rfl) ?_ hN
          refine congrArg (AV.int .i64) (?_ : _ = checkP c)
          simp_all [checkP, mayP, plain_one, plain_some, plain_none, someP] <;> (intros; first | omega | (simp_all; done) | (simp_all; refine Or.resolve_left (by assumption) (?_ : ¬ (c.qty < 1 ∨ 1000000 < c.qty)); omega))
        · skip
          simp at h4
          refine AWP.skip ?_
          refine thenA_n ?_
          refine AWP.seq ?_
          refine AWP.region (fun _ => ?_)
          refine ARun.move (.inr rfl) rfl rfl rfl (Ev.plain rfl) optN ?_
          refine ⟨_, _, rfl, hG, ?_⟩
          refine thenA_n ?_
          refine AWP.ret ?_
          refine endF.one (.inr rfl) rfl (.tmp rfl) ?_ hN
          refine congrArg (AV.int .i64) (?_ : _ = checkP c)
          simp_all [checkP, mayP, plain_one, plain_some, plain_none, someP] <;> (intros; first | omega | (simp_all; done) | (simp_all; refine Or.resolve_left (by assumption) (?_ : ¬ (c.qty < 1 ∨ 1000000 < c.qty)); omega))
      · skip
        simp at h3
        refine AWP.seq ?_
        refine AWP.region (fun _ => ?_)
        refine ARun.cmp rfl rfl rfl rfl (Ev.plain rfl) (Ev.plain rfl) rfl optN ?_
        refine ARun.move (.inr rfl) rfl rfl rfl (Ev.plain rfl) optN ?_
        refine ⟨_, _, rfl, hG, ?_⟩
        refine thenA_n ?_
        refine AWP.cond rfl (fun h5 => ?_) (fun h5 => ?_)
        · skip
          simp at h5
          refine AWP.region (fun _ => ?_)
          refine ARun.move (.inl rfl) rfl rfl rfl (Ev.plain rfl) optN ?_
          refine ARun.move (.inl rfl) rfl rfl rfl (Ev.plain rfl) optN ?_
          refine ARun.fieldPe rfl rfl rfl rfl Tryd.underlying50 rfl rfl sz3 (by decide) (Ev.plain rfl) rfl optS ?_
          refine ARun.loadPe rfl rfl rfl rfl Tryd.underlying3 rfl (Ev.opt rfl (fun h => h)) rfl optS ?_
          refine ARun.call rfl rfl rfl rfl cf63 (Ev.plain rfl) (.cons (Ev.opt rfl (fun h => h)) .nil) rfl (fun hg => numberR_fn c.item) optS ?_
          refine ARun.pick rfl rfl rfl rfl (Ev.plain rfl) (Ev.opt rfl (by first | exact pkT | exact pkT2 | simp +contextual)) (Ev.plain rfl) (andB _ _) optN ?_
          refine ARun.move (.inl rfl) rfl rfl rfl (Ev.plain rfl) optN ?_
          refine ARun.fieldPe rfl rfl rfl rfl Tryd.underlying50 rfl rfl sz3 (by decide) (Ev.plain rfl) rfl optS ?_
          refine ARun.loadPe rfl rfl rfl rfl Tryd.underlying3 rfl (Ev.opt rfl (fun h => h)) rfl optS ?_
          refine ARun.call rfl rfl rfl rfl cf63 (Ev.plain rfl) (.cons (Ev.opt rfl (fun h => h)) .nil) rfl (fun hg => numberR_fn c.to_) optS ?_
          refine ARun.pick rfl rfl rfl rfl (Ev.plain rfl) (Ev.opt rfl (by first | exact pkT | exact pkT2 | simp +contextual)) (Ev.plain rfl) (andB _ _) optN ?_
          refine ARun.move (.inl rfl) rfl rfl rfl (Ev.plain rfl) optN ?_
          refine ARun.fieldPe rfl rfl rfl rfl Tryd.underlying50 rfl rfl sz3 (by decide) (Ev.plain rfl) rfl optS ?_
          refine ARun.loadPe rfl rfl rfl rfl Tryd.underlying3 rfl (Ev.opt rfl (fun h => h)) rfl optS ?_
          refine ARun.fieldPe rfl rfl rfl rfl Tryd.underlying50 rfl rfl sz3 (by decide) (Ev.plain rfl) rfl optS ?_
          refine ARun.loadPe rfl rfl rfl rfl Tryd.underlying3 rfl (Ev.opt rfl (fun h => h)) rfl optS ?_
          refine ARun.cmp rfl rfl rfl rfl (Ev.opt rfl (fun h => h)) (Ev.opt rfl (fun h => h)) rfl optS ?_
          refine ARun.pick rfl rfl rfl rfl (Ev.plain rfl) (Ev.opt rfl (by first | exact pkT | exact pkT2 | simp +contextual)) (Ev.plain rfl) (andB _ _) optN ?_
          refine ARun.move (.inl rfl) rfl rfl rfl (Ev.plain rfl) optN ?_
          refine ARun.fieldPe rfl rfl rfl rfl Tryd.underlying50 rfl rfl sz3 (by decide) (Ev.plain rfl) rfl optS ?_
          refine ARun.loadPe rfl rfl rfl rfl Tryd.underlying3 rfl (Ev.opt rfl (fun h => h)) rfl optS ?_
          refine ARun.cmp rfl rfl rfl rfl (Ev.opt rfl (fun h => h)) (Ev.plain rfl) rfl optS ?_
          refine ARun.pick rfl rfl rfl rfl (Ev.plain rfl) (Ev.opt rfl (by first | exact pkT | exact pkT2 | simp +contextual)) (Ev.plain rfl) (andB _ _) optN ?_
          refine ARun.move (.inl rfl) rfl rfl rfl (Ev.plain rfl) optN ?_
          refine ARun.fieldPe rfl rfl rfl rfl Tryd.underlying50 rfl rfl sz3 (by decide) (Ev.plain rfl) rfl optS ?_
          refine ARun.loadPe rfl rfl rfl rfl Tryd.underlying3 rfl (Ev.opt rfl (fun h => h)) rfl optS ?_
          refine ARun.cmp rfl rfl rfl rfl (Ev.opt rfl (fun h => h)) (Ev.plain rfl) rfl optS ?_
          refine ARun.pick rfl rfl rfl rfl (Ev.plain rfl) (Ev.opt rfl (by first | exact pkT | exact pkT2 | simp +contextual)) (Ev.plain rfl) (andB _ _) optN ?_
          refine ARun.move (.inl rfl) rfl rfl rfl (Ev.plain rfl) optN ?_
          refine ARun.fieldPe rfl rfl rfl rfl Tryd.underlying50 rfl rfl sz48 (by decide) (Ev.plain rfl) rfl optS ?_
          refine ARun.loadPe rfl rfl rfl rfl Tryd.underlying48 rfl (Ev.opt rfl (fun h => h)) rfl optS ?_
          refine ARun.lenSl rfl rfl rfl rfl Tryd.underlying48 (Ev.opt rfl (fun h => h)) optS ?_
          refine ARun.cmp rfl rfl rfl rfl (Ev.opt rfl (fun h => h)) (Ev.plain rfl) rfl optS ?_
          refine ARun.pick rfl rfl rfl rfl (Ev.plain rfl) (Ev.opt rfl (by first | exact pkT | exact pkT2 | simp +contextual)) (Ev.plain rfl) (andB _ _) optN ?_
          refine ARun.move (.inr rfl) rfl rfl rfl (Ev.plain rfl) optN ?_
          refine ⟨_, _, rfl, hG, ?_⟩
          refine blockA_n ?_
          refine thenA_n ?_
          refine AWP.seq ?_
          refine AWP.seq ?_
          refine AWP.region (fun _ => ?_)
          refine ARun.move (.inl rfl) rfl rfl rfl (Ev.plain rfl) optN ?_
          refine ARun.not rfl rfl rfl rfl (Ev.plain rfl) optN ?_
          refine ⟨_, _, rfl, hG, ?_⟩
          refine thenA_n ?_
          refine AWP.cond rfl (fun h6 => ?_) (fun h6 => ?_)
          · skip
            simp at h6
            refine AWP.seq ?_
            refine AWP.region (fun _ => ?_)
            refine ARun.move (.inr rfl) rfl rfl rfl (Ev.plain rfl) optN ?_
            refine ⟨_, _, rfl, hG, ?_⟩
            refine thenA_n ?_
            refine AWP.ret ?_
            refine thenA_r ?_
            refine endF.one (.inr rfl) rfl (.tmp rfl) ?_ hN
            refine congrArg (AV.int .i64) (?_ : _ = checkP c)
            simp_all [checkP, mayP, plain_one, plain_some, plain_none, someP] <;> (intros; first | omega | (simp_all; done) | (simp_all; refine Or.resolve_left (by assumption) (?_ : ¬ (c.qty < 1 ∨ 1000000 < c.qty)); omega))
          · skip
            simp at h6
            refine AWP.skip ?_
            refine thenA_n ?_
            refine AWP.seq ?_
            refine AWP.region (fun _ => ?_)
            refine ARun.move (.inr rfl) rfl rfl rfl (Ev.plain rfl) optN ?_
            refine ⟨_, _, rfl, hG, ?_⟩
            refine thenA_n ?_
            refine AWP.ret ?_
            refine endF.one (.inr rfl) rfl (.tmp rfl) ?_ hN
            refine congrArg (AV.int .i64) (?_ : _ = checkP c)
            simp_all [checkP, mayP, plain_one, plain_some, plain_none, someP] <;> (intros; first | omega | (simp_all; done) | (simp_all; refine Or.resolve_left (by assumption) (?_ : ¬ (c.qty < 1 ∨ 1000000 < c.qty)); omega))
        · skip
          simp at h5
          refine AWP.seq ?_
          refine AWP.region (fun _ => ?_)
          refine ARun.cmp rfl rfl rfl rfl (Ev.plain rfl) (Ev.plain rfl) rfl optN ?_
          refine ARun.move (.inr rfl) rfl rfl rfl (Ev.plain rfl) optN ?_
          refine ⟨_, _, rfl, hG, ?_⟩
          refine thenA_n ?_
          refine AWP.cond rfl (fun h7 => ?_) (fun h7 => ?_)
          · skip
            simp at h7
            refine AWP.region (fun _ => ?_)
            refine ARun.move (.inl rfl) rfl rfl rfl (Ev.plain rfl) optN ?_
            refine ARun.move (.inl rfl) rfl rfl rfl (Ev.plain rfl) optN ?_
            refine ARun.loadPeA rfl rfl rfl rfl Tryd.underlying50 rfl sz50 (Ev.plain rfl) rfl optS ?_
            refine ARun.call rfl rfl rfl rfl cf64 (Ev.plain rfl) (.cons (Ev.opt rfl (fun h => h)) (.cons (Ev.plain rfl) (.cons (Ev.plain rfl) .nil))) rfl (fun hg => plainR_fn c 0 0) optS ?_
            refine ARun.pick rfl rfl rfl rfl (Ev.plain rfl) (Ev.opt rfl (by first | exact pkT | exact pkT2 | simp +contextual)) (Ev.plain rfl) (andB _ _) optN ?_
            refine ARun.move (.inr rfl) rfl rfl rfl (Ev.plain rfl) optN ?_
            refine ⟨_, _, rfl, hG, ?_⟩
            refine blockA_n ?_
            refine thenA_n ?_
            refine AWP.seq ?_
            refine AWP.seq ?_
            refine AWP.region (fun _ => ?_)
            refine ARun.move (.inl rfl) rfl rfl rfl (Ev.plain rfl) optN ?_
            refine ARun.not rfl rfl rfl rfl (Ev.plain rfl) optN ?_
            refine ⟨_, _, rfl, hG, ?_⟩
            refine thenA_n ?_
            refine AWP.cond rfl (fun h8 => ?_) (fun h8 => ?_)
            · skip
              simp at h8
              refine AWP.seq ?_
              refine AWP.region (fun _ => ?_)
              refine ARun.move (.inr rfl) rfl rfl rfl (Ev.plain rfl) optN ?_
              refine ⟨_, _, rfl, hG, ?_⟩
              refine thenA_n ?_
              refine AWP.ret ?_
              refine thenA_r ?_
              refine endF.one (.inr rfl) rfl (.tmp rfl) ?_ hN
              refine congrArg (AV.int .i64) (?_ : _ = checkP c)
              simp_all [checkP, mayP, plain_one, plain_some, plain_none, someP] <;> (intros; first | omega | (simp_all; done) | (simp_all; refine Or.resolve_left (by assumption) (?_ : ¬ (c.qty < 1 ∨ 1000000 < c.qty)); omega))
            · skip
              simp at h8
              refine AWP.skip ?_
              refine thenA_n ?_
              refine AWP.seq ?_
              refine AWP.region (fun _ => ?_)
              refine ARun.move (.inr rfl) rfl rfl rfl (Ev.plain rfl) optN ?_
              refine ⟨_, _, rfl, hG, ?_⟩
              refine thenA_n ?_
              refine AWP.ret ?_
              refine endF.one (.inr rfl) rfl (.tmp rfl) ?_ hN
              refine congrArg (AV.int .i64) (?_ : _ = checkP c)
              simp_all [checkP, mayP, plain_one, plain_some, plain_none, someP] <;> (intros; first | omega | (simp_all; done) | (simp_all; refine Or.resolve_left (by assumption) (?_ : ¬ (c.qty < 1 ∨ 1000000 < c.qty)); omega))
          · skip
            simp at h7
            refine AWP.seq ?_
            refine AWP.region (fun _ => ?_)
            refine ARun.cmp rfl rfl rfl rfl (Ev.plain rfl) (Ev.plain rfl) rfl optN ?_
            refine ARun.move (.inr rfl) rfl rfl rfl (Ev.plain rfl) optN ?_
            refine ⟨_, _, rfl, hG, ?_⟩
            refine thenA_n ?_
            refine AWP.cond rfl (fun h9 => ?_) (fun h9 => ?_)
            · skip
              simp at h9
              refine AWP.region (fun _ => ?_)
              refine ARun.move (.inl rfl) rfl rfl rfl (Ev.plain rfl) optN ?_
              refine ARun.move (.inl rfl) rfl rfl rfl (Ev.plain rfl) optN ?_
              refine ARun.fieldPe rfl rfl rfl rfl Tryd.underlying50 rfl rfl sz3 (by decide) (Ev.plain rfl) rfl optS ?_
              refine ARun.loadPe rfl rfl rfl rfl Tryd.underlying3 rfl (Ev.opt rfl (fun h => h)) rfl optS ?_
              refine ARun.cmp rfl rfl rfl rfl (Ev.opt rfl (fun h => h)) (Ev.plain rfl) rfl optS ?_
              refine ARun.pick rfl rfl rfl rfl (Ev.plain rfl) (Ev.opt rfl (by first | exact pkT | exact pkT2 | simp +contextual)) (Ev.plain rfl) (andB _ _) optN ?_
              refine ARun.move (.inl rfl) rfl rfl rfl (Ev.plain rfl) optN ?_
              refine ARun.fieldPe rfl rfl rfl rfl Tryd.underlying50 rfl rfl sz3 (by decide) (Ev.plain rfl) rfl optS ?_
              refine ARun.loadPe rfl rfl rfl rfl Tryd.underlying3 rfl (Ev.opt rfl (fun h => h)) rfl optS ?_
              refine ARun.cmp rfl rfl rfl rfl (Ev.opt rfl (fun h => h)) (Ev.plain rfl) rfl optS ?_
              refine ARun.pick rfl rfl rfl rfl (Ev.plain rfl) (Ev.opt rfl (by first | exact pkT | exact pkT2 | simp +contextual)) (Ev.plain rfl) (andB _ _) optN ?_
              refine ARun.move (.inl rfl) rfl rfl rfl (Ev.plain rfl) optN ?_
              refine ARun.fieldPe rfl rfl rfl rfl Tryd.underlying50 rfl rfl sz3 (by decide) (Ev.plain rfl) rfl optS ?_
              refine ARun.loadPe rfl rfl rfl rfl Tryd.underlying3 rfl (Ev.opt rfl (fun h => h)) rfl optS ?_
              refine ARun.cmp rfl rfl rfl rfl (Ev.opt rfl (fun h => h)) (Ev.plain rfl) rfl optS ?_
              refine ARun.pick rfl rfl rfl rfl (Ev.plain rfl) (Ev.opt rfl (by first | exact pkT | exact pkT2 | simp +contextual)) (Ev.plain rfl) (andB _ _) optN ?_
              refine ARun.move (.inl rfl) rfl rfl rfl (Ev.plain rfl) optN ?_
              refine ARun.fieldPe rfl rfl rfl rfl Tryd.underlying50 rfl rfl sz48 (by decide) (Ev.plain rfl) rfl optS ?_
              refine ARun.loadPe rfl rfl rfl rfl Tryd.underlying48 rfl (Ev.opt rfl (fun h => h)) rfl optS ?_
              refine ARun.call rfl rfl rfl rfl cf65 (Ev.plain rfl) (.cons (Ev.opt rfl (fun h => h)) .nil) rfl (fun hg => linesR_fn c.lines hl) optS ?_
              refine ARun.pick rfl rfl rfl rfl (Ev.plain rfl) (Ev.opt rfl (by first | exact pkT | exact pkT2 | simp +contextual)) (Ev.plain rfl) (andB _ _) optN ?_
              refine ARun.move (.inr rfl) rfl rfl rfl (Ev.plain rfl) optN ?_
              refine ⟨_, _, rfl, hG, ?_⟩
              refine blockA_n ?_
              refine thenA_n ?_
              refine AWP.seq ?_
              refine AWP.seq ?_
              refine AWP.region (fun _ => ?_)
              refine ARun.move (.inl rfl) rfl rfl rfl (Ev.plain rfl) optN ?_
              refine ARun.not rfl rfl rfl rfl (Ev.plain rfl) optN ?_
              refine ⟨_, _, rfl, hG, ?_⟩
              refine thenA_n ?_
              refine AWP.cond rfl (fun h10 => ?_) (fun h10 => ?_)
              · skip
                simp at h10
                refine AWP.seq ?_
                refine AWP.region (fun _ => ?_)
                refine ARun.move (.inr rfl) rfl rfl rfl (Ev.plain rfl) optN ?_
                refine ⟨_, _, rfl, hG, ?_⟩
                refine thenA_n ?_
                refine AWP.ret ?_
                refine thenA_r ?_
                refine endF.one (.inr rfl) rfl (.tmp rfl) ?_ hN
                refine congrArg (AV.int .i64) (?_ : _ = checkP c)
                simp_all [checkP, mayP, plain_one, plain_some, plain_none, someP] <;> (intros; first | omega | (simp_all; done) | (simp_all; refine Or.resolve_left (by assumption) (?_ : ¬ (c.qty < 1 ∨ 1000000 < c.qty)); omega))
              · skip
                simp at h10
                refine AWP.skip ?_
                refine thenA_n ?_
                refine AWP.seq ?_
                refine AWP.region (fun _ => ?_)
                refine ARun.move (.inr rfl) rfl rfl rfl (Ev.plain rfl) optN ?_
                refine ⟨_, _, rfl, hG, ?_⟩
                refine thenA_n ?_
                refine AWP.ret ?_
                refine endF.one (.inr rfl) rfl (.tmp rfl) ?_ hN
                refine congrArg (AV.int .i64) (?_ : _ = checkP c)
                simp_all [checkP, mayP, plain_one, plain_some, plain_none, someP] <;> (intros; first | omega | (simp_all; done) | (simp_all; refine Or.resolve_left (by assumption) (?_ : ¬ (c.qty < 1 ∨ 1000000 < c.qty)); omega))
            · skip
              simp at h9
              refine AWP.seq ?_
              refine AWP.region (fun _ => ?_)
              refine ARun.move (.inr rfl) rfl rfl rfl (Ev.plain rfl) optN ?_
              refine ⟨_, _, rfl, hG, ?_⟩
              refine thenA_n ?_
              refine AWP.ret ?_
              refine blockA_r ?_
              refine thenA_r ?_
              refine endF.one (.inr rfl) rfl (.tmp rfl) ?_ hN
              refine congrArg (AV.int .i64) (?_ : _ = checkP c)
              simp_all [checkP, mayP, plain_one, plain_some, plain_none, someP] <;> (intros; first | omega | (simp_all; done) | (simp_all; refine Or.resolve_left (by assumption) (?_ : ¬ (c.qty < 1 ∨ 1000000 < c.qty)); omega))
    · skip
      simp at h2
      refine AWP.seq ?_
      refine AWP.region (fun _ => ?_)
      refine ARun.cmp rfl rfl rfl rfl (Ev.plain rfl) (Ev.plain rfl) rfl optN ?_
      refine ARun.move (.inr rfl) rfl rfl rfl (Ev.plain rfl) optN ?_
      refine ⟨_, _, rfl, hG, ?_⟩
      refine thenA_n ?_
      refine AWP.cond rfl (fun h11 => ?_) (fun h11 => ?_)
      · skip
        simp at h11
        refine AWP.skip ?_
        refine thenA_n ?_
        refine AWP.cond rfl (fun h12 => ?_) (fun h12 => ?_)
        · skip
          simp at h12
          refine AWP.region (fun _ => ?_)
          refine ARun.move (.inl rfl) rfl rfl rfl (Ev.plain rfl) optN ?_
          refine ARun.move (.inl rfl) rfl rfl rfl (Ev.plain rfl) optN ?_
          refine ARun.loadPeA rfl rfl rfl rfl Tryd.underlying50 rfl sz50 (Ev.plain rfl) rfl optS ?_
          refine ARun.call rfl rfl rfl rfl cf64 (Ev.plain rfl) (.cons (Ev.opt rfl (fun h => h)) (.cons (Ev.plain rfl) (.cons (Ev.plain rfl) .nil))) rfl (fun hg => plainR_fn c 1 1000000) optS ?_
          refine ARun.pick rfl rfl rfl rfl (Ev.plain rfl) (Ev.opt rfl (by first | exact pkT | exact pkT2 | simp +contextual)) (Ev.plain rfl) (andB _ _) optN ?_
          refine ARun.move (.inr rfl) rfl rfl rfl (Ev.plain rfl) optN ?_
          refine ⟨_, _, rfl, hG, ?_⟩
          refine blockA_n ?_
          refine thenA_n ?_
          refine AWP.seq ?_
          refine AWP.seq ?_
          refine AWP.region (fun _ => ?_)
          refine ARun.move (.inl rfl) rfl rfl rfl (Ev.plain rfl) optN ?_
          refine ARun.not rfl rfl rfl rfl (Ev.plain rfl) optN ?_
          refine ⟨_, _, rfl, hG, ?_⟩
          refine thenA_n ?_
          refine AWP.cond rfl (fun h13 => ?_) (fun h13 => ?_)
          · skip
            simp at h13
            refine AWP.seq ?_
            refine AWP.region (fun _ => ?_)
            refine ARun.move (.inr rfl) rfl rfl rfl (Ev.plain rfl) optN ?_
            refine ⟨_, _, rfl, hG, ?_⟩
            refine thenA_n ?_
            refine AWP.ret ?_
            refine thenA_r ?_
            refine endF.one (.inr rfl) rfl (.tmp rfl) ?_ hN
            refine congrArg (AV.int .i64) (?_ : _ = checkP c)
            simp_all [checkP, mayP, plain_one, plain_some, plain_none, someP] <;> (intros; first | omega | (simp_all; done) | (simp_all; refine Or.resolve_left (by assumption) (?_ : ¬ (c.qty < 1 ∨ 1000000 < c.qty)); omega))
          · skip
            simp at h13
            refine AWP.skip ?_
            refine thenA_n ?_
            refine AWP.seq ?_
            refine AWP.region (fun _ => ?_)
            refine ARun.move (.inr rfl) rfl rfl rfl (Ev.plain rfl) optN ?_
            refine ⟨_, _, rfl, hG, ?_⟩
            refine thenA_n ?_
            refine AWP.ret ?_
            refine endF.one (.inr rfl) rfl (.tmp rfl) ?_ hN
            refine congrArg (AV.int .i64) (?_ : _ = checkP c)
            simp_all [checkP, mayP, plain_one, plain_some, plain_none, someP] <;> (intros; first | omega | (simp_all; done) | (simp_all; refine Or.resolve_left (by assumption) (?_ : ¬ (c.qty < 1 ∨ 1000000 < c.qty)); omega))
        · skip
          simp at h12
          refine AWP.seq ?_
          refine AWP.region (fun _ => ?_)
          refine ARun.cmp rfl rfl rfl rfl (Ev.plain rfl) (Ev.plain rfl) rfl optN ?_
          refine ARun.move (.inr rfl) rfl rfl rfl (Ev.plain rfl) optN ?_
          refine ⟨_, _, rfl, hG, ?_⟩
          refine thenA_n ?_
          refine AWP.cond rfl (fun h14 => ?_) (fun h14 => ?_)
          · skip
            simp at h14
            refine AWP.region (fun _ => ?_)
            refine ARun.move (.inl rfl) rfl rfl rfl (Ev.plain rfl) optN ?_
            refine ARun.move (.inl rfl) rfl rfl rfl (Ev.plain rfl) optN ?_
            refine ARun.fieldPe rfl rfl rfl rfl Tryd.underlying50 rfl rfl sz3 (by decide) (Ev.plain rfl) rfl optS ?_
            refine ARun.loadPe rfl rfl rfl rfl Tryd.underlying3 rfl (Ev.opt rfl (fun h => h)) rfl optS ?_
            refine ARun.call rfl rfl rfl rfl cf63 (Ev.plain rfl) (.cons (Ev.opt rfl (fun h => h)) .nil) rfl (fun hg => numberR_fn c.item) optS ?_
            refine ARun.pick rfl rfl rfl rfl (Ev.plain rfl) (Ev.opt rfl (by first | exact pkT | exact pkT2 | simp +contextual)) (Ev.plain rfl) (andB _ _) optN ?_
            refine ARun.move (.inl rfl) rfl rfl rfl (Ev.plain rfl) optN ?_
            refine ARun.fieldPe rfl rfl rfl rfl Tryd.underlying50 rfl rfl sz3 (by decide) (Ev.plain rfl) rfl optS ?_
            refine ARun.loadPe rfl rfl rfl rfl Tryd.underlying3 rfl (Ev.opt rfl (fun h => h)) rfl optS ?_
            refine ARun.call rfl rfl rfl rfl cf63 (Ev.plain rfl) (.cons (Ev.opt rfl (fun h => h)) .nil) rfl (fun hg => numberR_fn c.to_) optS ?_
            refine ARun.pick rfl rfl rfl rfl (Ev.plain rfl) (Ev.opt rfl (by first | exact pkT | exact pkT2 | simp +contextual)) (Ev.plain rfl) (andB _ _) optN ?_
            refine ARun.move (.inl rfl) rfl rfl rfl (Ev.plain rfl) optN ?_
            refine ARun.fieldPe rfl rfl rfl rfl Tryd.underlying50 rfl rfl sz3 (by decide) (Ev.plain rfl) rfl optS ?_
            refine ARun.loadPe rfl rfl rfl rfl Tryd.underlying3 rfl (Ev.opt rfl (fun h => h)) rfl optS ?_
            refine ARun.fieldPe rfl rfl rfl rfl Tryd.underlying50 rfl rfl sz3 (by decide) (Ev.plain rfl) rfl optS ?_
            refine ARun.loadPe rfl rfl rfl rfl Tryd.underlying3 rfl (Ev.opt rfl (fun h => h)) rfl optS ?_
            refine ARun.cmp rfl rfl rfl rfl (Ev.opt rfl (fun h => h)) (Ev.opt rfl (fun h => h)) rfl optS ?_
            refine ARun.pick rfl rfl rfl rfl (Ev.plain rfl) (Ev.opt rfl (by first | exact pkT | exact pkT2 | simp +contextual)) (Ev.plain rfl) (andB _ _) optN ?_
            refine ARun.move (.inl rfl) rfl rfl rfl (Ev.plain rfl) optN ?_
            refine ARun.fieldPe rfl rfl rfl rfl Tryd.underlying50 rfl rfl sz3 (by decide) (Ev.plain rfl) rfl optS ?_
            refine ARun.loadPe rfl rfl rfl rfl Tryd.underlying3 rfl (Ev.opt rfl (fun h => h)) rfl optS ?_
            refine ARun.cmp rfl rfl rfl rfl (Ev.opt rfl (fun h => h)) (Ev.plain rfl) rfl optS ?_
            refine ARun.pick rfl rfl rfl rfl (Ev.plain rfl) (Ev.opt rfl (by first | exact pkT | exact pkT2 | simp +contextual)) (Ev.plain rfl) (andB _ _) optN ?_
            refine ARun.move (.inl rfl) rfl rfl rfl (Ev.plain rfl) optN ?_
            refine ARun.fieldPe rfl rfl rfl rfl Tryd.underlying50 rfl rfl sz3 (by decide) (Ev.plain rfl) rfl optS ?_
            refine ARun.loadPe rfl rfl rfl rfl Tryd.underlying3 rfl (Ev.opt rfl (fun h => h)) rfl optS ?_
            refine ARun.cmp rfl rfl rfl rfl (Ev.opt rfl (fun h => h)) (Ev.plain rfl) rfl optS ?_
            refine ARun.pick rfl rfl rfl rfl (Ev.plain rfl) (Ev.opt rfl (by first | exact pkT | exact pkT2 | simp +contextual)) (Ev.plain rfl) (andB _ _) optN ?_
            refine ARun.move (.inl rfl) rfl rfl rfl (Ev.plain rfl) optN ?_
            refine ARun.fieldPe rfl rfl rfl rfl Tryd.underlying50 rfl rfl sz48 (by decide) (Ev.plain rfl) rfl optS ?_
            refine ARun.loadPe rfl rfl rfl rfl Tryd.underlying48 rfl (Ev.opt rfl (fun h => h)) rfl optS ?_
            refine ARun.lenSl rfl rfl rfl rfl Tryd.underlying48 (Ev.opt rfl (fun h => h)) optS ?_
            refine ARun.cmp rfl rfl rfl rfl (Ev.opt rfl (fun h => h)) (Ev.plain rfl) rfl optS ?_
            refine ARun.pick rfl rfl rfl rfl (Ev.plain rfl) (Ev.opt rfl (by first | exact pkT | exact pkT2 | simp +contextual)) (Ev.plain rfl) (andB _ _) optN ?_
            refine ARun.move (.inr rfl) rfl rfl rfl (Ev.plain rfl) optN ?_
            refine ⟨_, _, rfl, hG, ?_⟩
            refine blockA_n ?_
            refine thenA_n ?_
            refine AWP.seq ?_
            refine AWP.seq ?_
            refine AWP.region (fun _ => ?_)
            refine ARun.move (.inl rfl) rfl rfl rfl (Ev.plain rfl) optN ?_
            refine ARun.not rfl rfl rfl rfl (Ev.plain rfl) optN ?_
            refine ⟨_, _, rfl, hG, ?_⟩
            refine thenA_n ?_
            refine AWP.cond rfl (fun h15 => ?_) (fun h15 => ?_)
            · skip
              simp at h15
              refine AWP.seq ?_
              refine AWP.region (fun _ => ?_)
              refine ARun.move (.inr rfl) rfl rfl rfl (Ev.plain rfl) optN ?_
              refine ⟨_, _, rfl, hG, ?_⟩
              refine thenA_n ?_
              refine AWP.ret ?_
              refine thenA_r ?_
              refine endF.one (.inr rfl) rfl (.tmp rfl) ?_ hN
              refine congrArg (AV.int .i64) (?_ : _ = checkP c)
              simp_all [checkP, mayP, plain_one, plain_some, plain_none, someP] <;> (intros; first | omega | (simp_all; done) | (simp_all; refine Or.resolve_left (by assumption) (?_ : ¬ (c.qty < 1 ∨ 1000000 < c.qty)); omega))
            · skip
              simp at h15
              refine AWP.skip ?_
              refine thenA_n ?_
              refine AWP.seq ?_
              refine AWP.region (fun _ => ?_)
              refine ARun.move (.inr rfl) rfl rfl rfl (Ev.plain rfl) optN ?_
              refine ⟨_, _, rfl, hG, ?_⟩
              refine thenA_n ?_
              refine AWP.ret ?_
              refine endF.one (.inr rfl) rfl (.tmp rfl) ?_ hN
              refine congrArg (AV.int .i64) (?_ : _ = checkP c)
              simp_all [checkP, mayP, plain_one, plain_some, plain_none, someP] <;> (intros; first | omega | (simp_all; done) | (simp_all; refine Or.resolve_left (by assumption) (?_ : ¬ (c.qty < 1 ∨ 1000000 < c.qty)); omega))
          · skip
            simp at h14
            refine AWP.seq ?_
            refine AWP.region (fun _ => ?_)
            refine ARun.cmp rfl rfl rfl rfl (Ev.plain rfl) (Ev.plain rfl) rfl optN ?_
            refine ARun.move (.inr rfl) rfl rfl rfl (Ev.plain rfl) optN ?_
            refine ⟨_, _, rfl, hG, ?_⟩
            refine thenA_n ?_
            refine AWP.cond rfl (fun h16 => ?_) (fun h16 => ?_)
            · skip
              simp at h16
              refine AWP.region (fun _ => ?_)
              refine ARun.move (.inl rfl) rfl rfl rfl (Ev.plain rfl) optN ?_
              refine ARun.move (.inl rfl) rfl rfl rfl (Ev.plain rfl) optN ?_
              refine ARun.loadPeA rfl rfl rfl rfl Tryd.underlying50 rfl sz50 (Ev.plain rfl) rfl optS ?_
              refine ARun.call rfl rfl rfl rfl cf64 (Ev.plain rfl) (.cons (Ev.opt rfl (fun h => h)) (.cons (Ev.plain rfl) (.cons (Ev.plain rfl) .nil))) rfl (fun hg => plainR_fn c 0 0) optS ?_
              refine ARun.pick rfl rfl rfl rfl (Ev.plain rfl) (Ev.opt rfl (by first | exact pkT | exact pkT2 | simp +contextual)) (Ev.plain rfl) (andB _ _) optN ?_
              refine ARun.move (.inr rfl) rfl rfl rfl (Ev.plain rfl) optN ?_
              refine ⟨_, _, rfl, hG, ?_⟩
              refine blockA_n ?_
              refine thenA_n ?_
              refine AWP.seq ?_
              refine AWP.seq ?_
              refine AWP.region (fun _ => ?_)
              refine ARun.move (.inl rfl) rfl rfl rfl (Ev.plain rfl) optN ?_
              refine ARun.not rfl rfl rfl rfl (Ev.plain rfl) optN ?_
              refine ⟨_, _, rfl, hG, ?_⟩
              refine thenA_n ?_
              refine AWP.cond rfl (fun h17 => ?_) (fun h17 => ?_)
              · skip
                simp at h17
                refine AWP.seq ?_
                refine AWP.region (fun _ => ?_)
                refine ARun.move (.inr rfl) rfl rfl rfl (Ev.plain rfl) optN ?_
                refine ⟨_, _, rfl, hG, ?_⟩
                refine thenA_n ?_
                refine AWP.ret ?_
                refine thenA_r ?_
                refine endF.one (.inr rfl) rfl (.tmp rfl) ?_ hN
                refine congrArg (AV.int .i64) (?_ : _ = checkP c)
                simp_all [checkP, mayP, plain_one, plain_some, plain_none, someP] <;> (intros; first | omega | (simp_all; done) | (simp_all; refine Or.resolve_left (by assumption) (?_ : ¬ (c.qty < 1 ∨ 1000000 < c.qty)); omega))
              · skip
                simp at h17
                refine AWP.skip ?_
                refine thenA_n ?_
                refine AWP.seq ?_
                refine AWP.region (fun _ => ?_)
                refine ARun.move (.inr rfl) rfl rfl rfl (Ev.plain rfl) optN ?_
                refine ⟨_, _, rfl, hG, ?_⟩
                refine thenA_n ?_
                refine AWP.ret ?_
                refine endF.one (.inr rfl) rfl (.tmp rfl) ?_ hN
                refine congrArg (AV.int .i64) (?_ : _ = checkP c)
                simp_all [checkP, mayP, plain_one, plain_some, plain_none, someP] <;> (intros; first | omega | (simp_all; done) | (simp_all; refine Or.resolve_left (by assumption) (?_ : ¬ (c.qty < 1 ∨ 1000000 < c.qty)); omega))
            · skip
              simp at h16
              refine AWP.seq ?_
              refine AWP.region (fun _ => ?_)
              refine ARun.cmp rfl rfl rfl rfl (Ev.plain rfl) (Ev.plain rfl) rfl optN ?_
              refine ARun.move (.inr rfl) rfl rfl rfl (Ev.plain rfl) optN ?_
              refine ⟨_, _, rfl, hG, ?_⟩
              refine thenA_n ?_
              refine AWP.cond rfl (fun h18 => ?_) (fun h18 => ?_)
              · skip
                simp at h18
                refine AWP.region (fun _ => ?_)
                refine ARun.move (.inl rfl) rfl rfl rfl (Ev.plain rfl) optN ?_
                refine ARun.move (.inl rfl) rfl rfl rfl (Ev.plain rfl) optN ?_
                refine ARun.fieldPe rfl rfl rfl rfl Tryd.underlying50 rfl rfl sz3 (by decide) (Ev.plain rfl) rfl optS ?_
                refine ARun.loadPe rfl rfl rfl rfl Tryd.underlying3 rfl (Ev.opt rfl (fun h => h)) rfl optS ?_
                refine ARun.cmp rfl rfl rfl rfl (Ev.opt rfl (fun h => h)) (Ev.plain rfl) rfl optS ?_
                refine ARun.pick rfl rfl rfl rfl (Ev.plain rfl) (Ev.opt rfl (by first | exact pkT | exact pkT2 | simp +contextual)) (Ev.plain rfl) (andB _ _) optN ?_
                refine ARun.move (.inl rfl) rfl rfl rfl (Ev.plain rfl) optN ?_
                refine ARun.fieldPe rfl rfl rfl rfl Tryd.underlying50 rfl rfl sz3 (by decide) (Ev.plain rfl) rfl optS ?_
                refine ARun.loadPe rfl rfl rfl rfl Tryd.underlying3 rfl (Ev.opt rfl (fun h => h)) rfl optS ?_
                refine ARun.cmp rfl rfl rfl rfl (Ev.opt rfl (fun h => h)) (Ev.plain rfl) rfl optS ?_
                refine ARun.pick rfl rfl rfl rfl (Ev.plain rfl) (Ev.opt rfl (by first | exact pkT | exact pkT2 | simp +contextual)) (Ev.plain rfl) (andB _ _) optN ?_
                refine ARun.move (.inl rfl) rfl rfl rfl (Ev.plain rfl) optN ?_
                refine ARun.fieldPe rfl rfl rfl rfl Tryd.underlying50 rfl rfl sz3 (by decide) (Ev.plain rfl) rfl optS ?_
                refine ARun.loadPe rfl rfl rfl rfl Tryd.underlying3 rfl (Ev.opt rfl (fun h => h)) rfl optS ?_
                refine ARun.cmp rfl rfl rfl rfl (Ev.opt rfl (fun h => h)) (Ev.plain rfl) rfl optS ?_
                refine ARun.pick rfl rfl rfl rfl (Ev.plain rfl) (Ev.opt rfl (by first | exact pkT | exact pkT2 | simp +contextual)) (Ev.plain rfl) (andB _ _) optN ?_
                refine ARun.move (.inl rfl) rfl rfl rfl (Ev.plain rfl) optN ?_
                refine ARun.fieldPe rfl rfl rfl rfl Tryd.underlying50 rfl rfl sz48 (by decide) (Ev.plain rfl) rfl optS ?_
                refine ARun.loadPe rfl rfl rfl rfl Tryd.underlying48 rfl (Ev.opt rfl (fun h => h)) rfl optS ?_
                refine ARun.call rfl rfl rfl rfl cf65 (Ev.plain rfl) (.cons (Ev.opt rfl (fun h => h)) .nil) rfl (fun hg => linesR_fn c.lines hl) optS ?_
                refine ARun.pick rfl rfl rfl rfl (Ev.plain rfl) (Ev.opt rfl (by first | exact pkT | exact pkT2 | simp +contextual)) (Ev.plain rfl) (andB _ _) optN ?_
                refine ARun.move (.inr rfl) rfl rfl rfl (Ev.plain rfl) optN ?_
                refine ⟨_, _, rfl, hG, ?_⟩
                refine blockA_n ?_
                refine thenA_n ?_
                refine AWP.seq ?_
                refine AWP.seq ?_
                refine AWP.region (fun _ => ?_)
                refine ARun.move (.inl rfl) rfl rfl rfl (Ev.plain rfl) optN ?_
                refine ARun.not rfl rfl rfl rfl (Ev.plain rfl) optN ?_
                refine ⟨_, _, rfl, hG, ?_⟩
                refine thenA_n ?_
                refine AWP.cond rfl (fun h19 => ?_) (fun h19 => ?_)
                · skip
                  simp at h19
                  refine AWP.seq ?_
                  refine AWP.region (fun _ => ?_)
                  refine ARun.move (.inr rfl) rfl rfl rfl (Ev.plain rfl) optN ?_
                  refine ⟨_, _, rfl, hG, ?_⟩
                  refine thenA_n ?_
                  refine AWP.ret ?_
                  refine thenA_r ?_
                  refine endF.one (.inr rfl) rfl (.tmp rfl) ?_ hN
                  refine congrArg (AV.int .i64) (?_ : _ = checkP c)
                  simp_all [checkP, mayP, plain_one, plain_some, plain_none, someP] <;> (intros; first | omega | (simp_all; done) | (simp_all; refine Or.resolve_left (by assumption) (?_ : ¬ (c.qty < 1 ∨ 1000000 < c.qty)); omega))
                · skip
                  simp at h19
                  refine AWP.skip ?_
                  refine thenA_n ?_
                  refine AWP.seq ?_
                  refine AWP.region (fun _ => ?_)
                  refine ARun.move (.inr rfl) rfl rfl rfl (Ev.plain rfl) optN ?_
                  refine ⟨_, _, rfl, hG, ?_⟩
                  refine thenA_n ?_
                  refine AWP.ret ?_
                  refine endF.one (.inr rfl) rfl (.tmp rfl) ?_ hN
                  refine congrArg (AV.int .i64) (?_ : _ = checkP c)
                  simp_all [checkP, mayP, plain_one, plain_some, plain_none, someP] <;> (intros; first | omega | (simp_all; done) | (simp_all; refine Or.resolve_left (by assumption) (?_ : ¬ (c.qty < 1 ∨ 1000000 < c.qty)); omega))
              · skip
                simp at h18
                refine AWP.seq ?_
                refine AWP.region (fun _ => ?_)
                refine ARun.move (.inr rfl) rfl rfl rfl (Ev.plain rfl) optN ?_
                refine ⟨_, _, rfl, hG, ?_⟩
                refine thenA_n ?_
                refine AWP.ret ?_
                refine blockA_r ?_
                refine thenA_r ?_
                refine endF.one (.inr rfl) rfl (.tmp rfl) ?_ hN
                refine congrArg (AV.int .i64) (?_ : _ = checkP c)
                simp_all [checkP, mayP, plain_one, plain_some, plain_none, someP] <;> (intros; first | omega | (simp_all; done) | (simp_all; refine Or.resolve_left (by assumption) (?_ : ¬ (c.qty < 1 ∨ 1000000 < c.qty)); omega))
      · skip
        simp at h11
        refine AWP.seq ?_
        refine AWP.region (fun _ => ?_)
        refine ARun.cmp rfl rfl rfl rfl (Ev.plain rfl) (Ev.plain rfl) rfl optN ?_
        refine ARun.move (.inr rfl) rfl rfl rfl (Ev.plain rfl) optN ?_
        refine ⟨_, _, rfl, hG, ?_⟩
        refine thenA_n ?_
        refine AWP.cond rfl (fun h20 => ?_) (fun h20 => ?_)
        · skip
          simp at h20
          refine AWP.skip ?_
          refine thenA_n ?_
          refine AWP.cond rfl (fun h21 => ?_) (fun h21 => ?_)
          · skip
            simp at h21
            refine AWP.region (fun _ => ?_)
            refine ARun.move (.inl rfl) rfl rfl rfl (Ev.plain rfl) optN ?_
            refine ARun.move (.inl rfl) rfl rfl rfl (Ev.plain rfl) optN ?_
            refine ARun.loadPeA rfl rfl rfl rfl Tryd.underlying50 rfl sz50 (Ev.plain rfl) rfl optS ?_
            refine ARun.call rfl rfl rfl rfl cf64 (Ev.plain rfl) (.cons (Ev.opt rfl (fun h => h)) (.cons (Ev.plain rfl) (.cons (Ev.plain rfl) .nil))) rfl (fun hg => plainR_fn c 1 1000000) optS ?_
            refine ARun.pick rfl rfl rfl rfl (Ev.plain rfl) (Ev.opt rfl (by first | exact pkT | exact pkT2 | simp +contextual)) (Ev.plain rfl) (andB _ _) optN ?_
            refine ARun.move (.inr rfl) rfl rfl rfl (Ev.plain rfl) optN ?_
            refine ⟨_, _, rfl, hG, ?_⟩
            refine blockA_n ?_
            refine thenA_n ?_
            refine AWP.seq ?_
            refine AWP.seq ?_
            refine AWP.region (fun _ => ?_)
            refine ARun.move (.inl rfl) rfl rfl rfl (Ev.plain rfl) optN ?_
            refine ARun.not rfl rfl rfl rfl (Ev.plain rfl) optN ?_
            refine ⟨_, _, rfl, hG, ?_⟩
            refine thenA_n ?_
            refine AWP.cond rfl (fun h22 => ?_) (fun h22 => ?_)
            · skip
              simp at h22
              refine AWP.seq ?_
              refine AWP.region (fun _ => ?_)
              refine ARun.move (.inr rfl) rfl rfl rfl (Ev.plain rfl) optN ?_
              refine ⟨_, _, rfl, hG, ?_⟩
              refine thenA_n ?_
              refine AWP.ret ?_
              refine thenA_r ?_
              refine endF.one (.inr rfl) rfl (.tmp rfl) ?_ hN
              refine congrArg (AV.int .i64) (?_ : _ = checkP c)
              simp_all [checkP, mayP, plain_one, plain_some, plain_none, someP] <;> (intros; first | omega | (simp_all; done) | (simp_all; refine Or.resolve_left (by assumption) (?_ : ¬ (c.qty < 1 ∨ 1000000 < c.qty)); omega))
            · skip
              simp at h22
              refine AWP.skip ?_
              refine thenA_n ?_
              refine AWP.seq ?_
              refine AWP.region (fun _ => ?_)
              refine ARun.move (.inr rfl) rfl rfl rfl (Ev.plain rfl) optN ?_
              refine ⟨_, _, rfl, hG, ?_⟩
              refine thenA_n ?_
              refine AWP.ret ?_
              refine endF.one (.inr rfl) rfl (.tmp rfl) ?_ hN
              refine congrArg (AV.int .i64) (?_ : _ = checkP c)
              simp_all [checkP, mayP, plain_one, plain_some, plain_none, someP] <;> (intros; first | omega | (simp_all; done) | (simp_all; refine Or.resolve_left (by assumption) (?_ : ¬ (c.qty < 1 ∨ 1000000 < c.qty)); omega))
          · skip
            simp at h21
            refine AWP.seq ?_
            refine AWP.region (fun _ => ?_)
            refine ARun.cmp rfl rfl rfl rfl (Ev.plain rfl) (Ev.plain rfl) rfl optN ?_
            refine ARun.move (.inr rfl) rfl rfl rfl (Ev.plain rfl) optN ?_
            refine ⟨_, _, rfl, hG, ?_⟩
            refine thenA_n ?_
            refine AWP.cond rfl (fun h23 => ?_) (fun h23 => ?_)
            · skip
              simp at h23
              refine AWP.region (fun _ => ?_)
              refine ARun.move (.inl rfl) rfl rfl rfl (Ev.plain rfl) optN ?_
              refine ARun.move (.inl rfl) rfl rfl rfl (Ev.plain rfl) optN ?_
              refine ARun.fieldPe rfl rfl rfl rfl Tryd.underlying50 rfl rfl sz3 (by decide) (Ev.plain rfl) rfl optS ?_
              refine ARun.loadPe rfl rfl rfl rfl Tryd.underlying3 rfl (Ev.opt rfl (fun h => h)) rfl optS ?_
              refine ARun.call rfl rfl rfl rfl cf63 (Ev.plain rfl) (.cons (Ev.opt rfl (fun h => h)) .nil) rfl (fun hg => numberR_fn c.item) optS ?_
              refine ARun.pick rfl rfl rfl rfl (Ev.plain rfl) (Ev.opt rfl (by first | exact pkT | exact pkT2 | simp +contextual)) (Ev.plain rfl) (andB _ _) optN ?_
              refine ARun.move (.inl rfl) rfl rfl rfl (Ev.plain rfl) optN ?_
              refine ARun.fieldPe rfl rfl rfl rfl Tryd.underlying50 rfl rfl sz3 (by decide) (Ev.plain rfl) rfl optS ?_
              refine ARun.loadPe rfl rfl rfl rfl Tryd.underlying3 rfl (Ev.opt rfl (fun h => h)) rfl optS ?_
              refine ARun.call rfl rfl rfl rfl cf63 (Ev.plain rfl) (.cons (Ev.opt rfl (fun h => h)) .nil) rfl (fun hg => numberR_fn c.to_) optS ?_
              refine ARun.pick rfl rfl rfl rfl (Ev.plain rfl) (Ev.opt rfl (by first | exact pkT | exact pkT2 | simp +contextual)) (Ev.plain rfl) (andB _ _) optN ?_
              refine ARun.move (.inl rfl) rfl rfl rfl (Ev.plain rfl) optN ?_
              refine ARun.fieldPe rfl rfl rfl rfl Tryd.underlying50 rfl rfl sz3 (by decide) (Ev.plain rfl) rfl optS ?_
              refine ARun.loadPe rfl rfl rfl rfl Tryd.underlying3 rfl (Ev.opt rfl (fun h => h)) rfl optS ?_
              refine ARun.fieldPe rfl rfl rfl rfl Tryd.underlying50 rfl rfl sz3 (by decide) (Ev.plain rfl) rfl optS ?_
              refine ARun.loadPe rfl rfl rfl rfl Tryd.underlying3 rfl (Ev.opt rfl (fun h => h)) rfl optS ?_
              refine ARun.cmp rfl rfl rfl rfl (Ev.opt rfl (fun h => h)) (Ev.opt rfl (fun h => h)) rfl optS ?_
              refine ARun.pick rfl rfl rfl rfl (Ev.plain rfl) (Ev.opt rfl (by first | exact pkT | exact pkT2 | simp +contextual)) (Ev.plain rfl) (andB _ _) optN ?_
              refine ARun.move (.inl rfl) rfl rfl rfl (Ev.plain rfl) optN ?_
              refine ARun.fieldPe rfl rfl rfl rfl Tryd.underlying50 rfl rfl sz3 (by decide) (Ev.plain rfl) rfl optS ?_
              refine ARun.loadPe rfl rfl rfl rfl Tryd.underlying3 rfl (Ev.opt rfl (fun h => h)) rfl optS ?_
              refine ARun.cmp rfl rfl rfl rfl (Ev.opt rfl (fun h => h)) (Ev.plain rfl) rfl optS ?_
              refine ARun.pick rfl rfl rfl rfl (Ev.plain rfl) (Ev.opt rfl (by first | exact pkT | exact pkT2 | simp +contextual)) (Ev.plain rfl) (andB _ _) optN ?_
              refine ARun.move (.inl rfl) rfl rfl rfl (Ev.plain rfl) optN ?_
              refine ARun.fieldPe rfl rfl rfl rfl Tryd.underlying50 rfl rfl sz3 (by decide) (Ev.plain rfl) rfl optS ?_
              refine ARun.loadPe rfl rfl rfl rfl Tryd.underlying3 rfl (Ev.opt rfl (fun h => h)) rfl optS ?_
              refine ARun.cmp rfl rfl rfl rfl (Ev.opt rfl (fun h => h)) (Ev.plain rfl) rfl optS ?_
              refine ARun.pick rfl rfl rfl rfl (Ev.plain rfl) (Ev.opt rfl (by first | exact pkT | exact pkT2 | simp +contextual)) (Ev.plain rfl) (andB _ _) optN ?_
              refine ARun.move (.inl rfl) rfl rfl rfl (Ev.plain rfl) optN ?_
              refine ARun.fieldPe rfl rfl rfl rfl Tryd.underlying50 rfl rfl sz48 (by decide) (Ev.plain rfl) rfl optS ?_
              refine ARun.loadPe rfl rfl rfl rfl Tryd.underlying48 rfl (Ev.opt rfl (fun h => h)) rfl optS ?_
              refine ARun.lenSl rfl rfl rfl rfl Tryd.underlying48 (Ev.opt rfl (fun h => h)) optS ?_
              refine ARun.cmp rfl rfl rfl rfl (Ev.opt rfl (fun h => h)) (Ev.plain rfl) rfl optS ?_
              refine ARun.pick rfl rfl rfl rfl (Ev.plain rfl) (Ev.opt rfl (by first | exact pkT | exact pkT2 | simp +contextual)) (Ev.plain rfl) (andB _ _) optN ?_
              refine ARun.move (.inr rfl) rfl rfl rfl (Ev.plain rfl) optN ?_
              refine ⟨_, _, rfl, hG, ?_⟩
              refine blockA_n ?_
              refine thenA_n ?_
              refine AWP.seq ?_
              refine AWP.seq ?_
              refine AWP.region (fun _ => ?_)
              refine ARun.move (.inl rfl) rfl rfl rfl (Ev.plain rfl) optN ?_
              refine ARun.not rfl rfl rfl rfl (Ev.plain rfl) optN ?_
              refine ⟨_, _, rfl, hG, ?_⟩
              refine thenA_n ?_
              refine AWP.cond rfl (fun h24 => ?_) (fun h24 => ?_)
              · skip
                simp at h24
                refine AWP.seq ?_
                refine AWP.region (fun _ => ?_)
                refine ARun.move (.inr rfl) rfl rfl rfl (Ev.plain rfl) optN ?_
                refine ⟨_, _, rfl, hG, ?_⟩
                refine thenA_n ?_
                refine AWP.ret ?_
                refine thenA_r ?_
                refine endF.one (.inr rfl) rfl (.tmp rfl) ?_ hN
                refine congrArg (AV.int .i64) (?_ : _ = checkP c)
                simp_all [checkP, mayP, plain_one, plain_some, plain_none, someP] <;> (intros; first | omega | (simp_all; done) | (simp_all; refine Or.resolve_left (by assumption) (?_ : ¬ (c.qty < 1 ∨ 1000000 < c.qty)); omega))
              · skip
                simp at h24
                refine AWP.skip ?_
                refine thenA_n ?_
                refine AWP.seq ?_
                refine AWP.region (fun _ => ?_)
                refine ARun.move (.inr rfl) rfl rfl rfl (Ev.plain rfl) optN ?_
                refine ⟨_, _, rfl, hG, ?_⟩
                refine thenA_n ?_
                refine AWP.ret ?_
                refine endF.one (.inr rfl) rfl (.tmp rfl) ?_ hN
                refine congrArg (AV.int .i64) (?_ : _ = checkP c)
                simp_all [checkP, mayP, plain_one, plain_some, plain_none, someP] <;> (intros; first | omega | (simp_all; done) | (simp_all; refine Or.resolve_left (by assumption) (?_ : ¬ (c.qty < 1 ∨ 1000000 < c.qty)); omega))
            · skip
              simp at h23
              refine AWP.seq ?_
              refine AWP.region (fun _ => ?_)
              refine ARun.cmp rfl rfl rfl rfl (Ev.plain rfl) (Ev.plain rfl) rfl optN ?_
              refine ARun.move (.inr rfl) rfl rfl rfl (Ev.plain rfl) optN ?_
              refine ⟨_, _, rfl, hG, ?_⟩
              refine thenA_n ?_
              refine AWP.cond rfl (fun h25 => ?_) (fun h25 => ?_)
              · skip
                simp at h25
                refine AWP.region (fun _ => ?_)
                refine ARun.move (.inl rfl) rfl rfl rfl (Ev.plain rfl) optN ?_
                refine ARun.move (.inl rfl) rfl rfl rfl (Ev.plain rfl) optN ?_
                refine ARun.loadPeA rfl rfl rfl rfl Tryd.underlying50 rfl sz50 (Ev.plain rfl) rfl optS ?_
                refine ARun.call rfl rfl rfl rfl cf64 (Ev.plain rfl) (.cons (Ev.opt rfl (fun h => h)) (.cons (Ev.plain rfl) (.cons (Ev.plain rfl) .nil))) rfl (fun hg => plainR_fn c 0 0) optS ?_
                refine ARun.pick rfl rfl rfl rfl (Ev.plain rfl) (Ev.opt rfl (by first | exact pkT | exact pkT2 | simp +contextual)) (Ev.plain rfl) (andB _ _) optN ?_
                refine ARun.move (.inr rfl) rfl rfl rfl (Ev.plain rfl) optN ?_
                refine ⟨_, _, rfl, hG, ?_⟩
                refine blockA_n ?_
                refine thenA_n ?_
                refine AWP.seq ?_
                refine AWP.seq ?_
                refine AWP.region (fun _ => ?_)
                refine ARun.move (.inl rfl) rfl rfl rfl (Ev.plain rfl) optN ?_
                refine ARun.not rfl rfl rfl rfl (Ev.plain rfl) optN ?_
                refine ⟨_, _, rfl, hG, ?_⟩
                refine thenA_n ?_
                refine AWP.cond rfl (fun h26 => ?_) (fun h26 => ?_)
                · skip
                  simp at h26
                  refine AWP.seq ?_
                  refine AWP.region (fun _ => ?_)
                  refine ARun.move (.inr rfl) rfl rfl rfl (Ev.plain rfl) optN ?_
                  refine ⟨_, _, rfl, hG, ?_⟩
                  refine thenA_n ?_
                  refine AWP.ret ?_
                  refine thenA_r ?_
                  refine endF.one (.inr rfl) rfl (.tmp rfl) ?_ hN
                  refine congrArg (AV.int .i64) (?_ : _ = checkP c)
                  simp_all [checkP, mayP, plain_one, plain_some, plain_none, someP] <;> (intros; first | omega | (simp_all; done) | (simp_all; refine Or.resolve_left (by assumption) (?_ : ¬ (c.qty < 1 ∨ 1000000 < c.qty)); omega))
                · skip
                  simp at h26
                  refine AWP.skip ?_
                  refine thenA_n ?_
                  refine AWP.seq ?_
                  refine AWP.region (fun _ => ?_)
                  refine ARun.move (.inr rfl) rfl rfl rfl (Ev.plain rfl) optN ?_
                  refine ⟨_, _, rfl, hG, ?_⟩
                  refine thenA_n ?_
                  refine AWP.ret ?_
                  refine endF.one (.inr rfl) rfl (.tmp rfl) ?_ hN
                  refine congrArg (AV.int .i64) (?_ : _ = checkP c)
                  simp_all [checkP, mayP, plain_one, plain_some, plain_none, someP] <;> (intros; first | omega | (simp_all; done) | (simp_all; refine Or.resolve_left (by assumption) (?_ : ¬ (c.qty < 1 ∨ 1000000 < c.qty)); omega))
              · skip
                simp at h25
                refine AWP.seq ?_
                refine AWP.region (fun _ => ?_)
                refine ARun.cmp rfl rfl rfl rfl (Ev.plain rfl) (Ev.plain rfl) rfl optN ?_
                refine ARun.move (.inr rfl) rfl rfl rfl (Ev.plain rfl) optN ?_
                refine ⟨_, _, rfl, hG, ?_⟩
                refine thenA_n ?_
                refine AWP.cond rfl (fun h27 => ?_) (fun h27 => ?_)
                · skip
                  simp at h27
                  refine AWP.region (fun _ => ?_)
                  refine ARun.move (.inl rfl) rfl rfl rfl (Ev.plain rfl) optN ?_
                  refine ARun.move (.inl rfl) rfl rfl rfl (Ev.plain rfl) optN ?_
                  refine ARun.fieldPe rfl rfl rfl rfl Tryd.underlying50 rfl rfl sz3 (by decide) (Ev.plain rfl) rfl optS ?_
                  refine ARun.loadPe rfl rfl rfl rfl Tryd.underlying3 rfl (Ev.opt rfl (fun h => h)) rfl optS ?_
                  refine ARun.cmp rfl rfl rfl rfl (Ev.opt rfl (fun h => h)) (Ev.plain rfl) rfl optS ?_
                  refine ARun.pick rfl rfl rfl rfl (Ev.plain rfl) (Ev.opt rfl (by first | exact pkT | exact pkT2 | simp +contextual)) (Ev.plain rfl) (andB _ _) optN ?_
                  refine ARun.move (.inl rfl) rfl rfl rfl (Ev.plain rfl) optN ?_
                  refine ARun.fieldPe rfl rfl rfl rfl Tryd.underlying50 rfl rfl sz3 (by decide) (Ev.plain rfl) rfl optS ?_
                  refine ARun.loadPe rfl rfl rfl rfl Tryd.underlying3 rfl (Ev.opt rfl (fun h => h)) rfl optS ?_
                  refine ARun.cmp rfl rfl rfl rfl (Ev.opt rfl (fun h => h)) (Ev.plain rfl) rfl optS ?_
                  refine ARun.pick rfl rfl rfl rfl (Ev.plain rfl) (Ev.opt rfl (by first | exact pkT | exact pkT2 | simp +contextual)) (Ev.plain rfl) (andB _ _) optN ?_
                  refine ARun.move (.inl rfl) rfl rfl rfl (Ev.plain rfl) optN ?_
                  refine ARun.fieldPe rfl rfl rfl rfl Tryd.underlying50 rfl rfl sz3 (by decide) (Ev.plain rfl) rfl optS ?_
                  refine ARun.loadPe rfl rfl rfl rfl Tryd.underlying3 rfl (Ev.opt rfl (fun h => h)) rfl optS ?_
                  refine ARun.cmp rfl rfl rfl rfl (Ev.opt rfl (fun h => h)) (Ev.plain rfl) rfl optS ?_
                  refine ARun.pick rfl rfl rfl rfl (Ev.plain rfl) (Ev.opt rfl (by first | exact pkT | exact pkT2 | simp +contextual)) (Ev.plain rfl) (andB _ _) optN ?_
                  refine ARun.move (.inl rfl) rfl rfl rfl (Ev.plain rfl) optN ?_
                  refine ARun.fieldPe rfl rfl rfl rfl Tryd.underlying50 rfl rfl sz48 (by decide) (Ev.plain rfl) rfl optS ?_
                  refine ARun.loadPe rfl rfl rfl rfl Tryd.underlying48 rfl (Ev.opt rfl (fun h => h)) rfl optS ?_
                  refine ARun.call rfl rfl rfl rfl cf65 (Ev.plain rfl) (.cons (Ev.opt rfl (fun h => h)) .nil) rfl (fun hg => linesR_fn c.lines hl) optS ?_
                  refine ARun.pick rfl rfl rfl rfl (Ev.plain rfl) (Ev.opt rfl (by first | exact pkT | exact pkT2 | simp +contextual)) (Ev.plain rfl) (andB _ _) optN ?_
                  refine ARun.move (.inr rfl) rfl rfl rfl (Ev.plain rfl) optN ?_
                  refine ⟨_, _, rfl, hG, ?_⟩
                  refine blockA_n ?_
                  refine thenA_n ?_
                  refine AWP.seq ?_
                  refine AWP.seq ?_
                  refine AWP.region (fun _ => ?_)
                  refine ARun.move (.inl rfl) rfl rfl rfl (Ev.plain rfl) optN ?_
                  refine ARun.not rfl rfl rfl rfl (Ev.plain rfl) optN ?_
                  refine ⟨_, _, rfl, hG, ?_⟩
                  refine thenA_n ?_
                  refine AWP.cond rfl (fun h28 => ?_) (fun h28 => ?_)
                  · skip
                    simp at h28
                    refine AWP.seq ?_
                    refine AWP.region (fun _ => ?_)
                    refine ARun.move (.inr rfl) rfl rfl rfl (Ev.plain rfl) optN ?_
                    refine ⟨_, _, rfl, hG, ?_⟩
                    refine thenA_n ?_
                    refine AWP.ret ?_
                    refine thenA_r ?_
                    refine endF.one (.inr rfl) rfl (.tmp rfl) ?_ hN
                    refine congrArg (AV.int .i64) (?_ : _ = checkP c)
                    simp_all [checkP, mayP, plain_one, plain_some, plain_none, someP] <;> (intros; first | omega | (simp_all; done) | (simp_all; refine Or.resolve_left (by assumption) (?_ : ¬ (c.qty < 1 ∨ 1000000 < c.qty)); omega))
                  · skip
                    simp at h28
                    refine AWP.skip ?_
                    refine thenA_n ?_
                    refine AWP.seq ?_
                    refine AWP.region (fun _ => ?_)
                    refine ARun.move (.inr rfl) rfl rfl rfl (Ev.plain rfl) optN ?_
                    refine ⟨_, _, rfl, hG, ?_⟩
                    refine thenA_n ?_
                    refine AWP.ret ?_
                    refine endF.one (.inr rfl) rfl (.tmp rfl) ?_ hN
                    refine congrArg (AV.int .i64) (?_ : _ = checkP c)
                    simp_all [checkP, mayP, plain_one, plain_some, plain_none, someP] <;> (intros; first | omega | (simp_all; done) | (simp_all; refine Or.resolve_left (by assumption) (?_ : ¬ (c.qty < 1 ∨ 1000000 < c.qty)); omega))
                · skip
                  simp at h27
                  refine AWP.seq ?_
                  refine AWP.region (fun _ => ?_)
                  refine ARun.move (.inr rfl) rfl rfl rfl (Ev.plain rfl) optN ?_
                  refine ⟨_, _, rfl, hG, ?_⟩
                  refine thenA_n ?_
                  refine AWP.ret ?_
                  refine blockA_r ?_
                  refine thenA_r ?_
                  refine endF.one (.inr rfl) rfl (.tmp rfl) ?_ hN
                  refine congrArg (AV.int .i64) (?_ : _ = checkP c)
                  simp_all [checkP, mayP, plain_one, plain_some, plain_none, someP] <;> (intros; first | omega | (simp_all; done) | (simp_all; refine Or.resolve_left (by assumption) (?_ : ¬ (c.qty < 1 ∨ 1000000 < c.qty)); omega))
        · skip
          simp at h20
          refine AWP.region (fun _ => ?_)
          refine ARun.cmp rfl rfl rfl rfl (Ev.plain rfl) (Ev.plain rfl) rfl optN ?_
          refine ARun.move (.inr rfl) rfl rfl rfl (Ev.plain rfl) optN ?_
          refine ⟨_, _, rfl, hG, ?_⟩
          refine thenA_n ?_
          refine AWP.cond rfl (fun h29 => ?_) (fun h29 => ?_)
          · skip
            simp at h29
            refine AWP.region (fun _ => ?_)
            refine ARun.move (.inl rfl) rfl rfl rfl (Ev.plain rfl) optN ?_
            refine ARun.move (.inl rfl) rfl rfl rfl (Ev.plain rfl) optN ?_
            refine ARun.loadPeA rfl rfl rfl rfl Tryd.underlying50 rfl sz50 (Ev.plain rfl) rfl optS ?_
            refine ARun.call rfl rfl rfl rfl cf64 (Ev.plain rfl) (.cons (Ev.opt rfl (fun h => h)) (.cons (Ev.plain rfl) (.cons (Ev.plain rfl) .nil))) rfl (fun hg => plainR_fn c 1 1000000) optS ?_
            refine ARun.pick rfl rfl rfl rfl (Ev.plain rfl) (Ev.opt rfl (by first | exact pkT | exact pkT2 | simp +contextual)) (Ev.plain rfl) (andB _ _) optN ?_
            refine ARun.move (.inr rfl) rfl rfl rfl (Ev.plain rfl) optN ?_
            refine ⟨_, _, rfl, hG, ?_⟩
            refine blockA_n ?_
            refine thenA_n ?_
            refine AWP.seq ?_
            refine AWP.seq ?_
            refine AWP.region (fun _ => ?_)
            refine ARun.move (.inl rfl) rfl rfl rfl (Ev.plain rfl) optN ?_
            refine ARun.not rfl rfl rfl rfl (Ev.plain rfl) optN ?_
            refine ⟨_, _, rfl, hG, ?_⟩
            refine thenA_n ?_
            refine AWP.cond rfl (fun h30 => ?_) (fun h30 => ?_)
            · skip
              simp at h30
              refine AWP.seq ?_
              refine AWP.region (fun _ => ?_)
              refine ARun.move (.inr rfl) rfl rfl rfl (Ev.plain rfl) optN ?_
              refine ⟨_, _, rfl, hG, ?_⟩
              refine thenA_n ?_
              refine AWP.ret ?_
              refine thenA_r ?_
              refine endF.one (.inr rfl) rfl (.tmp rfl) ?_ hN
              refine congrArg (AV.int .i64) (?_ : _ = checkP c)
              simp_all [checkP, mayP, plain_one, plain_some, plain_none, someP] <;> (intros; first | omega | (simp_all; done) | (simp_all; refine Or.resolve_left (by assumption) (?_ : ¬ (c.qty < 1 ∨ 1000000 < c.qty)); omega))
            · skip
              simp at h30
              refine AWP.skip ?_
              refine thenA_n ?_
              refine AWP.seq ?_
              refine AWP.region (fun _ => ?_)
              refine ARun.move (.inr rfl) rfl rfl rfl (Ev.plain rfl) optN ?_
              refine ⟨_, _, rfl, hG, ?_⟩
              refine thenA_n ?_
              refine AWP.ret ?_
              refine endF.one (.inr rfl) rfl (.tmp rfl) ?_ hN
              refine congrArg (AV.int .i64) (?_ : _ = checkP c)
              simp_all [checkP, mayP, plain_one, plain_some, plain_none, someP] <;> (intros; first | omega | (simp_all; done) | (simp_all; refine Or.resolve_left (by assumption) (?_ : ¬ (c.qty < 1 ∨ 1000000 < c.qty)); omega))
          · skip
            simp at h29
            refine AWP.seq ?_
            refine AWP.region (fun _ => ?_)
            refine ARun.cmp rfl rfl rfl rfl (Ev.plain rfl) (Ev.plain rfl) rfl optN ?_
            refine ARun.move (.inr rfl) rfl rfl rfl (Ev.plain rfl) optN ?_
            refine ⟨_, _, rfl, hG, ?_⟩
            refine thenA_n ?_
            refine AWP.cond rfl (fun h31 => ?_) (fun h31 => ?_)
            · skip
              simp at h31
              refine AWP.region (fun _ => ?_)
              refine ARun.move (.inl rfl) rfl rfl rfl (Ev.plain rfl) optN ?_
              refine ARun.move (.inl rfl) rfl rfl rfl (Ev.plain rfl) optN ?_
              refine ARun.fieldPe rfl rfl rfl rfl Tryd.underlying50 rfl rfl sz3 (by decide) (Ev.plain rfl) rfl optS ?_
              refine ARun.loadPe rfl rfl rfl rfl Tryd.underlying3 rfl (Ev.opt rfl (fun h => h)) rfl optS ?_
              refine ARun.call rfl rfl rfl rfl cf63 (Ev.plain rfl) (.cons (Ev.opt rfl (fun h => h)) .nil) rfl (fun hg => numberR_fn c.item) optS ?_
              refine ARun.pick rfl rfl rfl rfl (Ev.plain rfl) (Ev.opt rfl (by first | exact pkT | exact pkT2 | simp +contextual)) (Ev.plain rfl) (andB _ _) optN ?_
              refine ARun.move (.inl rfl) rfl rfl rfl (Ev.plain rfl) optN ?_
              refine ARun.fieldPe rfl rfl rfl rfl Tryd.underlying50 rfl rfl sz3 (by decide) (Ev.plain rfl) rfl optS ?_
              refine ARun.loadPe rfl rfl rfl rfl Tryd.underlying3 rfl (Ev.opt rfl (fun h => h)) rfl optS ?_
              refine ARun.call rfl rfl rfl rfl cf63 (Ev.plain rfl) (.cons (Ev.opt rfl (fun h => h)) .nil) rfl (fun hg => numberR_fn c.to_) optS ?_
              refine ARun.pick rfl rfl rfl rfl (Ev.plain rfl) (Ev.opt rfl (by first | exact pkT | exact pkT2 | simp +contextual)) (Ev.plain rfl) (andB _ _) optN ?_
              refine ARun.move (.inl rfl) rfl rfl rfl (Ev.plain rfl) optN ?_
              refine ARun.fieldPe rfl rfl rfl rfl Tryd.underlying50 rfl rfl sz3 (by decide) (Ev.plain rfl) rfl optS ?_
              refine ARun.loadPe rfl rfl rfl rfl Tryd.underlying3 rfl (Ev.opt rfl (fun h => h)) rfl optS ?_
              refine ARun.fieldPe rfl rfl rfl rfl Tryd.underlying50 rfl rfl sz3 (by decide) (Ev.plain rfl) rfl optS ?_
              refine ARun.loadPe rfl rfl rfl rfl Tryd.underlying3 rfl (Ev.opt rfl (fun h => h)) rfl optS ?_
              refine ARun.cmp rfl rfl rfl rfl (Ev.opt rfl (fun h => h)) (Ev.opt rfl (fun h => h)) rfl optS ?_
              refine ARun.pick rfl rfl rfl rfl (Ev.plain rfl) (Ev.opt rfl (by first | exact pkT | exact pkT2 | simp +contextual)) (Ev.plain rfl) (andB _ _) optN ?_
              refine ARun.move (.inl rfl) rfl rfl rfl (Ev.plain rfl) optN ?_
              refine ARun.fieldPe rfl rfl rfl rfl Tryd.underlying50 rfl rfl sz3 (by decide) (Ev.plain rfl) rfl optS ?_
              refine ARun.loadPe rfl rfl rfl rfl Tryd.underlying3 rfl (Ev.opt rfl (fun h => h)) rfl optS ?_
              refine ARun.cmp rfl rfl rfl rfl (Ev.opt rfl (fun h => h)) (Ev.plain rfl) rfl optS ?_
              refine ARun.pick rfl rfl rfl rfl (Ev.plain rfl) (Ev.opt rfl (by first | exact pkT | exact pkT2 | simp +contextual)) (Ev.plain rfl) (andB _ _) optN ?_
              refine ARun.move (.inl rfl) rfl rfl rfl (Ev.plain rfl) optN ?_
              refine ARun.fieldPe rfl rfl rfl rfl Tryd.underlying50 rfl rfl sz3 (by decide) (Ev.plain rfl) rfl optS ?_
              refine ARun.loadPe rfl rfl rfl rfl Tryd.underlying3 rfl (Ev.opt rfl (fun h => h)) rfl optS ?_
              refine ARun.cmp rfl rfl rfl rfl (Ev.opt rfl (fun h => h)) (Ev.plain rfl) rfl optS ?_
              refine ARun.pick rfl rfl rfl rfl (Ev.plain rfl) (Ev.opt rfl (by first | exact pkT | exact pkT2 | simp +contextual)) (Ev.plain rfl) (andB _ _) optN ?_
              refine ARun.move (.inl rfl) rfl rfl rfl (Ev.plain rfl) optN ?_
              refine ARun.fieldPe rfl rfl rfl rfl Tryd.underlying50 rfl rfl sz48 (by decide) (Ev.plain rfl) rfl optS ?_
              refine ARun.loadPe rfl rfl rfl rfl Tryd.underlying48 rfl (Ev.opt rfl (fun h => h)) rfl optS ?_
              refine ARun.lenSl rfl rfl rfl rfl Tryd.underlying48 (Ev.opt rfl (fun h => h)) optS ?_
              refine ARun.cmp rfl rfl rfl rfl (Ev.opt rfl (fun h => h)) (Ev.plain rfl) rfl optS ?_
              refine ARun.pick rfl rfl rfl rfl (Ev.plain rfl) (Ev.opt rfl (by first | exact pkT | exact pkT2 | simp +contextual)) (Ev.plain rfl) (andB _ _) optN ?_
              refine ARun.move (.inr rfl) rfl rfl rfl (Ev.plain rfl) optN ?_
              refine ⟨_, _, rfl, hG, ?_⟩
              refine blockA_n ?_
              refine thenA_n ?_
              refine AWP.seq ?_
              refine AWP.seq ?_
              refine AWP.region (fun _ => ?_)
              refine ARun.move (.inl rfl) rfl rfl rfl (Ev.plain rfl) optN ?_
              refine ARun.not rfl rfl rfl rfl (Ev.plain rfl) optN ?_
              refine ⟨_, _, rfl, hG, ?_⟩
              refine thenA_n ?_
              refine AWP.cond rfl (fun h32 => ?_) (fun h32 => ?_)
              · skip
                simp at h32
                refine AWP.seq ?_
                refine AWP.region (fun _ => ?_)
                refine ARun.move (.inr rfl) rfl rfl rfl (Ev.plain rfl) optN ?_
                refine ⟨_, _, rfl, hG, ?_⟩
                refine thenA_n ?_
                refine AWP.ret ?_
                refine thenA_r ?_
                refine endF.one (.inr rfl) rfl (.tmp rfl) ?_ hN
                refine congrArg (AV.int .i64) (?_ : _ = checkP c)
                simp_all [checkP, mayP, plain_one, plain_some, plain_none, someP] <;> (intros; first | omega | (simp_all; done) | (simp_all; refine Or.resolve_left (by assumption) (?_ : ¬ (c.qty < 1 ∨ 1000000 < c.qty)); omega))
              · skip
                simp at h32
                refine AWP.skip ?_
                refine thenA_n ?_
                refine AWP.seq ?_
                refine AWP.region (fun _ => ?_)
                refine ARun.move (.inr rfl) rfl rfl rfl (Ev.plain rfl) optN ?_
                refine ⟨_, _, rfl, hG, ?_⟩
                refine thenA_n ?_
                refine AWP.ret ?_
                refine endF.one (.inr rfl) rfl (.tmp rfl) ?_ hN
                refine congrArg (AV.int .i64) (?_ : _ = checkP c)
                simp_all [checkP, mayP, plain_one, plain_some, plain_none, someP] <;> (intros; first | omega | (simp_all; done) | (simp_all; refine Or.resolve_left (by assumption) (?_ : ¬ (c.qty < 1 ∨ 1000000 < c.qty)); omega))
            · skip
              simp at h31
              refine AWP.seq ?_
              refine AWP.region (fun _ => ?_)
              refine ARun.cmp rfl rfl rfl rfl (Ev.plain rfl) (Ev.plain rfl) rfl optN ?_
              refine ARun.move (.inr rfl) rfl rfl rfl (Ev.plain rfl) optN ?_
              refine ⟨_, _, rfl, hG, ?_⟩
              refine thenA_n ?_
              refine AWP.cond rfl (fun h33 => ?_) (fun h33 => ?_)
              · skip
                simp at h33
                refine AWP.region (fun _ => ?_)
                refine ARun.move (.inl rfl) rfl rfl rfl (Ev.plain rfl) optN ?_
                refine ARun.move (.inl rfl) rfl rfl rfl (Ev.plain rfl) optN ?_
                refine ARun.loadPeA rfl rfl rfl rfl Tryd.underlying50 rfl sz50 (Ev.plain rfl) rfl optS ?_
                refine ARun.call rfl rfl rfl rfl cf64 (Ev.plain rfl) (.cons (Ev.opt rfl (fun h => h)) (.cons (Ev.plain rfl) (.cons (Ev.plain rfl) .nil))) rfl (fun hg => plainR_fn c 0 0) optS ?_
                refine ARun.pick rfl rfl rfl rfl (Ev.plain rfl) (Ev.opt rfl (by first | exact pkT | exact pkT2 | simp +contextual)) (Ev.plain rfl) (andB _ _) optN ?_
                refine ARun.move (.inr rfl) rfl rfl rfl (Ev.plain rfl) optN ?_
                refine ⟨_, _, rfl, hG, ?_⟩
                refine blockA_n ?_
                refine thenA_n ?_
                refine AWP.seq ?_
                refine AWP.seq ?_
                refine AWP.region (fun _ => ?_)
                refine ARun.move (.inl rfl) rfl rfl rfl (Ev.plain rfl) optN ?_
                refine ARun.not rfl rfl rfl rfl (Ev.plain rfl) optN ?_
                refine ⟨_, _, rfl, hG, ?_⟩
                refine thenA_n ?_
                refine AWP.cond rfl (fun h34 => ?_) (fun h34 => ?_)
                · skip
                  simp at h34
                  refine AWP.seq ?_
                  refine AWP.region (fun _ => ?_)
                  refine ARun.move (.inr rfl) rfl rfl rfl (Ev.plain rfl) optN ?_
                  refine ⟨_, _, rfl, hG, ?_⟩
                  refine thenA_n ?_
                  refine AWP.ret ?_
                  refine thenA_r ?_
                  refine endF.one (.inr rfl) rfl (.tmp rfl) ?_ hN
                  refine congrArg (AV.int .i64) (?_ : _ = checkP c)
                  simp_all [checkP, mayP, plain_one, plain_some, plain_none, someP] <;> (intros; first | omega | (simp_all; done) | (simp_all; refine Or.resolve_left (by assumption) (?_ : ¬ (c.qty < 1 ∨ 1000000 < c.qty)); omega))
                · skip
                  simp at h34
                  refine AWP.skip ?_
                  refine thenA_n ?_
                  refine AWP.seq ?_
                  refine AWP.region (fun _ => ?_)
                  refine ARun.move (.inr rfl) rfl rfl rfl (Ev.plain rfl) optN ?_
                  refine ⟨_, _, rfl, hG, ?_⟩
                  refine thenA_n ?_
                  refine AWP.ret ?_
                  refine endF.one (.inr rfl) rfl (.tmp rfl) ?_ hN
                  refine congrArg (AV.int .i64) (?_ : _ = checkP c)
                  simp_all [checkP, mayP, plain_one, plain_some, plain_none, someP] <;> (intros; first | omega | (simp_all; done) | (simp_all; refine Or.resolve_left (by assumption) (?_ : ¬ (c.qty < 1 ∨ 1000000 < c.qty)); omega))
              · skip
                simp at h33
                refine AWP.seq ?_
                refine AWP.region (fun _ => ?_)
                refine ARun.cmp rfl rfl rfl rfl (Ev.plain rfl) (Ev.plain rfl) rfl optN ?_
                refine ARun.move (.inr rfl) rfl rfl rfl (Ev.plain rfl) optN ?_
                refine ⟨_, _, rfl, hG, ?_⟩
                refine thenA_n ?_
                refine AWP.cond rfl (fun h35 => ?_) (fun h35 => ?_)
                · skip
                  simp at h35
                  refine AWP.region (fun _ => ?_)
                  refine ARun.move (.inl rfl) rfl rfl rfl (Ev.plain rfl) optN ?_
                  refine ARun.move (.inl rfl) rfl rfl rfl (Ev.plain rfl) optN ?_
                  refine ARun.fieldPe rfl rfl rfl rfl Tryd.underlying50 rfl rfl sz3 (by decide) (Ev.plain rfl) rfl optS ?_
                  refine ARun.loadPe rfl rfl rfl rfl Tryd.underlying3 rfl (Ev.opt rfl (fun h => h)) rfl optS ?_
                  refine ARun.cmp rfl rfl rfl rfl (Ev.opt rfl (fun h => h)) (Ev.plain rfl) rfl optS ?_
                  refine ARun.pick rfl rfl rfl rfl (Ev.plain rfl) (Ev.opt rfl (by first | exact pkT | exact pkT2 | simp +contextual)) (Ev.plain rfl) (andB _ _) optN ?_
                  refine ARun.move (.inl rfl) rfl rfl rfl (Ev.plain rfl) optN ?_
                  refine ARun.fieldPe rfl rfl rfl rfl Tryd.underlying50 rfl rfl sz3 (by decide) (Ev.plain rfl) rfl optS ?_
                  refine ARun.loadPe rfl rfl rfl rfl Tryd.underlying3 rfl (Ev.opt rfl (fun h => h)) rfl optS ?_
                  refine ARun.cmp rfl rfl rfl rfl (Ev.opt rfl (fun h => h)) (Ev.plain rfl) rfl optS ?_
                  refine ARun.pick rfl rfl rfl rfl (Ev.plain rfl) (Ev.opt rfl (by first | exact pkT | exact pkT2 | simp +contextual)) (Ev.plain rfl) (andB _ _) optN ?_
                  refine ARun.move (.inl rfl) rfl rfl rfl (Ev.plain rfl) optN ?_
                  refine ARun.fieldPe rfl rfl rfl rfl Tryd.underlying50 rfl rfl sz3 (by decide) (Ev.plain rfl) rfl optS ?_
                  refine ARun.loadPe rfl rfl rfl rfl Tryd.underlying3 rfl (Ev.opt rfl (fun h => h)) rfl optS ?_
                  refine ARun.cmp rfl rfl rfl rfl (Ev.opt rfl (fun h => h)) (Ev.plain rfl) rfl optS ?_
                  refine ARun.pick rfl rfl rfl rfl (Ev.plain rfl) (Ev.opt rfl (by first | exact pkT | exact pkT2 | simp +contextual)) (Ev.plain rfl) (andB _ _) optN ?_
                  refine ARun.move (.inl rfl) rfl rfl rfl (Ev.plain rfl) optN ?_
                  refine ARun.fieldPe rfl rfl rfl rfl Tryd.underlying50 rfl rfl sz48 (by decide) (Ev.plain rfl) rfl optS ?_
                  refine ARun.loadPe rfl rfl rfl rfl Tryd.underlying48 rfl (Ev.opt rfl (fun h => h)) rfl optS ?_
                  refine ARun.call rfl rfl rfl rfl cf65 (Ev.plain rfl) (.cons (Ev.opt rfl (fun h => h)) .nil) rfl (fun hg => linesR_fn c.lines hl) optS ?_
                  refine ARun.pick rfl rfl rfl rfl (Ev.plain rfl) (Ev.opt rfl (by first | exact pkT | exact pkT2 | simp +contextual)) (Ev.plain rfl) (andB _ _) optN ?_
                  refine ARun.move (.inr rfl) rfl rfl rfl (Ev.plain rfl) optN ?_
                  refine ⟨_, _, rfl, hG, ?_⟩
                  refine blockA_n ?_
                  refine thenA_n ?_
                  refine AWP.seq ?_
                  refine AWP.seq ?_
                  refine AWP.region (fun _ => ?_)
                  refine ARun.move (.inl rfl) rfl rfl rfl (Ev.plain rfl) optN ?_
                  refine ARun.not rfl rfl rfl rfl (Ev.plain rfl) optN ?_
                  refine ⟨_, _, rfl, hG, ?_⟩
                  refine thenA_n ?_
                  refine AWP.cond rfl (fun h36 => ?_) (fun h36 => ?_)
                  · skip
                    simp at h36
                    refine AWP.seq ?_
                    refine AWP.region (fun _ => ?_)
                    refine ARun.move (.inr rfl) rfl rfl rfl (Ev.plain rfl) optN ?_
                    refine ⟨_, _, rfl, hG, ?_⟩
                    refine thenA_n ?_
                    refine AWP.ret ?_
                    refine thenA_r ?_
                    refine endF.one (.inr rfl) rfl (.tmp rfl) ?_ hN
                    refine congrArg (AV.int .i64) (?_ : _ = checkP c)
                    simp_all [checkP, mayP, plain_one, plain_some, plain_none, someP] <;> (intros; first | omega | (simp_all; done) | (simp_all; refine Or.resolve_left (by assumption) (?_ : ¬ (c.qty < 1 ∨ 1000000 < c.qty)); omega))
                  · skip
                    simp at h36
                    refine AWP.skip ?_
                    refine thenA_n ?_
                    refine AWP.seq ?_
                    refine AWP.region (fun _ => ?_)
                    refine ARun.move (.inr rfl) rfl rfl rfl (Ev.plain rfl) optN ?_
                    refine ⟨_, _, rfl, hG, ?_⟩
                    refine thenA_n ?_
                    refine AWP.ret ?_
                    refine endF.one (.inr rfl) rfl (.tmp rfl) ?_ hN
                    refine congrArg (AV.int .i64) (?_ : _ = checkP c)
                    simp_all [checkP, mayP, plain_one, plain_some, plain_none, someP] <;> (intros; first | omega | (simp_all; done) | (simp_all; refine Or.resolve_left (by assumption) (?_ : ¬ (c.qty < 1 ∨ 1000000 < c.qty)); omega))
                · skip
                  simp at h35
                  refine AWP.seq ?_
                  refine AWP.region (fun _ => ?_)
                  refine ARun.move (.inr rfl) rfl rfl rfl (Ev.plain rfl) optN ?_
                  refine ⟨_, _, rfl, hG, ?_⟩
                  refine thenA_n ?_
                  refine AWP.ret ?_
                  refine blockA_r ?_
                  refine thenA_r ?_
                  refine endF.one (.inr rfl) rfl (.tmp rfl) ?_ hN
                  refine congrArg (AV.int .i64) (?_ : _ = checkP c)
                  simp_all [checkP, mayP, plain_one, plain_some, plain_none, someP] <;> (intros; first | omega | (simp_all; done) | (simp_all; refine Or.resolve_left (by assumption) (?_ : ¬ (c.qty < 1 ∨ 1000000 < c.qty)); omega))
set_option maxHeartbeats 1000000 in
theorem take_R (s : ByteArray) (hs : s.size ≤ 1000000) : FnP Tryd.prog 26 [.str s] (.tup [aCl (takeC s), .int .i64 (takeE s)]) := by
  have hrl := rdRow_len (sixR s 6) 10
  refine FnP.of Tryd.func26 rfl rfl (by simp) (by simp [AV.cells, aIn, aOut, aLn, aCl, aRp]) (fun G hG => ?_)
  have hN : NoH G.length (.tup [aCl (takeC s), .int .i64 (takeE s)]) := (by simp [AV.cells, aIn, aOut, aLn, aCl, aRp])
  refine AWP.seq ?_
  refine AWP.region (fun _ => ?_)
  refine ARun.alloc (j := 0) hG rfl rfl rfl rfl rfl zv50 rfl optN ?_
  refine ARun.move (.inr rfl) rfl rfl rfl (Ev.plain rfl) optN ?_
  refine ⟨_, _, rfl, hG, ?_⟩
  refine thenA_n ?_
  refine AWP.seq ?_
  refine AWP.region (fun _ => ?_)
  refine ARun.move (.inl rfl) rfl rfl rfl (Ev.plain rfl) optN ?_
  refine ARun.build rfl rfl rfl rfl so79 (.cons (Ev.plain rfl) .nil) rfl rfl optN ?_
  refine ARun.alloc (j := 1) hG rfl rfl rfl rfl rfl zv79 rfl optN ?_
  refine ARun.storeL hG rfl rfl rfl sz79 (Ev.plain rfl) (Ev.plain rfl) rfl rfl rfl rfl rfl (Nat.le_of_ble_eq_true rfl) rfl rfl ?_
  refine ⟨_, _, rfl, hG, ?_⟩
  refine thenA_n ?_
  refine AWP.seq ?_
  refine AWP.region (fun _ => ?_)
  refine ARun.alloc (j := 2) hG rfl rfl rfl rfl rfl zv80 rfl optN ?_
  refine ⟨_, _, rfl, hG, ?_⟩
  refine thenA_n ?_
  refine AWP.seq ?_
  refine AWP.seq ?_
  refine AWP.region (fun _ => ?_)
  refine ARun.move (.inr rfl) rfl rfl rfl (Ev.plain rfl) optN ?_
  refine ⟨_, _, rfl, hG, ?_⟩
  refine thenA_n ?_
  refine AWP.block ?_
  refine AWP.rounds (fun (k : Nat) => k ≤ 6) (fun (k : Nat) => [(2, .box (G.length + 0) 0), (4, .box (G.length + 1) 0), (5, .box (G.length + 2) 0), (6, .int .i64 (k : Int))]) (fun (k : Nat) => [.box [.int .i64 0, .int .i64 0, .int .i64 0, .int .i64 0, .int .i64 0, .int .i64 0, .sl []], .box [.str (sixR s k).s, .int .i64 (sixR s k).at_, .str (sixR s k).p, .int .i64 (sixR s k).e], .box (cells6 s k)]) (fun (k : Nat) => 6 - k) 3 (0 : Nat) (Nat.zero_le _) (by repeat (first | exact .nil | refine .cons rfl ?_)) rfl (fun _ => rfl) (fun _ => ⟨by simp [AV.cells], by simp [AO.conts, cells6]⟩) (fun k hI => ?_)
  refine AWP.seq ?_
  refine AWP.seq ?_
  refine AWP.region (fun _ => ?_)
  refine ARun.move (.inl rfl) rfl rfl rfl (Ev.plain rfl) optN ?_
  refine ARun.cmp rfl rfl rfl rfl (Ev.plain rfl) (Ev.plain rfl) rfl optN ?_
  refine ⟨_, _, rfl, hG, ?_⟩
  refine thenA_n ?_
  refine AWP.cond rfl (fun h0 => ?_) (fun h0 => ?_)
  · skip
    try simp [-List.getD_eq_getElem?_getD] at h0
    refine AWP.skip ?_
    refine thenA_n ?_
    refine AWP.seq ?_
    refine AWP.block ?_
    refine AWP.seq ?_
    refine AWP.region (fun _ => ?_)
    refine ARun.loadBoxA rfl rfl rfl rfl Tryd.underlying79 rfl sz79 (Ev.plain rfl) ((hG.at _ _).trans rfl) rfl rfl optN ?_
    refine ARun.call rfl rfl rfl rfl cf46 (Ev.plain rfl) (.cons (Ev.plain rfl) (.cons (Ev.plain rfl) .nil)) rfl (fun hg => num_R (sixR s k) 2000000 (sixR_ok hs k)) optN ?_
    refine ARun.move (.inl rfl) rfl rfl rfl (Ev.plain rfl) optN ?_
    refine ARun.extract rfl rfl rfl rfl (Ev.plain rfl) rfl optN ?_
    refine ARun.extract rfl rfl rfl rfl (Ev.plain rfl) rfl optN ?_
    refine ARun.alloc (j := 3) hG rfl rfl rfl rfl rfl zv79 rfl optN ?_
    refine ARun.storeL hG rfl rfl rfl sz79 (Ev.plain rfl) (Ev.plain rfl) rfl rfl rfl rfl rfl (Nat.le_of_ble_eq_true rfl) rfl rfl ?_
    refine ARun.move (.inr rfl) rfl rfl rfl (Ev.plain rfl) optN ?_
    refine ⟨_, _, rfl, hG, ?_⟩
    refine thenA_n ?_
    refine AWP.seq ?_
    refine AWP.region (fun _ => ?_)
    refine ARun.loadBoxA rfl rfl rfl rfl Tryd.underlying79 rfl sz79 (Ev.plain rfl) ((hG.at _ _).trans rfl) rfl rfl optN ?_
    refine ARun.storeL hG rfl rfl rfl sz79 (Ev.plain rfl) (Ev.plain rfl) rfl rfl rfl rfl rfl (Nat.le_of_ble_eq_true rfl) rfl rfl ?_
    refine ⟨_, _, rfl, hG, ?_⟩
    refine thenA_n ?_
    refine AWP.region (fun _ => ?_)
    refine ARun.move (.inl rfl) rfl rfl rfl (Ev.plain rfl) optN ?_
    refine ARun.move (.inl rfl) rfl rfl rfl (Ev.plain rfl) optN ?_
    refine ARun.indexBox (fo := 0 + k * 1) rfl rfl rfl rfl Tryd.underlying80 sz3 (Ev.plain rfl) ((hG.at _ _).trans rfl) (Ev.plain rfl) (j := k) (fun hg => by first | rfl | omega) (fun hg => by first | decide | omega) rfl optN ?_
    refine ARun.storeL1 hG rfl rfl rfl sz3 (Ev.plain rfl) (Ev.plain rfl) rfl (by first | rfl | exact aEr_one _ | exact aFl_one _) (by simp [cells6]; omega) (cells6_set s k (by omega)) rfl ?_ (hsp := (by first | rfl | exact plain_take rfl | exact plain_take (by simp [AV.plainC]) | exact plain_take (by simp [cells6, AV.plainC])))
    refine ⟨_, _, rfl, hG, ?_⟩
    refine blockA_n ?_
    refine thenA_n ?_
    refine AWP.region (fun _ => ?_)
    refine ARun.move (.inl rfl) rfl rfl rfl (Ev.plain rfl) optN ?_
    first | refine ARun.arith rfl rfl rfl rfl (Ev.plain rfl) (Ev.plain rfl) rfl (fun hg => i64w (by (try simp at hg); omega)) optN ?_ | refine ARun.arith rfl rfl rfl rfl (Ev.plain rfl) (Ev.plain rfl) rfl (fun _ => rfl) optN ?_
    refine ARun.move (.inr rfl) rfl rfl rfl (Ev.plain rfl) optN ?_
    refine ⟨_, _, rfl, hG, ?_⟩
    refine thenA_n ⟨rfl, k + 1, _, ?_, ?_, rfl, ?_⟩
    · omega
    · repeat (first | exact .nil | refine .cons rfl ?_)
    · omega
  · skip
    simp at h0
    obtain rfl : k = 6 := by omega
    rw [show cells6 s 6 = [AV.int .i64 (sixN s 0), AV.int .i64 (sixN s 1), AV.int .i64 (sixN s 2), AV.int .i64 (sixN s 3), AV.int .i64 (sixN s 4), AV.int .i64 (sixN s 5)] from rfl]
    refine AWP.exit ?_
    refine thenA_x ?_
    refine thenA_x ?_
    refine blockA_h ?_
    refine thenA_n ?_
    refine AWP.seq ?_
    refine AWP.region (fun _ => ?_)
    refine ARun.loadBoxA rfl rfl rfl rfl Tryd.underlying79 rfl sz79 (Ev.plain rfl) ((hG.at _ _).trans rfl) rfl rfl optN ?_
    refine ARun.call rfl rfl rfl rfl cf47 (Ev.plain rfl) (.cons (Ev.plain rfl) (.cons (Ev.plain rfl) .nil)) rfl (fun hg => row_R (sixR s 6) 10 (sixR_ok hs 6)) optN ?_
    refine ARun.move (.inl rfl) rfl rfl rfl (Ev.plain rfl) optN ?_
    refine ARun.extract rfl rfl rfl rfl (Ev.plain rfl) rfl optN ?_
    refine ARun.extract rfl rfl rfl rfl (Ev.plain rfl) rfl optN ?_
    refine ARun.storeL hG rfl rfl rfl sz79 (Ev.plain rfl) (Ev.plain rfl) rfl rfl rfl rfl rfl (Nat.le_of_ble_eq_true rfl) rfl rfl ?_
    refine ARun.move (.inr rfl) rfl rfl rfl (Ev.plain rfl) optN ?_
    refine ⟨_, _, rfl, hG, ?_⟩
    refine thenA_n ?_
    refine AWP.seq ?_
    refine AWP.region (fun _ => ?_)
    refine ARun.loadBoxA rfl rfl rfl rfl Tryd.underlying79 rfl sz79 (Ev.plain rfl) ((hG.at _ _).trans rfl) rfl rfl optN ?_
    refine ARun.call rfl rfl rfl rfl cf48 (Ev.plain rfl) (.cons (Ev.plain rfl) .nil) rfl (fun hg => end_R (rdRow (sixR s 6) 10).1) optN ?_
    refine ARun.storeL hG rfl rfl rfl sz79 (Ev.plain rfl) (Ev.plain rfl) rfl rfl rfl rfl rfl (Nat.le_of_ble_eq_true rfl) rfl rfl ?_
    refine ⟨_, _, rfl, hG, ?_⟩
    refine thenA_n ?_
    refine AWP.seq ?_
    refine AWP.seq ?_
    refine AWP.region (fun _ => ?_)
    refine ARun.fieldBox (fo := 3) rfl rfl rfl rfl Tryd.underlying79 rfl rfl sz3 (by decide) (Ev.plain rfl) ((hG.at _ _).trans rfl) optN ?_
    refine ARun.loadBox rfl rfl rfl rfl Tryd.underlying3 rfl (Ev.plain rfl) ((hG.at _ _).trans rfl) rfl optN ?_
    refine ARun.cmp rfl rfl rfl rfl (Ev.plain rfl) (Ev.plain rfl) rfl optN ?_
    refine ⟨_, _, rfl, hG, ?_⟩
    refine thenA_n ?_
    refine AWP.cond rfl (fun h1 => ?_) (fun h1 => ?_)
    · skip
      have he : (rdCall s).1.e ≠ 0 := by
        have hq := h1
        simp at hq
        exact hq
      refine AWP.seq ?_
      refine AWP.frzBox 4 hG rfl rfl rfl ?_
      refine AWP.draw mixed (by kernel_rfl) (fun _ => ?_)
      refine ARun.build rfl rfl rfl rfl so50 .nil rfl rfl optN ?_
      refine ARun.fieldPe rfl rfl rfl rfl Tryd.underlying79 rfl rfl sz3 (by decide) (Ev.plain rfl) rfl optN ?_
      refine ARun.loadPe rfl rfl rfl rfl Tryd.underlying3 rfl (Ev.plain rfl) rfl optN ?_
      refine ARun.storeL hG rfl rfl rfl sz50 (Ev.plain rfl) (Ev.plain rfl) rfl rfl rfl rfl rfl (Nat.le_of_ble_eq_true rfl) rfl rfl ?_
      refine ARun.move (.inr rfl) rfl rfl rfl (Ev.plain rfl) optN ?_
      refine ⟨by kernel_rfl, _, _, rfl, hG, ?_⟩
      refine thenA_n ?_
      refine AWP.ret ?_
      refine thenA_r ?_
      refine endF.many (.inr rfl) (rs := [.cell 2 50, .tmp 3]) rfl (.cons (.cellA rfl ((hG.at _ _).trans rfl) Tryd.underlying50 rfl sz50 rfl rfl) (.cons (.tmp rfl) .nil)) (by simp) ?_ hN
      have ht : takeE s = (rdCall s).1.e := by rw [takeE, if_pos he]
      rw [takeC, if_neg (by rw [ht]; exact he), ht]; rfl
    · skip
      have he : (rdCall s).1.e = 0 := by
        have hq := h1
        simp at hq
        exact hq
      refine AWP.skip ?_
      refine thenA_n ?_
      refine AWP.seq ?_
      refine AWP.seq ?_
      refine AWP.region (fun _ => ?_)
      refine ARun.move (.inl rfl) rfl rfl rfl (Ev.plain rfl) optN ?_
      refine ARun.lenSl rfl rfl rfl rfl Tryd.underlying66 (Ev.plain rfl) optN ?_
      refine ARun.remI rfl rfl rfl rfl (Ev.plain rfl) (Ev.plain rfl) (fun _ => by decide) optN ?_
      refine ARun.cmp rfl rfl rfl rfl (Ev.plain rfl) (Ev.plain rfl) rfl optN ?_
      refine ⟨_, _, rfl, hG, ?_⟩
      refine thenA_n ?_
      refine AWP.cond rfl (fun h2 => ?_) (fun h2 => ?_)
      · skip
        simp at h2
        have h1p : (((rdRow (sixR s 6) 10).2.length % 2 : Nat) : Int) = 1 := h2
        refine AWP.seq ?_
        refine AWP.region (fun _ => ?_)
        refine ARun.build rfl rfl rfl rfl so50 .nil rfl rfl optN ?_
        refine ARun.storeL hG rfl rfl rfl sz50 (Ev.plain rfl) (Ev.plain rfl) rfl rfl rfl rfl rfl (Nat.le_of_ble_eq_true rfl) rfl rfl ?_
        refine ARun.move (.inr rfl) rfl rfl rfl (Ev.plain rfl) optN ?_
        refine ⟨_, _, rfl, hG, ?_⟩
        refine thenA_n ?_
        refine AWP.ret ?_
        refine thenA_r ?_
        refine endF.many (.inr rfl) (rs := [.cell 2 50, .tmp 3]) rfl (.cons (.cellA rfl ((hG.at _ _).trans rfl) Tryd.underlying50 rfl sz50 rfl rfl) (.cons (.tmp rfl) .nil)) (by simp) ?_ hN
        have h1q : (rdCall s).2.2.length % 2 = 1 := by show (rdRow (sixR s 6) 10).2.length % 2 = 1; omega
        have ht : takeE s = 5 := by rw [takeE, if_neg (by omega), if_pos h1q]
        rw [takeC, if_neg (by rw [ht]; decide), ht]; rfl
      · skip
        simp at h2
        have h1p : ¬ (((rdRow (sixR s 6) 10).2.length % 2 : Nat) : Int) = 1 := h2
        refine AWP.skip ?_
        refine thenA_n ?_
        refine AWP.seq ?_
        refine AWP.region (fun _ => ?_)
        refine ARun.indexBox (fo := 0) rfl rfl rfl rfl Tryd.underlying80 sz3 (Ev.plain rfl) ((hG.at _ _).trans rfl) (Ev.plain rfl) (j := 0) (fun hg => by first | rfl | omega) (fun hg => by first | decide | omega) rfl optN ?_
        refine ARun.loadBox rfl rfl rfl rfl Tryd.underlying3 rfl (Ev.plain rfl) ((hG.at _ _).trans rfl) rfl optN ?_
        refine ARun.indexBox (fo := 1) rfl rfl rfl rfl Tryd.underlying80 sz3 (Ev.plain rfl) ((hG.at _ _).trans rfl) (Ev.plain rfl) (j := 1) (fun hg => by first | rfl | omega) (fun hg => by first | decide | omega) rfl optN ?_
        refine ARun.loadBox rfl rfl rfl rfl Tryd.underlying3 rfl (Ev.plain rfl) ((hG.at _ _).trans rfl) rfl optN ?_
        refine ARun.indexBox (fo := 2) rfl rfl rfl rfl Tryd.underlying80 sz3 (Ev.plain rfl) ((hG.at _ _).trans rfl) (Ev.plain rfl) (j := 2) (fun hg => by first | rfl | omega) (fun hg => by first | decide | omega) rfl optN ?_
        refine ARun.loadBox rfl rfl rfl rfl Tryd.underlying3 rfl (Ev.plain rfl) ((hG.at _ _).trans rfl) rfl optN ?_
        refine ARun.indexBox (fo := 3) rfl rfl rfl rfl Tryd.underlying80 sz3 (Ev.plain rfl) ((hG.at _ _).trans rfl) (Ev.plain rfl) (j := 3) (fun hg => by first | rfl | omega) (fun hg => by first | decide | omega) rfl optN ?_
        refine ARun.loadBox rfl rfl rfl rfl Tryd.underlying3 rfl (Ev.plain rfl) ((hG.at _ _).trans rfl) rfl optN ?_
        refine ARun.indexBox (fo := 4) rfl rfl rfl rfl Tryd.underlying80 sz3 (Ev.plain rfl) ((hG.at _ _).trans rfl) (Ev.plain rfl) (j := 4) (fun hg => by first | rfl | omega) (fun hg => by first | decide | omega) rfl optN ?_
        refine ARun.loadBox rfl rfl rfl rfl Tryd.underlying3 rfl (Ev.plain rfl) ((hG.at _ _).trans rfl) rfl optN ?_
        refine ARun.indexBox (fo := 5) rfl rfl rfl rfl Tryd.underlying80 sz3 (Ev.plain rfl) ((hG.at _ _).trans rfl) (Ev.plain rfl) (j := 5) (fun hg => by first | rfl | omega) (fun hg => by first | decide | omega) rfl optN ?_
        refine ARun.loadBox rfl rfl rfl rfl Tryd.underlying3 rfl (Ev.plain rfl) ((hG.at _ _).trans rfl) rfl optN ?_
        refine ARun.buildNil (e := 72) (z := 2) (j := 3) (p := 6) hG rfl rfl rfl rfl rfl so50 rfl (.cons (Ev.plain rfl) (.cons (Ev.plain rfl) (.cons (Ev.plain rfl) (.cons (Ev.plain rfl) (.cons (Ev.plain rfl) (.cons (Ev.plain rfl) .nil)))))) rfl rfl optN ?_
        refine ARun.alloc (j := 4) hG rfl rfl rfl rfl rfl zv50 rfl optN ?_
        refine ARun.storeL hG rfl rfl rfl sz50 (Ev.plain rfl) (Ev.plain rfl) rfl rfl rfl rfl rfl (Nat.le_of_ble_eq_true rfl) rfl rfl ?_
        refine ⟨_, _, rfl, hG, ?_⟩
        refine thenA_n ?_
        refine AWP.seq ?_
        refine AWP.seq ?_
        refine AWP.region (fun _ => ?_)
        refine ARun.move (.inr rfl) rfl rfl rfl (Ev.plain rfl) optN ?_
        refine ⟨_, _, rfl, hG, ?_⟩
        refine thenA_n ?_
        refine AWP.block ?_
        refine AWP.rounds (fun st => 2 * st.1 ≤ (rdRow (sixR s 6) 10).2.length) (fun st => [(2, .box (G.length + 0) 0), (10, .box (G.length + 4) 0), (9, .sl ((rdRow (sixR s 6) 10).2.map (AV.int .i64))), (11, .int .i64 ((2 * st.1 : Nat) : Int))]) (fun st => [.box [.int .i64 0, .int .i64 0, .int .i64 0, .int .i64 0, .int .i64 0, .int .i64 0, .sl []], .box [.str (rdCall s).1.s, .int .i64 (rdCall s).1.at_, .str (rdCall s).1.p, .int .i64 (rdCall s).1.e], .box [.int .i64 (sixN s 0), .int .i64 (sixN s 1), .int .i64 (sixN s 2), .int .i64 (sixN s 3), .int .i64 (sixN s 4), .int .i64 (sixN s 5)], .row st.2 72 2 ((pairsL ((rdRow (sixR s 6) 10).2.take (2 * st.1))).map aLn), .box [.int .i64 (sixN s 0), .int .i64 (sixN s 1), .int .i64 (sixN s 2), .int .i64 (sixN s 3), .int .i64 (sixN s 4), .int .i64 (sixN s 5), .own (G.length + 3) st.2]]) (fun st => (rdRow (sixR s 6) 10).2.length - 2 * st.1) 5 ((0, 0) : Nat × Nat) (Nat.zero_le _) (by repeat (first | exact .nil | refine .cons rfl ?_)) rfl (fun _ => rfl) (fun _ => ⟨by simp [AV.cells], by simp [AO.conts, aLn, AV.cells]; rintro y a _ (rfl | rfl) <;> simp⟩) (fun st hI => ?_)
        obtain ⟨k, g⟩ := st
        dsimp only at hI
        show AWP _ _ _ _ _ [(2, .box (G.length + 0) 0), (10, .box (G.length + 4) 0), (9, .sl ((rdRow (sixR s 6) 10).2.map (AV.int .i64))), (11, .int .i64 ((2 * k : Nat) : Int))] _ [.box [.int .i64 0, .int .i64 0, .int .i64 0, .int .i64 0, .int .i64 0, .int .i64 0, .sl []], .box [.str (rdCall s).1.s, .int .i64 (rdCall s).1.at_, .str (rdCall s).1.p, .int .i64 (rdCall s).1.e], .box [.int .i64 (sixN s 0), .int .i64 (sixN s 1), .int .i64 (sixN s 2), .int .i64 (sixN s 3), .int .i64 (sixN s 4), .int .i64 (sixN s 5)], .row g 72 2 ((pairsL ((rdRow (sixR s 6) 10).2.take (2 * k))).map aLn), .box [.int .i64 (sixN s 0), .int .i64 (sixN s 1), .int .i64 (sixN s 2), .int .i64 (sixN s 3), .int .i64 (sixN s 4), .int .i64 (sixN s 5), .own (G.length + 3) g]]
        refine AWP.seq ?_
        refine AWP.seq ?_
        refine AWP.region (fun _ => ?_)
        refine ARun.move (.inl rfl) rfl rfl rfl (Ev.plain rfl) optN ?_
        first | refine ARun.arith rfl rfl rfl rfl (Ev.plain rfl) (Ev.plain rfl) rfl (fun hg => i64w (by (try simp at hg); omega)) optN ?_ | refine ARun.arith rfl rfl rfl rfl (Ev.plain rfl) (Ev.plain rfl) rfl (fun _ => rfl) optN ?_
        refine ARun.move (.inl rfl) rfl rfl rfl (Ev.plain rfl) optN ?_
        refine ARun.lenSl rfl rfl rfl rfl Tryd.underlying66 (Ev.plain rfl) optN ?_
        refine ARun.cmp rfl rfl rfl rfl (Ev.plain rfl) (Ev.plain rfl) rfl optN ?_
        refine ⟨_, _, rfl, hG, ?_⟩
        refine thenA_n ?_
        refine AWP.cond rfl (fun h3 => ?_) (fun h3 => ?_)
        · skip
          try simp [-List.getD_eq_getElem?_getD] at h3
          refine AWP.skip ?_
          refine thenA_n ?_
          refine AWP.seq ?_
          refine AWP.block ?_
          refine AWP.draw mixed (by kernel_rfl) (fun _ => ?_)
          refine ARun.fieldBox (fo := 6) rfl rfl rfl rfl Tryd.underlying50 rfl rfl sz48 (by decide) (Ev.plain rfl) ((hG.at _ _).trans rfl) optN ?_
          refine ARun.loadBox rfl rfl rfl rfl Tryd.underlying48 rfl (Ev.plain rfl) ((hG.at _ _).trans rfl) rfl optN ?_
          refine ARun.move (.inl rfl) rfl rfl rfl (Ev.plain rfl) optN ?_
          refine ARun.move (.inl rfl) rfl rfl rfl (Ev.plain rfl) optN ?_
          first | refine ARun.indexSl rfl rfl rfl rfl Tryd.underlying66 sz3 (Ev.plain rfl) (Ev.plain rfl) (fun _ => rfl) (fun hg => getMap _ _ _ (by (try simp at hg); omega)) rfl rfl optN ?_ | refine ARun.indexSl rfl rfl rfl rfl Tryd.underlying66 sz3 (Ev.plain rfl) (Ev.plain rfl) (fun hg => ofNonneg (by (try simp at hg); omega)) (fun hg => getMap _ _ _ (by (try simp at hg); omega)) rfl rfl optN ?_
          refine ARun.loadPe rfl rfl rfl rfl Tryd.underlying3 rfl (Ev.plain rfl) rfl optN ?_
          refine ARun.move (.inl rfl) rfl rfl rfl (Ev.plain rfl) optN ?_
          refine ARun.move (.inl rfl) rfl rfl rfl (Ev.plain rfl) optN ?_
          first | refine ARun.arith rfl rfl rfl rfl (Ev.plain rfl) (Ev.plain rfl) rfl (fun hg => i64w (by (try simp at hg); omega)) optN ?_ | refine ARun.arith rfl rfl rfl rfl (Ev.plain rfl) (Ev.plain rfl) rfl (fun _ => rfl) optN ?_
          first | refine ARun.indexSl rfl rfl rfl rfl Tryd.underlying66 sz3 (Ev.plain rfl) (Ev.plain rfl) (fun _ => rfl) (fun hg => getMap _ _ _ (by (try simp at hg); omega)) rfl rfl optN ?_ | refine ARun.indexSl rfl rfl rfl rfl Tryd.underlying66 sz3 (Ev.plain rfl) (Ev.plain rfl) (fun hg => ofNonneg (by (try simp at hg); omega)) (fun hg => getMap _ _ _ (by (try simp at hg); omega)) rfl rfl optN ?_
          refine ARun.loadPe rfl rfl rfl rfl Tryd.underlying3 rfl (Ev.plain rfl) rfl optN ?_
          refine ARun.build rfl rfl rfl rfl so72 (.cons (Ev.plain rfl) (.cons (Ev.plain rfl) .nil)) rfl rfl optN ?_
          refine ARun.buildSl rfl rfl rfl rfl Tryd.underlying48 sz72 zv72 rfl (by decide) (.cons (Ev.plain rfl) .nil) rfl rfl rfl rfl (by decide) rfl rfl optN ?_
          refine ARun.appendL hG rfl rfl rfl rfl Tryd.underlying48 ti72 rfl (by decide) (Ev.plain rfl) (Ev.plain rfl) rfl rfl (by have := pairsL_len (((rdRow (sixR s 6) 10).2).take (2 * k)); simp only [List.length_take] at this; simp [maxLen]; omega) (by have := pairsL_len (((rdRow (sixR s 6) 10).2).take (2 * k)); simp only [List.length_take] at this; simp; omega) (pair_snoc (rdRow (sixR s 6) 10).2 k (by omega)) optN rfl ?_
          refine ARun.fieldBox (fo := 6) rfl rfl rfl rfl Tryd.underlying50 rfl rfl sz48 (by decide) (Ev.plain rfl) ((hG.at _ _).trans rfl) optN ?_
          refine ARun.storeL1 hG rfl rfl rfl sz48 (Ev.plain rfl) (Ev.plain rfl) rfl (by first | rfl | exact aEr_one _ | exact aFl_one _) (Nat.le_of_ble_eq_true rfl) rfl rfl ?_ (hsp := (by first | rfl | exact plain_take rfl | exact plain_take (by simp [AV.plainC]) | exact plain_take (by simp [cells6, AV.plainC])))
          refine ⟨by kernel_rfl, _, _, rfl, hG, ?_⟩
          refine blockA_n ?_
          refine thenA_n ?_
          refine AWP.region (fun _ => ?_)
          refine ARun.move (.inl rfl) rfl rfl rfl (Ev.plain rfl) optN ?_
          first | refine ARun.arith rfl rfl rfl rfl (Ev.plain rfl) (Ev.plain rfl) rfl (fun hg => i64w (by (try simp at hg); omega)) optN ?_ | refine ARun.arith rfl rfl rfl rfl (Ev.plain rfl) (Ev.plain rfl) rfl (fun _ => rfl) optN ?_
          refine ARun.move (.inr rfl) rfl rfl rfl (Ev.plain rfl) optN ?_
          refine ⟨_, _, rfl, hG, ?_⟩
          refine thenA_n ⟨rfl, (k + 1, g + 1), _, ?_, ?_, rfl, ?_⟩
          · dsimp only; omega
          · repeat (first | exact .nil | refine .cons rfl ?_)
          · dsimp only; omega
        · skip
          simp at h3
          have hk2 : 2 * k = (rdRow (sixR s 6) 10).2.length := by omega
          rw [hk2, List.take_length]
          refine AWP.exit ?_
          refine thenA_x ?_
          refine thenA_x ?_
          refine blockA_h ?_
          refine thenA_n ?_
          refine AWP.seq ?_
          refine AWP.frzIn (j := 3) (q := 4) (p := 6) hG rfl (by have := pairsL_len (rdRow (sixR s 6) 10).2; simp [maxLen]; omega) rfl rfl rfl ?_
          refine AWP.region (fun _ => ?_)
          refine ARun.loadBoxA rfl rfl rfl rfl Tryd.underlying50 rfl sz50 (Ev.plain rfl) ((hG.at _ _).trans rfl) rfl rfl optN ?_
          refine ARun.call rfl rfl rfl rfl cf49 (Ev.plain rfl) (.cons (Ev.plain rfl) .nil) rfl (fun hg => checkR_fn (mkCall (sixL s) (rdRow (sixR s 6) 10).2) (by have := pairsL_len (rdRow (sixR s 6) 10).2; show (pairsL (rdRow (sixR s 6) 10).2).length ≤ _; omega)) optN ?_
          refine ARun.move (.inr rfl) rfl rfl rfl (Ev.plain rfl) optN ?_
          refine ⟨_, _, rfl, hG, ?_⟩
          refine thenA_n ?_
          refine AWP.seq ?_
          refine AWP.seq ?_
          refine AWP.region (fun _ => ?_)
          refine ARun.move (.inl rfl) rfl rfl rfl (Ev.plain rfl) optN ?_
          refine ARun.cmp rfl rfl rfl rfl (Ev.plain rfl) (Ev.plain rfl) rfl optN ?_
          refine ⟨_, _, rfl, hG, ?_⟩
          refine thenA_n ?_
          refine AWP.cond rfl (fun h4 => ?_) (fun h4 => ?_)
          · skip
            simp at h4
            refine AWP.seq ?_
            refine AWP.region (fun _ => ?_)
            refine ARun.build rfl rfl rfl rfl so50 .nil rfl rfl optN ?_
            refine ARun.move (.inl rfl) rfl rfl rfl (Ev.plain rfl) optN ?_
            refine ARun.storeL hG rfl rfl rfl sz50 (Ev.plain rfl) (Ev.plain rfl) rfl rfl rfl rfl rfl (Nat.le_of_ble_eq_true rfl) rfl rfl ?_
            refine ARun.move (.inr rfl) rfl rfl rfl (Ev.plain rfl) optN ?_
            refine ⟨_, _, rfl, hG, ?_⟩
            refine thenA_n ?_
            refine AWP.ret ?_
            refine thenA_r ?_
            refine endF.many (.inr rfl) (rs := [.cell 2 50, .tmp 3]) rfl (.cons (.cellA rfl ((hG.at _ _).trans rfl) Tryd.underlying50 rfl sz50 rfl rfl) (.cons (.tmp rfl) .nil)) (by simp) ?_ hN
            have h1q : ¬ (rdCall s).2.2.length % 2 = 1 := by show ¬ (rdRow (sixR s 6) 10).2.length % 2 = 1; omega
            have ht : takeE s = checkP (mkCall (sixL s) (rdRow (sixR s 6) 10).2) := by rw [takeE, if_neg (by omega), if_neg h1q]; rfl
            rw [takeC, if_neg (by rw [ht]; exact h4), ht]; rfl
          · skip
            simp at h4
            refine AWP.skip ?_
            refine thenA_n ?_
            refine AWP.seq ?_
            refine AWP.region (fun _ => ?_)
            refine ARun.loadBoxA rfl rfl rfl rfl Tryd.underlying50 rfl sz50 (Ev.plain rfl) ((hG.at _ _).trans rfl) rfl rfl optN ?_
            refine ARun.storeL hG rfl rfl rfl sz50 (Ev.plain rfl) (Ev.plain rfl) rfl rfl rfl rfl rfl (Nat.le_of_ble_eq_true rfl) rfl rfl ?_
            refine ARun.move (.inr rfl) rfl rfl rfl (Ev.plain rfl) optN ?_
            refine ⟨_, _, rfl, hG, ?_⟩
            refine thenA_n ?_
            refine AWP.ret ?_
            refine endF.many (.inr rfl) (rs := [.cell 2 50, .tmp 3]) rfl (.cons (.cellA rfl ((hG.at _ _).trans rfl) Tryd.underlying50 rfl sz50 rfl rfl) (.cons (.tmp rfl) .nil)) (by simp) ?_ hN
            have h1q : ¬ (rdCall s).2.2.length % 2 = 1 := by show ¬ (rdRow (sixR s 6) 10).2.length % 2 = 1; omega
            have ht : takeE s = 0 := by rw [takeE, if_neg (by omega), if_neg h1q]; exact h4
            rw [takeC, if_pos ht, ht]; rfl
end Go.Proofs.YthogpkmidffdeaaDoor
