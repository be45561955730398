/- The laws of text, by the abstract machine. -/
import Derived.Test.YtimkioaaljdnoaaDoorAmTextR
import Derived.Test.YtimkioaaljdnoaaDoorTextLaw
namespace Go.Proofs.YtimkioaaljdnoaaDoor
set_option linter.unusedVariables false
set_option linter.unusedSimpArgs false
open Go.RowKit
open NumP
set_option maxRecDepth 100000
def aPc (p : Pc) : AV := .agg [.int .i64 p.kind, .int .i64 p.n, .str p.s, .sl (p.l.map (AV.int .i64))]
def goodPc (p : Pc) : Prop := (-9223372036854775808 ≤ p.n ∧ p.n ≤ 9223372036854775807) ∧ ∀ x, x ∈ p.l → -9223372036854775808 ≤ x ∧ x ≤ 9223372036854775807
theorem good_at {l : List Pc} (hgd : ∀ x, x ∈ l → goodPc x) {k : Nat} (hk : k < l.length) : goodPc (l.getD k default) := by
  simp only [List.getD, List.getElem?_eq_getElem hk, Option.getD_some]; exact hgd _ (List.getElem_mem hk)
theorem code_errOf (op p : ByteArray) (e : Int) : (errOf op p e).code = e := by
  unfold errOf
  split
  · rename_i h; rw [h]; rfl
  · rename_i h
    rw [code_of rfl]
    show (match (some e : Option Int) with | some c => if c = 0 then 2 else c | Option.none => 2) = e
    simp [h]
theorem depth_errOf (op p : ByteArray) (e : Int) : (errOf op p e).depth ≤ 100000 := by
  unfold errOf
  split
  · exact Nat.zero_le _
  · show 0 + 1 + 1 ≤ 100000; omega
theorem at_errOf (op p : ByteArray) (e : Int) : (decide (e = 0) || (errOf op p e).ops.any fun x => decide (p = x)) = true := by
  unfold errOf
  split
  · rename_i h; simp [h]
  · simp [Er.ops]
theorem pair2 {a a' b b' : AV} (h : a = a') (k : b = b') : [a, b] = [a', b'] := by rw [h, k]
theorem at_mem (op p : ByteArray) (e : Int) : e = 0 ∨ p ∈ (errOf op p e).ops := by
  unfold errOf
  split
  · exact .inl ‹_›
  · exact .inr (by simp [Er.ops])
theorem fits_errOf (op p : ByteArray) (e : Int) (h : e ≤ 9223372036854775807) : (errOf op p e).fits := by
  unfold errOf
  split
  · trivial
  · exact h
theorem fit_one {n : Int} (h : -9223372036854775808 ≤ n ∧ n ≤ 9223372036854775807) : ∀ x, x ∈ [n] → -9223372036854775808 ≤ x ∧ x ≤ 9223372036854775807 := by
  intro x hx; simp at hx; subst hx; exact h
set_option maxHeartbeats 1000000 in
theorem few_fn (l : List Pc) : FnP Tryd.prog 7 [.sl (l.map aPc)] (.bool (fewP l)) := by
  refine FnP.of Tryd.func7 rfl rfl (by simp) (by simp [AV.cells, aIn, aOut]) (fun G hG => ?_)
  have hN : NoH G.length (.bool (fewP l)) := (by simp [AV.cells, aIn, aOut])
  refine AWP.seq ?_
  refine AWP.region (fun _ => ?_)
  refine ARun.move (.inr rfl) rfl rfl rfl (Ev.plain rfl) optN ?_
  refine ⟨_, _, rfl, hG, ?_⟩
  refine thenA_n ?_
  refine AWP.seq ?_
  refine AWP.seq ?_
  refine AWP.region (fun _ => ?_)
  refine ARun.move (.inl rfl) rfl rfl rfl (Ev.plain rfl) optN ?_
  refine ARun.lenSl rfl rfl rfl rfl Tryd.underlying22 (Ev.plain rfl) optN ?_
  refine ARun.cmp rfl rfl rfl rfl (Ev.plain rfl) (Ev.plain rfl) rfl optN ?_
  refine ⟨_, _, rfl, hG, ?_⟩
  refine thenA_n ?_
  refine AWP.cond rfl (fun h0 => ?_) (fun h0 => ?_)
  · skip
    try simp [-List.getD_eq_getElem?_getD] at h0
    refine AWP.seq ?_
    refine AWP.region (fun _ => ?_)
    refine ARun.move (.inr rfl) rfl rfl rfl (Ev.plain rfl) optN ?_
    refine ⟨_, _, rfl, hG, ?_⟩
    refine thenA_n ?_
    refine AWP.ret ?_
    refine thenA_r ?_
    refine endF.one (.inr rfl) rfl (.tmp rfl) ?_ hN
    rw [show fewP l = false from by unfold fewP; rw [decide_eq_false (by omega)]; rfl]; rfl
  · skip
    try simp [-List.getD_eq_getElem?_getD] at h0
    refine AWP.skip ?_
    refine thenA_n ?_
    refine AWP.seq ?_
    refine AWP.seq ?_
    refine AWP.region (fun _ => ?_)
    refine ARun.move (.inr rfl) rfl rfl rfl (Ev.plain rfl) optN ?_
    refine ⟨_, _, rfl, hG, ?_⟩
    refine thenA_n ?_
    refine AWP.block ?_
    refine AWP.rounds (fun k => k ≤ l.length ∧ ∀ j, j < k → (l.getD j default).s.size ≤ 500 ∧ (l.getD j default).l.length ≤ 100) (fun k => [(0, .sl (l.map aPc)), (3, .int .i64 (k : Int))]) (fun k => []) (fun k => l.length - k) 0 0 ⟨by omega, fun j h => by omega⟩ (by repeat (first | exact .nil | refine .cons rfl ?_)) rfl (fun _ => rfl) (fun _ => ⟨by simp [AV.cells, aPc], by simp⟩) (fun k hI => ?_)
    obtain ⟨hk, hno⟩ := hI
    refine AWP.seq ?_
    refine AWP.seq ?_
    refine AWP.region (fun _ => ?_)
    refine ARun.move (.inl rfl) rfl rfl rfl (Ev.plain rfl) optN ?_
    refine ARun.move (.inl rfl) rfl rfl rfl (Ev.plain rfl) optN ?_
    refine ARun.lenSl rfl rfl rfl rfl Tryd.underlying22 (Ev.plain rfl) optN ?_
    refine ARun.cmp rfl rfl rfl rfl (Ev.plain rfl) (Ev.plain rfl) rfl optN ?_
    refine ⟨_, _, rfl, hG, ?_⟩
    refine thenA_n ?_
    refine AWP.cond rfl (fun h1 => ?_) (fun h1 => ?_)
    · skip
      try simp [-List.getD_eq_getElem?_getD] at h1
      refine AWP.skip ?_
      refine thenA_n ?_
      refine AWP.seq ?_
      refine AWP.block ?_
      refine AWP.seq ?_
      refine AWP.region (fun _ => ?_)
      refine ARun.move (.inl rfl) rfl rfl rfl (Ev.plain rfl) optN ?_
      refine ARun.move (.inl rfl) rfl rfl rfl (Ev.plain rfl) optN ?_
      first | refine ARun.indexSl rfl rfl rfl rfl Tryd.underlying22 sz35 (Ev.plain rfl) (Ev.plain rfl) (fun _ => rfl) (fun hg => getMap _ _ _ (by (try simp at hg); omega)) rfl rfl optN ?_ | refine ARun.indexSl rfl rfl rfl rfl Tryd.underlying22 sz35 (Ev.plain rfl) (Ev.plain rfl) (fun hg => ofNonneg (by (try simp at hg); omega)) (fun hg => getMap _ _ _ (by (try simp at hg); omega)) rfl rfl optN ?_
      refine ARun.fieldPe rfl rfl rfl rfl Tryd.underlying35 rfl rfl sz9 (by decide) (Ev.plain rfl) rfl optN ?_
      refine ARun.loadPe rfl rfl rfl rfl Tryd.underlying9 rfl (Ev.plain rfl) rfl optN ?_
      refine ARun.lenStr rfl rfl rfl rfl Tryd.underlying9 (Ev.plain rfl) optN ?_
      refine ARun.cmp rfl rfl rfl rfl (Ev.plain rfl) (Ev.plain rfl) rfl optN ?_
      refine ARun.move (.inl rfl) rfl rfl rfl (Ev.plain rfl) optN ?_
      refine ARun.move (.inl rfl) rfl rfl rfl (Ev.plain rfl) optS ?_
      refine ARun.move (.inl rfl) rfl rfl rfl (Ev.plain rfl) optS ?_
      first | refine ARun.indexSl rfl rfl rfl rfl Tryd.underlying22 sz35 (Ev.opt rfl (fun h => h)) (Ev.opt rfl (fun h => h)) (fun _ => rfl) (fun hg => getMap _ _ _ (by (try simp at hg); omega)) rfl rfl optS ?_ | refine ARun.indexSl rfl rfl rfl rfl Tryd.underlying22 sz35 (Ev.opt rfl (fun h => h)) (Ev.opt rfl (fun h => h)) (fun hg => ofNonneg (by (try simp at hg); omega)) (fun hg => getMap _ _ _ (by (try simp at hg); omega)) rfl rfl optS ?_
      refine ARun.fieldPe rfl rfl rfl rfl Tryd.underlying35 rfl rfl sz33 (by decide) (Ev.opt rfl (fun h => h)) rfl optS ?_
      refine ARun.loadPe rfl rfl rfl rfl Tryd.underlying33 rfl (Ev.opt rfl (fun h => h)) rfl optS ?_
      refine ARun.lenSl rfl rfl rfl rfl Tryd.underlying33 (Ev.opt rfl (fun h => h)) optS ?_
      refine ARun.cmp rfl rfl rfl rfl (Ev.opt rfl (fun h => h)) (Ev.plain rfl) rfl optS ?_
      refine ARun.pick rfl rfl rfl rfl (Ev.plain rfl) (Ev.plain rfl) (Ev.opt rfl (by first | exact pkF | exact pkF2 | simp +contextual)) (orB _ _) optN ?_
      refine ⟨_, _, rfl, hG, ?_⟩
      refine thenA_n ?_
      refine AWP.cond rfl (fun h2 => ?_) (fun h2 => ?_)
      · skip
        try simp [-List.getD_eq_getElem?_getD] at h2
        refine AWP.seq ?_
        refine AWP.region (fun _ => ?_)
        refine ARun.move (.inr rfl) rfl rfl rfl (Ev.plain rfl) optN ?_
        refine ⟨_, _, rfl, hG, ?_⟩
        refine thenA_n ?_
        refine AWP.ret ?_
        refine blockA_r ?_
        refine thenA_r ?_
        refine thenA_r ?_
        refine blockA_r ?_
        refine thenA_r ?_
        refine endF.one (.inr rfl) rfl (.tmp rfl) ?_ hN
        rw [few_no h1 (by omega)]; rfl
      · skip
        try simp [-List.getD_eq_getElem?_getD] at h2
        refine AWP.skip ?_
        refine blockA_n ?_
        refine thenA_n ?_
        refine AWP.region (fun _ => ?_)
        refine ARun.move (.inl rfl) rfl rfl rfl (Ev.plain rfl) optN ?_
        first | refine ARun.arith rfl rfl rfl rfl (Ev.plain rfl) (Ev.plain rfl) rfl (fun hg => i64w (by (try simp at hg); omega)) optN ?_ | refine ARun.arith rfl rfl rfl rfl (Ev.plain rfl) (Ev.plain rfl) rfl (fun _ => rfl) optN ?_
        refine ARun.move (.inr rfl) rfl rfl rfl (Ev.plain rfl) optN ?_
        refine ⟨_, _, rfl, hG, ?_⟩
        refine thenA_n ⟨rfl, k + 1, _, ?_, ?_, rfl, ?_⟩
        · refine ⟨by omega, fun j hj => ?_⟩
          by_cases e : j = k
          · subst e; omega
          · exact hno j (by omega)
        · repeat (first | exact .nil | refine .cons rfl ?_)
        · omega
    · skip
      try simp [-List.getD_eq_getElem?_getD] at h1
      refine AWP.exit ?_
      refine thenA_x ?_
      refine thenA_x ?_
      refine blockA_h ?_
      refine thenA_n ?_
      refine AWP.seq ?_
      refine AWP.region (fun _ => ?_)
      refine ARun.move (.inr rfl) rfl rfl rfl (Ev.plain rfl) optN ?_
      refine ⟨_, _, rfl, hG, ?_⟩
      refine thenA_n ?_
      refine AWP.ret ?_
      refine endF.one (.inr rfl) rfl (.tmp rfl) ?_ hN
      rw [few_yes (by omega) (fun j hj => hno j (by omega))]; rfl
set_option maxHeartbeats 1000000 in
theorem lay_fn (l : List Pc) (hfew : fewP l = true) (hgd : ∀ x, x ∈ l → goodPc x) : FnP Tryd.prog 9 [.sl (l.map aPc)] (.tup [.str (layP l).out, .bool true]) := by
  have hlen := few_len hfew
  refine FnP.of Tryd.func9 rfl rfl (by simp) (by simp [AV.cells, aIn, aOut]) (fun G hG => ?_)
  have hN : NoH G.length (.tup [.str (layP l).out, .bool true]) := (by simp [AV.cells, aIn, aOut])
  refine AWP.seq ?_
  refine AWP.region (fun _ => ?_)
  refine ARun.move (.inr rfl) rfl rfl rfl (Ev.plain rfl) optN ?_
  refine ARun.move (.inr rfl) rfl rfl rfl (Ev.plain rfl) optN ?_
  refine ⟨_, _, rfl, hG, ?_⟩
  refine thenA_n ?_
  refine AWP.seq ?_
  refine AWP.region (fun _ => ?_)
  refine ARun.allocBld (j := 0) (e := 5) hG rfl rfl rfl rfl rfl zv52 rfl rfl rfl optN ?_
  refine ⟨_, _, rfl, hG, ?_⟩
  refine thenA_n ?_
  refine AWP.seq ?_
  refine AWP.region (fun _ => ?_)
  refine ARun.alloc (j := 1) hG rfl rfl rfl rfl rfl zv64 rfl optN ?_
  refine ⟨_, _, rfl, hG, ?_⟩
  refine thenA_n ?_
  refine AWP.seq ?_
  refine AWP.seq ?_
  refine AWP.region (fun _ => ?_)
  refine ARun.move (.inr rfl) rfl rfl rfl (Ev.plain rfl) optN ?_
  refine ⟨_, _, rfl, hG, ?_⟩
  refine thenA_n ?_
  refine AWP.block ?_
  refine AWP.rounds (fun k => k ≤ l.length) (fun k => [(0, .sl (l.map aPc)), (4, .box (G.length + 0) 0), (5, .box (G.length + 1) 0), (6, .int .i64 (k : Int))]) (fun k => [.box (aW (layP (l.take k))), .box [.str (layP (l.take k)).out, .str (layP (l.take k)).p, .int .i64 (layP (l.take k)).e]]) (fun k => l.length - k) 2 0 (Nat.zero_le _) (by repeat (first | exact .nil | refine .cons rfl ?_)) rfl (fun _ => rfl) (fun _ => ⟨by simp [AV.cells, aPc], by simp [AO.conts, aW]⟩) (fun k hI => ?_)
  have hwl := layP_len hfew k hI
  refine AWP.seq ?_
  refine AWP.seq ?_
  refine AWP.region (fun _ => ?_)
  refine ARun.move (.inl rfl) rfl rfl rfl (Ev.plain rfl) optN ?_
  refine ARun.move (.inl rfl) rfl rfl rfl (Ev.plain rfl) optN ?_
  refine ARun.lenSl rfl rfl rfl rfl Tryd.underlying22 (Ev.plain rfl) optN ?_
  refine ARun.cmp rfl rfl rfl rfl (Ev.plain rfl) (Ev.plain rfl) rfl optN ?_
  refine ⟨_, _, rfl, hG, ?_⟩
  refine thenA_n ?_
  refine AWP.cond rfl (fun h0 => ?_) (fun h0 => ?_)
  · skip
    try simp [-List.getD_eq_getElem?_getD] at h0
    refine AWP.skip ?_
    refine thenA_n ?_
    refine AWP.seq ?_
    refine AWP.block ?_
    refine AWP.seq ?_
    refine AWP.region (fun _ => ?_)
    refine ARun.move (.inl rfl) rfl rfl rfl (Ev.plain rfl) optN ?_
    refine ARun.move (.inl rfl) rfl rfl rfl (Ev.plain rfl) optN ?_
    first | refine ARun.indexSl rfl rfl rfl rfl Tryd.underlying22 sz35 (Ev.plain rfl) (Ev.plain rfl) (fun _ => rfl) (fun hg => getMap _ _ _ (by (try simp at hg); omega)) rfl rfl optN ?_ | refine ARun.indexSl rfl rfl rfl rfl Tryd.underlying22 sz35 (Ev.plain rfl) (Ev.plain rfl) (fun hg => ofNonneg (by (try simp at hg); omega)) (fun hg => getMap _ _ _ (by (try simp at hg); omega)) rfl rfl optN ?_
    refine ARun.fieldPe rfl rfl rfl rfl Tryd.underlying35 rfl rfl sz3 (by decide) (Ev.plain rfl) rfl optN ?_
    refine ARun.loadPe rfl rfl rfl rfl Tryd.underlying3 rfl (Ev.plain rfl) rfl optN ?_
    refine ⟨_, _, rfl, hG, ?_⟩
    refine thenA_n ?_
    refine AWP.block ?_
    refine AWP.seq ?_
    refine AWP.region (fun _ => ?_)
    refine ARun.cmp rfl rfl rfl rfl (Ev.plain rfl) (Ev.plain rfl) rfl optN ?_
    refine ARun.move (.inr rfl) rfl rfl rfl (Ev.plain rfl) optN ?_
    refine ⟨_, _, rfl, hG, ?_⟩
    refine thenA_n ?_
    refine AWP.cond rfl (fun h1 => ?_) (fun h1 => ?_)
    · skip
      try simp [-List.getD_eq_getElem?_getD] at h1
      refine AWP.seq ?_
      refine AWP.region (fun _ => ?_)
      refine ARun.move (.inl rfl) rfl rfl rfl (Ev.plain rfl) optN ?_
      refine ARun.move (.inl rfl) rfl rfl rfl (Ev.plain rfl) optN ?_
      first | refine ARun.indexSl rfl rfl rfl rfl Tryd.underlying22 sz35 (Ev.plain rfl) (Ev.plain rfl) (fun _ => rfl) (fun hg => getMap _ _ _ (by (try simp at hg); omega)) rfl rfl optN ?_ | refine ARun.indexSl rfl rfl rfl rfl Tryd.underlying22 sz35 (Ev.plain rfl) (Ev.plain rfl) (fun hg => ofNonneg (by (try simp at hg); omega)) (fun hg => getMap _ _ _ (by (try simp at hg); omega)) rfl rfl optN ?_
      refine ARun.fieldPe rfl rfl rfl rfl Tryd.underlying35 rfl rfl sz3 (by decide) (Ev.plain rfl) rfl optN ?_
      refine ARun.loadPe rfl rfl rfl rfl Tryd.underlying3 rfl (Ev.plain rfl) rfl optN ?_
      refine ARun.buildSl rfl rfl rfl rfl Tryd.underlying33 sz3 zv3 rfl (by decide) (.cons (Ev.plain rfl) .nil) rfl rfl rfl rfl (by decide) rfl rfl optN ?_
      refine ARun.callSet (j := 0) hG rfl rfl rfl rfl cf21 (Ev.plain rfl) (.cons (Ev.plain rfl) (.cons (Ev.plain rfl) .nil)) rfl (nums_w (layP (l.take k)) [(l.getD k default).n] (by simp) (by omega) (fit_one (good_at hgd (k := k) (by omega)).1) _ _ ((hG.at _ _).trans rfl)) rfl optN ?_
      refine ⟨_, _, rfl, hG, ?_⟩
      refine thenA_n ?_
      refine AWP.draw mixed (by kernel_rfl) (fun _ => ?_)
      refine ARun.loadBoxA rfl rfl rfl rfl Tryd.underlying64 rfl sz64 (Ev.plain rfl) ((hG.at _ _).trans rfl) rfl rfl optN ?_
      refine ARun.move (.inl rfl) rfl rfl rfl (Ev.plain rfl) optN ?_
      refine ARun.move (.inl rfl) rfl rfl rfl (Ev.plain rfl) optN ?_
      first | refine ARun.indexSl rfl rfl rfl rfl Tryd.underlying22 sz35 (Ev.plain rfl) (Ev.plain rfl) (fun _ => rfl) (fun hg => getMap _ _ _ (by (try simp at hg); omega)) rfl rfl optN ?_ | refine ARun.indexSl rfl rfl rfl rfl Tryd.underlying22 sz35 (Ev.plain rfl) (Ev.plain rfl) (fun hg => ofNonneg (by (try simp at hg); omega)) (fun hg => getMap _ _ _ (by (try simp at hg); omega)) rfl rfl optN ?_
      refine ARun.fieldPe rfl rfl rfl rfl Tryd.underlying35 rfl rfl sz3 (by decide) (Ev.plain rfl) rfl optN ?_
      refine ARun.loadPe rfl rfl rfl rfl Tryd.underlying3 rfl (Ev.plain rfl) rfl optN ?_
      refine ARun.buildSl rfl rfl rfl rfl Tryd.underlying33 sz3 zv3 rfl (by decide) (.cons (Ev.plain rfl) .nil) rfl rfl rfl rfl (by decide) rfl rfl optN ?_
      refine ARun.call rfl rfl rfl rfl cf28 (Ev.plain rfl) (.cons (Ev.plain rfl) (.cons (Ev.plain rfl) .nil)) rfl (fun hg => nums_R (layP (l.take k)) [(l.getD k default).n] (by simp) (by omega) (fit_one (good_at hgd (k := k) (by omega)).1)) optN ?_
      refine ARun.storeL hG rfl rfl rfl sz64 (Ev.plain rfl) (Ev.plain rfl) rfl rfl rfl rfl rfl (Nat.le_of_ble_eq_true rfl) rfl rfl ?_
      refine ⟨by kernel_rfl, _, _, rfl, hG, ?_⟩
      refine blockA_n ?_
      refine blockA_n ?_
      refine thenA_n ?_
      refine AWP.region (fun _ => ?_)
      refine ARun.move (.inl rfl) rfl rfl rfl (Ev.plain rfl) optN ?_
      first | refine ARun.arith rfl rfl rfl rfl (Ev.plain rfl) (Ev.plain rfl) rfl (fun hg => i64w (by (try simp at hg); omega)) optN ?_ | refine ARun.arith rfl rfl rfl rfl (Ev.plain rfl) (Ev.plain rfl) rfl (fun _ => rfl) optN ?_
      refine ARun.move (.inr rfl) rfl rfl rfl (Ev.plain rfl) optN ?_
      refine ⟨_, _, rfl, hG, ?_⟩
      refine thenA_n ⟨rfl, k + 1, [], ?_, ?_, ?_, ?_⟩
      · omega
      · repeat (first | exact .nil | refine .cons rfl ?_)
      · rw [layP_succ l k (by omega), pcW, if_pos h1]; rfl
      · omega
    · skip
      try simp [-List.getD_eq_getElem?_getD] at h1
      refine AWP.seq ?_
      refine AWP.region (fun _ => ?_)
      refine ARun.cmp rfl rfl rfl rfl (Ev.plain rfl) (Ev.plain rfl) rfl optN ?_
      refine ARun.move (.inr rfl) rfl rfl rfl (Ev.plain rfl) optN ?_
      refine ⟨_, _, rfl, hG, ?_⟩
      refine thenA_n ?_
      refine AWP.cond rfl (fun h2 => ?_) (fun h2 => ?_)
      · skip
        try simp [-List.getD_eq_getElem?_getD] at h2
        refine AWP.seq ?_
        refine AWP.region (fun _ => ?_)
        refine ARun.move (.inl rfl) rfl rfl rfl (Ev.plain rfl) optN ?_
        refine ARun.move (.inl rfl) rfl rfl rfl (Ev.plain rfl) optN ?_
        first | refine ARun.indexSl rfl rfl rfl rfl Tryd.underlying22 sz35 (Ev.plain rfl) (Ev.plain rfl) (fun _ => rfl) (fun hg => getMap _ _ _ (by (try simp at hg); omega)) rfl rfl optN ?_ | refine ARun.indexSl rfl rfl rfl rfl Tryd.underlying22 sz35 (Ev.plain rfl) (Ev.plain rfl) (fun hg => ofNonneg (by (try simp at hg); omega)) (fun hg => getMap _ _ _ (by (try simp at hg); omega)) rfl rfl optN ?_
        refine ARun.fieldPe rfl rfl rfl rfl Tryd.underlying35 rfl rfl sz9 (by decide) (Ev.plain rfl) rfl optN ?_
        refine ARun.loadPe rfl rfl rfl rfl Tryd.underlying9 rfl (Ev.plain rfl) rfl optN ?_
        refine ARun.callSet (j := 0) hG rfl rfl rfl rfl cf22 (Ev.plain rfl) (.cons (Ev.plain rfl) (.cons (Ev.plain rfl) .nil)) rfl (text_w (layP (l.take k)) (l.getD k default).s (by have := few_at hfew (k := k) (by omega); omega) (by omega) _ _ ((hG.at _ _).trans rfl)) rfl optN ?_
        refine ⟨_, _, rfl, hG, ?_⟩
        refine thenA_n ?_
        refine AWP.draw mixed (by kernel_rfl) (fun _ => ?_)
        refine ARun.loadBoxA rfl rfl rfl rfl Tryd.underlying64 rfl sz64 (Ev.plain rfl) ((hG.at _ _).trans rfl) rfl rfl optN ?_
        refine ARun.move (.inl rfl) rfl rfl rfl (Ev.plain rfl) optN ?_
        refine ARun.move (.inl rfl) rfl rfl rfl (Ev.plain rfl) optN ?_
        first | refine ARun.indexSl rfl rfl rfl rfl Tryd.underlying22 sz35 (Ev.plain rfl) (Ev.plain rfl) (fun _ => rfl) (fun hg => getMap _ _ _ (by (try simp at hg); omega)) rfl rfl optN ?_ | refine ARun.indexSl rfl rfl rfl rfl Tryd.underlying22 sz35 (Ev.plain rfl) (Ev.plain rfl) (fun hg => ofNonneg (by (try simp at hg); omega)) (fun hg => getMap _ _ _ (by (try simp at hg); omega)) rfl rfl optN ?_
        refine ARun.fieldPe rfl rfl rfl rfl Tryd.underlying35 rfl rfl sz9 (by decide) (Ev.plain rfl) rfl optN ?_
        refine ARun.loadPe rfl rfl rfl rfl Tryd.underlying9 rfl (Ev.plain rfl) rfl optN ?_
        refine ARun.call rfl rfl rfl rfl cf29 (Ev.plain rfl) (.cons (Ev.plain rfl) (.cons (Ev.plain rfl) .nil)) rfl (fun hg => text_W (layP (l.take k)) (l.getD k default).s (by have := few_at hfew (k := k) (by omega); omega) (by omega)) optN ?_
        refine ARun.storeL hG rfl rfl rfl sz64 (Ev.plain rfl) (Ev.plain rfl) rfl rfl rfl rfl rfl (Nat.le_of_ble_eq_true rfl) rfl rfl ?_
        refine ⟨by kernel_rfl, _, _, rfl, hG, ?_⟩
        refine blockA_n ?_
        refine blockA_n ?_
        refine thenA_n ?_
        refine AWP.region (fun _ => ?_)
        refine ARun.move (.inl rfl) rfl rfl rfl (Ev.plain rfl) optN ?_
        first | refine ARun.arith rfl rfl rfl rfl (Ev.plain rfl) (Ev.plain rfl) rfl (fun hg => i64w (by (try simp at hg); omega)) optN ?_ | refine ARun.arith rfl rfl rfl rfl (Ev.plain rfl) (Ev.plain rfl) rfl (fun _ => rfl) optN ?_
        refine ARun.move (.inr rfl) rfl rfl rfl (Ev.plain rfl) optN ?_
        refine ⟨_, _, rfl, hG, ?_⟩
        refine thenA_n ⟨rfl, k + 1, [], ?_, ?_, ?_, ?_⟩
        · omega
        · repeat (first | exact .nil | refine .cons rfl ?_)
        · rw [layP_succ l k (by omega), pcW, if_neg h1, if_pos h2]; rfl
        · omega
      · skip
        try simp [-List.getD_eq_getElem?_getD] at h2
        refine AWP.seq ?_
        refine AWP.region (fun _ => ?_)
        refine ARun.cmp rfl rfl rfl rfl (Ev.plain rfl) (Ev.plain rfl) rfl optN ?_
        refine ARun.move (.inr rfl) rfl rfl rfl (Ev.plain rfl) optN ?_
        refine ⟨_, _, rfl, hG, ?_⟩
        refine thenA_n ?_
        refine AWP.cond rfl (fun h3 => ?_) (fun h3 => ?_)
        · skip
          try simp [-List.getD_eq_getElem?_getD] at h3
          refine AWP.seq ?_
          refine AWP.region (fun _ => ?_)
          refine ARun.move (.inl rfl) rfl rfl rfl (Ev.plain rfl) optN ?_
          refine ARun.move (.inl rfl) rfl rfl rfl (Ev.plain rfl) optN ?_
          first | refine ARun.indexSl rfl rfl rfl rfl Tryd.underlying22 sz35 (Ev.plain rfl) (Ev.plain rfl) (fun _ => rfl) (fun hg => getMap _ _ _ (by (try simp at hg); omega)) rfl rfl optN ?_ | refine ARun.indexSl rfl rfl rfl rfl Tryd.underlying22 sz35 (Ev.plain rfl) (Ev.plain rfl) (fun hg => ofNonneg (by (try simp at hg); omega)) (fun hg => getMap _ _ _ (by (try simp at hg); omega)) rfl rfl optN ?_
          refine ARun.fieldPe rfl rfl rfl rfl Tryd.underlying35 rfl rfl sz33 (by decide) (Ev.plain rfl) rfl optN ?_
          refine ARun.loadPe rfl rfl rfl rfl Tryd.underlying33 rfl (Ev.plain rfl) rfl optN ?_
          refine ARun.callSet (j := 0) hG rfl rfl rfl rfl cf23 (Ev.plain rfl) (.cons (Ev.plain rfl) (.cons (Ev.plain rfl) .nil)) rfl (row_w (layP (l.take k)) (l.getD k default).l (by have := few_at hfew (k := k) (by omega); omega) (by omega) (good_at hgd (k := k) (by omega)).2 _ _ ((hG.at _ _).trans rfl)) rfl optN ?_
          refine ⟨_, _, rfl, hG, ?_⟩
          refine thenA_n ?_
          refine AWP.draw mixed (by kernel_rfl) (fun _ => ?_)
          refine ARun.loadBoxA rfl rfl rfl rfl Tryd.underlying64 rfl sz64 (Ev.plain rfl) ((hG.at _ _).trans rfl) rfl rfl optN ?_
          refine ARun.move (.inl rfl) rfl rfl rfl (Ev.plain rfl) optN ?_
          refine ARun.move (.inl rfl) rfl rfl rfl (Ev.plain rfl) optN ?_
          first | refine ARun.indexSl rfl rfl rfl rfl Tryd.underlying22 sz35 (Ev.plain rfl) (Ev.plain rfl) (fun _ => rfl) (fun hg => getMap _ _ _ (by (try simp at hg); omega)) rfl rfl optN ?_ | refine ARun.indexSl rfl rfl rfl rfl Tryd.underlying22 sz35 (Ev.plain rfl) (Ev.plain rfl) (fun hg => ofNonneg (by (try simp at hg); omega)) (fun hg => getMap _ _ _ (by (try simp at hg); omega)) rfl rfl optN ?_
          refine ARun.fieldPe rfl rfl rfl rfl Tryd.underlying35 rfl rfl sz33 (by decide) (Ev.plain rfl) rfl optN ?_
          refine ARun.loadPe rfl rfl rfl rfl Tryd.underlying33 rfl (Ev.plain rfl) rfl optN ?_
          refine ARun.call rfl rfl rfl rfl cf30 (Ev.plain rfl) (.cons (Ev.plain rfl) (.cons (Ev.plain rfl) .nil)) rfl (fun hg => row_W (layP (l.take k)) (l.getD k default).l (by have := few_at hfew (k := k) (by omega); omega) (by omega) (good_at hgd (k := k) (by omega)).2) optN ?_
          refine ARun.storeL hG rfl rfl rfl sz64 (Ev.plain rfl) (Ev.plain rfl) rfl rfl rfl rfl rfl (Nat.le_of_ble_eq_true rfl) rfl rfl ?_
          refine ⟨by kernel_rfl, _, _, rfl, hG, ?_⟩
          refine blockA_n ?_
          refine blockA_n ?_
          refine thenA_n ?_
          refine AWP.region (fun _ => ?_)
          refine ARun.move (.inl rfl) rfl rfl rfl (Ev.plain rfl) optN ?_
          first | refine ARun.arith rfl rfl rfl rfl (Ev.plain rfl) (Ev.plain rfl) rfl (fun hg => i64w (by (try simp at hg); omega)) optN ?_ | refine ARun.arith rfl rfl rfl rfl (Ev.plain rfl) (Ev.plain rfl) rfl (fun _ => rfl) optN ?_
          refine ARun.move (.inr rfl) rfl rfl rfl (Ev.plain rfl) optN ?_
          refine ⟨_, _, rfl, hG, ?_⟩
          refine thenA_n ⟨rfl, k + 1, [], ?_, ?_, ?_, ?_⟩
          · omega
          · repeat (first | exact .nil | refine .cons rfl ?_)
          · rw [layP_succ l k (by omega), pcW, if_neg h1, if_neg h2, if_pos h3]; rfl
          · omega
        · skip
          try simp [-List.getD_eq_getElem?_getD] at h3
          refine AWP.seq ?_
          refine AWP.region (fun _ => ?_)
          refine ARun.cmp rfl rfl rfl rfl (Ev.plain rfl) (Ev.plain rfl) rfl optN ?_
          refine ARun.move (.inr rfl) rfl rfl rfl (Ev.plain rfl) optN ?_
          refine ⟨_, _, rfl, hG, ?_⟩
          refine thenA_n ?_
          refine AWP.cond rfl (fun h4 => ?_) (fun h4 => ?_)
          · skip
            try simp [-List.getD_eq_getElem?_getD] at h4
            refine AWP.seq ?_
            refine AWP.region (fun _ => ?_)
            refine ARun.move (.inl rfl) rfl rfl rfl (Ev.plain rfl) optN ?_
            refine ARun.move (.inl rfl) rfl rfl rfl (Ev.plain rfl) optN ?_
            first | refine ARun.indexSl rfl rfl rfl rfl Tryd.underlying22 sz35 (Ev.plain rfl) (Ev.plain rfl) (fun _ => rfl) (fun hg => getMap _ _ _ (by (try simp at hg); omega)) rfl rfl optN ?_ | refine ARun.indexSl rfl rfl rfl rfl Tryd.underlying22 sz35 (Ev.plain rfl) (Ev.plain rfl) (fun hg => ofNonneg (by (try simp at hg); omega)) (fun hg => getMap _ _ _ (by (try simp at hg); omega)) rfl rfl optN ?_
            refine ARun.fieldPe rfl rfl rfl rfl Tryd.underlying35 rfl rfl sz3 (by decide) (Ev.plain rfl) rfl optN ?_
            refine ARun.loadPe rfl rfl rfl rfl Tryd.underlying3 rfl (Ev.plain rfl) rfl optN ?_
            refine ARun.cmp rfl rfl rfl rfl (Ev.plain rfl) (Ev.plain rfl) rfl optN ?_
            refine ARun.callSet (j := 0) hG rfl rfl rfl rfl cf24 (Ev.plain rfl) (.cons (Ev.plain rfl) (.cons (Ev.plain rfl) .nil)) rfl (flag_w (layP (l.take k)) (decide (0 < (l.getD k default).n)) (by omega) _ _ ((hG.at _ _).trans rfl)) rfl optN ?_
            refine ⟨_, _, rfl, hG, ?_⟩
            refine thenA_n ?_
            refine AWP.draw mixed (by kernel_rfl) (fun _ => ?_)
            refine ARun.loadBoxA rfl rfl rfl rfl Tryd.underlying64 rfl sz64 (Ev.plain rfl) ((hG.at _ _).trans rfl) rfl rfl optN ?_
            refine ARun.move (.inl rfl) rfl rfl rfl (Ev.plain rfl) optN ?_
            refine ARun.move (.inl rfl) rfl rfl rfl (Ev.plain rfl) optN ?_
            first | refine ARun.indexSl rfl rfl rfl rfl Tryd.underlying22 sz35 (Ev.plain rfl) (Ev.plain rfl) (fun _ => rfl) (fun hg => getMap _ _ _ (by (try simp at hg); omega)) rfl rfl optN ?_ | refine ARun.indexSl rfl rfl rfl rfl Tryd.underlying22 sz35 (Ev.plain rfl) (Ev.plain rfl) (fun hg => ofNonneg (by (try simp at hg); omega)) (fun hg => getMap _ _ _ (by (try simp at hg); omega)) rfl rfl optN ?_
            refine ARun.fieldPe rfl rfl rfl rfl Tryd.underlying35 rfl rfl sz3 (by decide) (Ev.plain rfl) rfl optN ?_
            refine ARun.loadPe rfl rfl rfl rfl Tryd.underlying3 rfl (Ev.plain rfl) rfl optN ?_
            refine ARun.cmp rfl rfl rfl rfl (Ev.plain rfl) (Ev.plain rfl) rfl optN ?_
            refine ARun.call rfl rfl rfl rfl cf31 (Ev.plain rfl) (.cons (Ev.plain rfl) (.cons (Ev.plain rfl) .nil)) rfl (fun hg => flag_W (layP (l.take k)) (decide (0 < (l.getD k default).n)) (by omega)) optN ?_
            refine ARun.storeL hG rfl rfl rfl sz64 (Ev.plain rfl) (Ev.plain rfl) rfl rfl rfl rfl rfl (Nat.le_of_ble_eq_true rfl) rfl rfl ?_
            refine ⟨by kernel_rfl, _, _, rfl, hG, ?_⟩
            refine blockA_n ?_
            refine blockA_n ?_
            refine thenA_n ?_
            refine AWP.region (fun _ => ?_)
            refine ARun.move (.inl rfl) rfl rfl rfl (Ev.plain rfl) optN ?_
            first | refine ARun.arith rfl rfl rfl rfl (Ev.plain rfl) (Ev.plain rfl) rfl (fun hg => i64w (by (try simp at hg); omega)) optN ?_ | refine ARun.arith rfl rfl rfl rfl (Ev.plain rfl) (Ev.plain rfl) rfl (fun _ => rfl) optN ?_
            refine ARun.move (.inr rfl) rfl rfl rfl (Ev.plain rfl) optN ?_
            refine ⟨_, _, rfl, hG, ?_⟩
            refine thenA_n ⟨rfl, k + 1, [], ?_, ?_, ?_, ?_⟩
            · omega
            · repeat (first | exact .nil | refine .cons rfl ?_)
            · rw [layP_succ l k (by omega), pcW, if_neg h1, if_neg h2, if_neg h3, if_pos h4]; rfl
            · omega
          · skip
            try simp [-List.getD_eq_getElem?_getD] at h4
            refine AWP.skip ?_
            refine blockA_n ?_
            refine blockA_n ?_
            refine thenA_n ?_
            refine AWP.region (fun _ => ?_)
            refine ARun.move (.inl rfl) rfl rfl rfl (Ev.plain rfl) optN ?_
            first | refine ARun.arith rfl rfl rfl rfl (Ev.plain rfl) (Ev.plain rfl) rfl (fun hg => i64w (by (try simp at hg); omega)) optN ?_ | refine ARun.arith rfl rfl rfl rfl (Ev.plain rfl) (Ev.plain rfl) rfl (fun _ => rfl) optN ?_
            refine ARun.move (.inr rfl) rfl rfl rfl (Ev.plain rfl) optN ?_
            refine ⟨_, _, rfl, hG, ?_⟩
            refine thenA_n ⟨rfl, k + 1, [], ?_, ?_, ?_, ?_⟩
            · omega
            · repeat (first | exact .nil | refine .cons rfl ?_)
            · rw [layP_succ l k (by omega), pcW, if_neg h1, if_neg h2, if_neg h3, if_neg h4]; rfl
            · omega
  · skip
    simp at h0
    obtain rfl : k = l.length := by omega
    rw [List.take_length]
    refine AWP.exit ?_
    refine thenA_x ?_
    refine thenA_x ?_
    refine blockA_h ?_
    refine thenA_n ?_
    refine AWP.seq ?_
    refine AWP.region (fun _ => ?_)
    refine ARun.callSet (j := 0) hG rfl rfl rfl rfl cf25 (Ev.plain rfl) (.cons (Ev.plain rfl) .nil) rfl (done_w (layP l) _ _ ((hG.at _ _).trans rfl)) rfl optN ?_
    refine ARun.move (.inl rfl) rfl rfl rfl (Ev.plain rfl) optN ?_
    refine ARun.extract rfl rfl rfl rfl (Ev.plain rfl) rfl optN ?_
    refine ARun.extract rfl rfl rfl rfl (Ev.plain rfl) rfl optN ?_
    refine ARun.move (.inr rfl) rfl rfl rfl (Ev.plain rfl) optN ?_
    refine ARun.move (.inr rfl) rfl rfl rfl (Ev.plain rfl) optN ?_
    refine ⟨_, _, rfl, hG, ?_⟩
    refine thenA_n ?_
    refine AWP.seq ?_
    refine AWP.draw mixed (by kernel_rfl) (fun _ => ?_)
    refine ARun.move (.inl rfl) rfl rfl rfl (Ev.plain rfl) optN ?_
    refine ARun.move (.inl rfl) rfl rfl rfl (Ev.plain rfl) optN ?_
    refine ARun.fieldBox (fo := 0) rfl rfl rfl rfl Tryd.underlying64 rfl rfl sz9 (by decide) (Ev.plain rfl) ((hG.at _ _).trans rfl) optN ?_
    refine ARun.loadBox rfl rfl rfl rfl Tryd.underlying9 rfl (Ev.plain rfl) ((hG.at _ _).trans rfl) rfl optN ?_
    refine ARun.cmpS rfl rfl rfl rfl (Ev.plain rfl) (Ev.plain rfl) rfl optN ?_
    refine ARun.move (.inl rfl) rfl rfl rfl (Ev.plain rfl) optN ?_
    refine ARun.move (.inl rfl) rfl rfl rfl (Ev.plain rfl) optS ?_
    refine ARun.call rfl rfl rfl rfl cf18 (Ev.plain rfl) (.cons (Ev.opt rfl (fun h => h)) .nil) rfl (fun hg => code_fn (errOf tWrite (layP l).p (layP l).e)) optS ?_
    refine ARun.fieldBox (fo := 2) rfl rfl rfl rfl Tryd.underlying64 rfl rfl sz3 (by decide) (Ev.plain rfl) ((hG.at _ _).trans rfl) optS ?_
    refine ARun.loadBox rfl rfl rfl rfl Tryd.underlying3 rfl (Ev.opt rfl (fun h => h)) ((hG.at _ _).trans rfl) rfl optS ?_
    refine ARun.cmp rfl rfl rfl rfl (Ev.opt rfl (fun h => h)) (Ev.opt rfl (fun h => h)) rfl optS ?_
    refine ARun.pick rfl rfl rfl rfl (Ev.plain rfl) (Ev.opt rfl (by first | exact pkT | exact pkT2 | simp +contextual)) (Ev.plain rfl) (andB _ _) optN ?_
    refine ARun.move (.inl rfl) rfl rfl rfl (Ev.plain rfl) optN ?_
    refine ARun.fieldBox (fo := 2) rfl rfl rfl rfl Tryd.underlying64 rfl rfl sz3 (by decide) (Ev.plain rfl) ((hG.at _ _).trans rfl) optS ?_
    refine ARun.loadBox rfl rfl rfl rfl Tryd.underlying3 rfl (Ev.opt rfl (fun h => h)) ((hG.at _ _).trans rfl) rfl optS ?_
    refine ARun.cmp rfl rfl rfl rfl (Ev.opt rfl (fun h => h)) (Ev.plain rfl) rfl optS ?_
    refine ARun.move (.inl rfl) rfl rfl rfl (Ev.opt rfl (fun h => h)) optS ?_
    refine ARun.move (.inl rfl) rfl rfl rfl (Ev.plain rfl) optS ?_
    refine ARun.fieldBox (fo := 1) rfl rfl rfl rfl Tryd.underlying64 rfl rfl sz9 (by decide) (Ev.plain rfl) ((hG.at _ _).trans rfl) optS ?_
    refine ARun.loadBox rfl rfl rfl rfl Tryd.underlying9 rfl (Ev.opt rfl (fun h => h)) ((hG.at _ _).trans rfl) rfl optS ?_
    refine ARun.call rfl rfl rfl rfl cf26 (Ev.plain rfl) (.cons (Ev.opt rfl (fun h => h)) (.cons (Ev.opt rfl (fun h => h)) .nil)) rfl (fun hg => at_fn (errOf tWrite (layP l).p (layP l).e) (layP l).p (depth_errOf _ _ _)) optS ?_
    refine ARun.pick rfl rfl rfl rfl (Ev.opt rfl (fun h => h)) (Ev.plain rfl) (Ev.opt rfl (by first | exact pkF | exact pkF2 | simp +contextual)) (orB _ _) optS ?_
    refine ARun.pick rfl rfl rfl rfl (Ev.plain rfl) (Ev.opt rfl (by first | exact pkT | exact pkT2 | simp +contextual)) (Ev.plain rfl) (andB _ _) optN ?_
    refine ARun.move (.inr rfl) rfl rfl rfl (Ev.plain rfl) optN ?_
    refine ARun.move (.inr rfl) rfl rfl rfl (Ev.plain rfl) optN ?_
    refine ⟨by kernel_rfl, _, _, rfl, hG, ?_⟩
    refine thenA_n ?_
    refine AWP.ret ?_
    refine endF.many (.inr rfl) (rs := [.tmp 2, .tmp 3]) rfl (.cons (.tmp rfl) (.cons (.tmp rfl) .nil)) (by simp) ?_ hN
    simp [code_errOf]; exact at_mem _ _ _
def pcRead (r : RdS) (p : Pc) : RdS :=
  if p.kind = 0 then (rdNum r p.n).1 else if p.kind = 1 then (rdText r p.n).1 else if p.kind = 2 then (rdRow r p.n).1 else if p.kind = 3 then (rdFlag r).1 else if p.kind = 4 then rdEnd r else r
theorem pcRead_ok {r : RdS} (h : r.ok) (p : Pc) : (pcRead r p).ok := by
  unfold pcRead
  split
  · exact rdNum_ok h _
  · split
    · exact rdText_ok h _
    · split
      · exact rdRow_ok h _
      · split
        · exact rdFlag_ok h
        · split
          · exact rdEnd_ok h
          · exact h
set_option maxHeartbeats 1000000 in
theorem sameI_fn (a b : List Int) (hl : a.length ≤ 9223372036854775807) : FnP Tryd.prog 14 [.sl (a.map (AV.int .i64)), .sl (b.map (AV.int .i64))] (.bool (decide (a = b))) := by
  refine FnP.of Tryd.func14 rfl rfl (by simp) (by simp [AV.cells, aIn, aOut]) (fun G hG => ?_)
  have hN : NoH G.length (.bool (decide (a = b))) := (by simp [AV.cells, aIn, aOut])
  refine AWP.seq ?_
  refine AWP.region (fun _ => ?_)
  refine ARun.move (.inr rfl) rfl rfl rfl (Ev.plain rfl) optN ?_
  refine ⟨_, _, rfl, hG, ?_⟩
  refine thenA_n ?_
  refine AWP.seq ?_
  refine AWP.seq ?_
  refine AWP.region (fun _ => ?_)
  refine ARun.move (.inl rfl) rfl rfl rfl (Ev.plain rfl) optN ?_
  refine ARun.lenSl rfl rfl rfl rfl Tryd.underlying33 (Ev.plain rfl) optN ?_
  refine ARun.move (.inl rfl) rfl rfl rfl (Ev.plain rfl) optN ?_
  refine ARun.lenSl rfl rfl rfl rfl Tryd.underlying33 (Ev.plain rfl) optN ?_
  refine ARun.cmp rfl rfl rfl rfl (Ev.plain rfl) (Ev.plain rfl) rfl optN ?_
  refine ⟨_, _, rfl, hG, ?_⟩
  refine thenA_n ?_
  refine AWP.cond rfl (fun h0 => ?_) (fun h0 => ?_)
  · skip
    simp [-List.getD_eq_getElem?_getD] at h0
    refine AWP.seq ?_
    refine AWP.region (fun _ => ?_)
    refine ARun.move (.inr rfl) rfl rfl rfl (Ev.plain rfl) optN ?_
    refine ⟨_, _, rfl, hG, ?_⟩
    refine thenA_n ?_
    refine AWP.ret ?_
    refine thenA_r ?_
    refine endF.one (.inr rfl) rfl (.tmp rfl) ?_ hN
    rw [decide_eq_false (fun e => absurd (congrArg List.length e) (by omega))]; rfl
  · skip
    simp [-List.getD_eq_getElem?_getD] at h0
    refine AWP.skip ?_
    refine thenA_n ?_
    refine AWP.seq ?_
    refine AWP.seq ?_
    refine AWP.region (fun _ => ?_)
    refine ARun.move (.inr rfl) rfl rfl rfl (Ev.plain rfl) optN ?_
    refine ⟨_, _, rfl, hG, ?_⟩
    refine thenA_n ?_
    refine AWP.block ?_
    refine AWP.rounds (fun k => k ≤ a.length ∧ a.take k = b.take k) (fun k => [(0, .sl (a.map (AV.int .i64))), (1, .sl (b.map (AV.int .i64))), (5, .int .i64 (k : Int))]) (fun k => []) (fun k => a.length - k) 0 0 ⟨by omega, rfl⟩ (by repeat (first | exact .nil | refine .cons rfl ?_)) rfl (fun _ => rfl) (fun _ => ⟨by simp [AV.cells], by simp⟩) (fun k hI => ?_)
    obtain ⟨hk, hs⟩ := hI
    refine AWP.seq ?_
    refine AWP.seq ?_
    refine AWP.region (fun _ => ?_)
    refine ARun.move (.inl rfl) rfl rfl rfl (Ev.plain rfl) optN ?_
    refine ARun.move (.inl rfl) rfl rfl rfl (Ev.plain rfl) optN ?_
    refine ARun.lenSl rfl rfl rfl rfl Tryd.underlying33 (Ev.plain rfl) optN ?_
    refine ARun.cmp rfl rfl rfl rfl (Ev.plain rfl) (Ev.plain rfl) rfl optN ?_
    refine ⟨_, _, rfl, hG, ?_⟩
    refine thenA_n ?_
    refine AWP.cond rfl (fun h1 => ?_) (fun h1 => ?_)
    · skip
      simp [-List.getD_eq_getElem?_getD] at h1
      refine AWP.skip ?_
      refine thenA_n ?_
      refine AWP.seq ?_
      refine AWP.block ?_
      refine AWP.seq ?_
      refine AWP.draw mixed (by kernel_rfl) (fun _ => ?_)
      refine ARun.move (.inl rfl) rfl rfl rfl (Ev.plain rfl) optN ?_
      refine ARun.move (.inl rfl) rfl rfl rfl (Ev.plain rfl) optN ?_
      first | refine ARun.indexSl rfl rfl rfl rfl Tryd.underlying33 sz3 (Ev.plain rfl) (Ev.plain rfl) (fun _ => rfl) (fun hg => getMap _ _ _ (by (try simp at hg); omega)) rfl rfl optN ?_ | refine ARun.indexSl rfl rfl rfl rfl Tryd.underlying33 sz3 (Ev.plain rfl) (Ev.plain rfl) (fun hg => ofNonneg (by (try simp at hg); omega)) (fun hg => getMap _ _ _ (by (try simp at hg); omega)) rfl rfl optN ?_
      refine ARun.loadPe rfl rfl rfl rfl Tryd.underlying3 rfl (Ev.plain rfl) rfl optN ?_
      refine ARun.move (.inl rfl) rfl rfl rfl (Ev.plain rfl) optN ?_
      refine ARun.move (.inl rfl) rfl rfl rfl (Ev.plain rfl) optN ?_
      first | refine ARun.indexSl rfl rfl rfl rfl Tryd.underlying33 sz3 (Ev.plain rfl) (Ev.plain rfl) (fun _ => rfl) (fun hg => getMap _ _ _ (by (try simp at hg); omega)) rfl rfl optN ?_ | refine ARun.indexSl rfl rfl rfl rfl Tryd.underlying33 sz3 (Ev.plain rfl) (Ev.plain rfl) (fun hg => ofNonneg (by (try simp at hg); omega)) (fun hg => getMap _ _ _ (by (try simp at hg); omega)) rfl rfl optN ?_
      refine ARun.loadPe rfl rfl rfl rfl Tryd.underlying3 rfl (Ev.plain rfl) rfl optN ?_
      refine ARun.cmp rfl rfl rfl rfl (Ev.plain rfl) (Ev.plain rfl) rfl optN ?_
      refine ⟨by kernel_rfl, _, _, rfl, hG, ?_⟩
      refine thenA_n ?_
      refine AWP.cond rfl (fun h2 => ?_) (fun h2 => ?_)
      · skip
        simp [-List.getD_eq_getElem?_getD] at h2
        refine AWP.seq ?_
        refine AWP.region (fun _ => ?_)
        refine ARun.move (.inr rfl) rfl rfl rfl (Ev.plain rfl) optN ?_
        refine ⟨_, _, rfl, hG, ?_⟩
        refine thenA_n ?_
        refine AWP.ret ?_
        refine blockA_r ?_
        refine thenA_r ?_
        refine thenA_r ?_
        refine blockA_r ?_
        refine thenA_r ?_
        refine endF.one (.inr rfl) rfl (.tmp rfl) ?_ hN
        rw [decide_eq_false (ne_of_get (k := k) h2)]; rfl
      · skip
        simp [-List.getD_eq_getElem?_getD] at h2
        refine AWP.skip ?_
        refine blockA_n ?_
        refine thenA_n ?_
        refine AWP.region (fun _ => ?_)
        refine ARun.move (.inl rfl) rfl rfl rfl (Ev.plain rfl) optN ?_
        first | refine ARun.arith rfl rfl rfl rfl (Ev.plain rfl) (Ev.plain rfl) rfl (fun hg => i64w (by (try simp at hg); omega)) optN ?_ | refine ARun.arith rfl rfl rfl rfl (Ev.plain rfl) (Ev.plain rfl) rfl (fun _ => rfl) optN ?_
        refine ARun.move (.inr rfl) rfl rfl rfl (Ev.plain rfl) optN ?_
        refine ⟨_, _, rfl, hG, ?_⟩
        refine thenA_n ⟨rfl, k + 1, _, ?_, ?_, rfl, ?_⟩
        · exact ⟨by omega, take_eq_go hs h1 (by omega) h2⟩
        · repeat (first | exact .nil | refine .cons rfl ?_)
        · omega
    · skip
      simp [-List.getD_eq_getElem?_getD] at h1
      refine AWP.exit ?_
      refine thenA_x ?_
      refine thenA_x ?_
      refine blockA_h ?_
      refine thenA_n ?_
      refine AWP.seq ?_
      refine AWP.region (fun _ => ?_)
      refine ARun.move (.inr rfl) rfl rfl rfl (Ev.plain rfl) optN ?_
      refine ⟨_, _, rfl, hG, ?_⟩
      refine thenA_n ?_
      refine AWP.ret ?_
      refine endF.one (.inr rfl) rfl (.tmp rfl) ?_ hN
      rw [decide_eq_true (by rw [List.take_of_length_le h1, List.take_of_length_le (by omega)] at hs; exact hs)]; rfl
set_option maxHeartbeats 1000000 in
theorem read_fn (r : RdS) (p : Pc) (h : r.ok) : FnM Tryd.prog 11 (fun i => [.box i 0, aIn r, aPc p]) (aRd r) (.tup [aIn (pcRead r p), .bool true]) (aRd (pcRead r p)) := by
  refine FnM.of Tryd.func11 rfl rfl (fun i => by simp) (fun H i m hHm hi hG => ?_)
  have hN : NoH H.length (.tup [aIn (pcRead r p), .bool true]) := (by simp [AV.cells, aIn, aOut])
  refine AWP.seq ?_
  refine AWP.region (fun _ => ?_)
  refine ARun.box (j := 0) hG rfl rfl rfl rfl rfl (Ev.plain rfl) rfl rfl optN ?_
  refine ARun.boxPe rfl rfl rfl rfl (Ev.plain rfl) rfl rfl optN ?_
  refine ARun.alloc (j := 1) hG rfl rfl rfl rfl rfl zv30 rfl optN ?_
  refine ARun.move (.inr rfl) rfl rfl rfl (Ev.plain rfl) optN ?_
  refine ⟨_, _, rfl, hG, ?_⟩
  refine thenA_n ?_
  refine AWP.seq ?_
  refine AWP.region (fun _ => ?_)
  refine ARun.move (.inr rfl) rfl rfl rfl (Ev.plain rfl) optN ?_
  refine ⟨_, _, rfl, hG, ?_⟩
  refine thenA_n ?_
  refine AWP.seq ?_
  refine AWP.seq ?_
  refine AWP.region (fun _ => ?_)
  refine ARun.fieldPe rfl rfl rfl rfl Tryd.underlying35 rfl rfl sz3 (by decide) (Ev.plain rfl) rfl optN ?_
  refine ARun.loadPe rfl rfl rfl rfl Tryd.underlying3 rfl (Ev.plain rfl) rfl optN ?_
  refine ⟨_, _, rfl, hG, ?_⟩
  refine thenA_n ?_
  refine AWP.block ?_
  refine AWP.seq ?_
  refine AWP.region (fun _ => ?_)
  refine ARun.cmp rfl rfl rfl rfl (Ev.plain rfl) (Ev.plain rfl) rfl optN ?_
  refine ARun.move (.inr rfl) rfl rfl rfl (Ev.plain rfl) optN ?_
  refine ⟨_, _, rfl, hG, ?_⟩
  refine thenA_n ?_
  refine AWP.cond rfl (fun h0 => ?_) (fun h0 => ?_)
  · skip
    try simp [-List.getD_eq_getElem?_getD] at h0
    refine AWP.seq ?_
    refine AWP.region (fun _ => ?_)
    refine ARun.loadBoxA rfl rfl rfl rfl Tryd.underlying30 rfl sz30 (Ev.plain rfl) ((hG.at _ _).trans rfl) rfl rfl optN ?_
    refine ARun.fieldPe rfl rfl rfl rfl Tryd.underlying35 rfl rfl sz3 (by decide) (Ev.plain rfl) rfl optN ?_
    refine ARun.loadPe rfl rfl rfl rfl Tryd.underlying3 rfl (Ev.plain rfl) rfl optN ?_
    refine ARun.call rfl rfl rfl rfl cf32 (Ev.plain rfl) (.cons (Ev.plain rfl) (.cons (Ev.plain rfl) .nil)) rfl (fun hg => num_R r p.n h) optN ?_
    refine ARun.move (.inl rfl) rfl rfl rfl (Ev.plain rfl) optN ?_
    refine ARun.extract rfl rfl rfl rfl (Ev.plain rfl) rfl optN ?_
    refine ARun.extract rfl rfl rfl rfl (Ev.plain rfl) rfl optN ?_
    refine ARun.alloc (j := 2) hG rfl rfl rfl rfl rfl zv30 rfl optN ?_
    refine ARun.storeL hG rfl rfl rfl sz30 (Ev.plain rfl) (Ev.plain rfl) rfl rfl rfl rfl rfl (Nat.le_of_ble_eq_true rfl) rfl rfl ?_
    refine ARun.move (.inr rfl) rfl rfl rfl (Ev.plain rfl) optN ?_
    refine ⟨_, _, rfl, hG, ?_⟩
    refine thenA_n ?_
    refine AWP.frzBox 9 hG rfl rfl rfl ?_
    refine AWP.draw mixed (by kernel_rfl) (fun _ => ?_)
    refine ARun.loadPeA rfl rfl rfl rfl Tryd.underlying30 rfl sz30 (Ev.plain rfl) rfl optN ?_
    refine ARun.move (.inl rfl) rfl rfl rfl (Ev.plain rfl) optN ?_
    refine ARun.fieldPe rfl rfl rfl rfl Tryd.underlying35 rfl rfl sz3 (by decide) (Ev.plain rfl) rfl optN ?_
    refine ARun.loadPe rfl rfl rfl rfl Tryd.underlying3 rfl (Ev.plain rfl) rfl optN ?_
    refine ARun.callO hi hG rfl rfl rfl rfl cf12 (Ev.plain rfl) (.cons (Ev.plain rfl) (.cons (Ev.plain rfl) .nil)) rfl (num_r r p.n h _ _ (atO hi)) (by first | exact noH_aRd _ _ | (simp; done) | (simp [cAV]; done)) optN (fun hG => ?_)
    refine ARun.move (.inl rfl) rfl rfl rfl (Ev.plain rfl) optN ?_
    refine ARun.cmp rfl rfl rfl rfl (Ev.plain rfl) (Ev.plain rfl) rfl optN ?_
    refine ARun.storeL hG rfl rfl rfl sz30 (Ev.plain rfl) (Ev.plain rfl) rfl rfl rfl rfl rfl (Nat.le_of_ble_eq_true rfl) rfl rfl ?_
    refine ARun.move (.inr rfl) rfl rfl rfl (Ev.plain rfl) optN ?_
    refine ⟨by kernel_rfl, _, _, rfl, hG, ?_⟩
    refine blockA_n ?_
    refine thenA_n ?_
    refine AWP.seq ?_
    refine AWP.region (fun _ => ?_)
    refine ARun.move (.inl rfl) rfl rfl rfl (Ev.plain rfl) optN ?_
    refine ARun.callR rfl rfl rfl rfl cf19 (Ev.plain rfl) (.cons (Ev.plain rfl) .nil) rfl (fun hg => FnM.keep (rdone_fn (rdNum r p.n).1) (atO hi)) optN ?_
    refine ARun.move (.inr rfl) rfl rfl rfl (Ev.plain rfl) optN ?_
    refine ⟨_, _, rfl, hG, ?_⟩
    refine thenA_n ?_
    refine AWP.seq ?_
    refine AWP.frzBox 4 hG rfl rfl rfl ?_
    refine AWP.draw mixed (by kernel_rfl) (fun _ => ?_)
    refine ARun.loadPeA rfl rfl rfl rfl Tryd.underlying30 rfl sz30 (Ev.plain rfl) rfl optN ?_
    refine ARun.move (.inl rfl) rfl rfl rfl (Ev.plain rfl) optN ?_
    refine ARun.move (.inl rfl) rfl rfl rfl (Ev.plain rfl) optN ?_
    refine ARun.move (.inl rfl) rfl rfl rfl (Ev.plain rfl) optS ?_
    refine ARun.call rfl rfl rfl rfl cf18 (Ev.plain rfl) (.cons (Ev.opt rfl (fun h => h)) .nil) rfl (fun hg => code_fn (errOf tRead (rdNum r p.n).1.p (rdNum r p.n).1.e)) optS ?_
    refine ARun.fieldPe rfl rfl rfl rfl Tryd.underlying30 rfl rfl sz3 (by decide) (Ev.plain rfl) rfl optS ?_
    refine ARun.loadPe rfl rfl rfl rfl Tryd.underlying3 rfl (Ev.opt rfl (fun h => h)) rfl optS ?_
    refine ARun.cmp rfl rfl rfl rfl (Ev.opt rfl (fun h => h)) (Ev.opt rfl (fun h => h)) rfl optS ?_
    refine ARun.pick rfl rfl rfl rfl (Ev.plain rfl) (Ev.opt rfl (by first | exact pkT | exact pkT2 | simp +contextual)) (Ev.plain rfl) (andB _ _) optN ?_
    refine ARun.move (.inl rfl) rfl rfl rfl (Ev.plain rfl) optN ?_
    refine ARun.move (.inl rfl) rfl rfl rfl (Ev.plain rfl) optS ?_
    refine ARun.callR rfl rfl rfl rfl cf20 (Ev.plain rfl) (.cons (Ev.opt rfl (fun h => h)) .nil) rfl (fun hg => FnM.keep (at_r (rdNum r p.n).1) (atO hi)) optS ?_
    refine ARun.fieldPe rfl rfl rfl rfl Tryd.underlying30 rfl rfl sz3 (by decide) (Ev.plain rfl) rfl optS ?_
    refine ARun.loadPe rfl rfl rfl rfl Tryd.underlying3 rfl (Ev.opt rfl (fun h => h)) rfl optS ?_
    refine ARun.cmp rfl rfl rfl rfl (Ev.opt rfl (fun h => h)) (Ev.opt rfl (fun h => h)) rfl optS ?_
    refine ARun.pick rfl rfl rfl rfl (Ev.plain rfl) (Ev.opt rfl (by first | exact pkT | exact pkT2 | simp +contextual)) (Ev.plain rfl) (andB _ _) optN ?_
    refine ARun.move (.inl rfl) rfl rfl rfl (Ev.plain rfl) optN ?_
    refine ARun.fieldPe rfl rfl rfl rfl Tryd.underlying30 rfl rfl sz3 (by decide) (Ev.plain rfl) rfl optS ?_
    refine ARun.loadPe rfl rfl rfl rfl Tryd.underlying3 rfl (Ev.opt rfl (fun h => h)) rfl optS ?_
    refine ARun.cmp rfl rfl rfl rfl (Ev.opt rfl (fun h => h)) (Ev.plain rfl) rfl optS ?_
    refine ARun.move (.inl rfl) rfl rfl rfl (Ev.opt rfl (fun h => h)) optS ?_
    refine ARun.move (.inl rfl) rfl rfl rfl (Ev.plain rfl) optS ?_
    refine ARun.fieldPe rfl rfl rfl rfl Tryd.underlying30 rfl rfl sz9 (by decide) (Ev.plain rfl) rfl optS ?_
    refine ARun.loadPe rfl rfl rfl rfl Tryd.underlying9 rfl (Ev.opt rfl (fun h => h)) rfl optS ?_
    refine ARun.call rfl rfl rfl rfl cf26 (Ev.plain rfl) (.cons (Ev.opt rfl (fun h => h)) (.cons (Ev.opt rfl (fun h => h)) .nil)) rfl (fun hg => at_fn (errOf tRead (rdNum r p.n).1.p (rdNum r p.n).1.e) (rdNum r p.n).1.p (depth_errOf _ _ _)) optS ?_
    refine ARun.pick rfl rfl rfl rfl (Ev.opt rfl (fun h => h)) (Ev.plain rfl) (Ev.opt rfl (by first | exact pkF | exact pkF2 | simp +contextual)) (orB _ _) optS ?_
    refine ARun.pick rfl rfl rfl rfl (Ev.plain rfl) (Ev.opt rfl (by first | exact pkT | exact pkT2 | simp +contextual)) (Ev.plain rfl) (andB _ _) optN ?_
    refine ARun.storeL hG rfl rfl rfl sz30 (Ev.plain rfl) (Ev.plain rfl) rfl rfl rfl rfl rfl (Nat.le_of_ble_eq_true rfl) rfl rfl ?_
    refine ARun.move (.inr rfl) rfl rfl rfl (Ev.plain rfl) optN ?_
    refine ⟨by kernel_rfl, _, _, rfl, hG, ?_⟩
    refine thenA_n ?_
    refine AWP.ret ?_
    refine endF.toG (congrArg (fun c => H.set i (AO.box c)) (by rw [pcRead, if_pos h0])) ?_
    refine endF.many (.inr rfl) (rs := [.cell 6 30, .tmp 7]) rfl (.cons (.cellA rfl ((hG.at _ _).trans rfl) Tryd.underlying30 rfl sz30 rfl rfl) (.cons (.tmp rfl) .nil)) (by simp) ?_ (by rw [List.length_set]; exact hN)
    rw [pcRead, if_pos h0]; refine pair2 rfl ?_
    simp [code_errOf]; exact at_mem _ _ _
  · skip
    try simp [-List.getD_eq_getElem?_getD] at h0
    refine AWP.seq ?_
    refine AWP.region (fun _ => ?_)
    refine ARun.cmp rfl rfl rfl rfl (Ev.plain rfl) (Ev.plain rfl) rfl optN ?_
    refine ARun.move (.inr rfl) rfl rfl rfl (Ev.plain rfl) optN ?_
    refine ⟨_, _, rfl, hG, ?_⟩
    refine thenA_n ?_
    refine AWP.cond rfl (fun h1 => ?_) (fun h1 => ?_)
    · skip
      try simp [-List.getD_eq_getElem?_getD] at h1
      refine AWP.seq ?_
      refine AWP.region (fun _ => ?_)
      refine ARun.loadBoxA rfl rfl rfl rfl Tryd.underlying30 rfl sz30 (Ev.plain rfl) ((hG.at _ _).trans rfl) rfl rfl optN ?_
      refine ARun.fieldPe rfl rfl rfl rfl Tryd.underlying35 rfl rfl sz3 (by decide) (Ev.plain rfl) rfl optN ?_
      refine ARun.loadPe rfl rfl rfl rfl Tryd.underlying3 rfl (Ev.plain rfl) rfl optN ?_
      refine ARun.call rfl rfl rfl rfl cf33 (Ev.plain rfl) (.cons (Ev.plain rfl) (.cons (Ev.plain rfl) .nil)) rfl (fun hg => text_R r p.n h) optN ?_
      refine ARun.move (.inl rfl) rfl rfl rfl (Ev.plain rfl) optN ?_
      refine ARun.extract rfl rfl rfl rfl (Ev.plain rfl) rfl optN ?_
      refine ARun.extract rfl rfl rfl rfl (Ev.plain rfl) rfl optN ?_
      refine ARun.alloc (j := 2) hG rfl rfl rfl rfl rfl zv30 rfl optN ?_
      refine ARun.storeL hG rfl rfl rfl sz30 (Ev.plain rfl) (Ev.plain rfl) rfl rfl rfl rfl rfl (Nat.le_of_ble_eq_true rfl) rfl rfl ?_
      refine ARun.move (.inr rfl) rfl rfl rfl (Ev.plain rfl) optN ?_
      refine ⟨_, _, rfl, hG, ?_⟩
      refine thenA_n ?_
      refine AWP.frzBox 11 hG rfl rfl rfl ?_
      refine AWP.draw mixed (by kernel_rfl) (fun _ => ?_)
      refine ARun.loadPeA rfl rfl rfl rfl Tryd.underlying30 rfl sz30 (Ev.plain rfl) rfl optN ?_
      refine ARun.move (.inl rfl) rfl rfl rfl (Ev.plain rfl) optN ?_
      refine ARun.fieldPe rfl rfl rfl rfl Tryd.underlying35 rfl rfl sz3 (by decide) (Ev.plain rfl) rfl optN ?_
      refine ARun.loadPe rfl rfl rfl rfl Tryd.underlying3 rfl (Ev.plain rfl) rfl optN ?_
      refine ARun.callO hi hG rfl rfl rfl rfl cf13 (Ev.plain rfl) (.cons (Ev.plain rfl) (.cons (Ev.plain rfl) .nil)) rfl (text_r r p.n h _ _ (atO hi)) (by first | exact noH_aRd _ _ | (simp; done) | (simp [cAV]; done)) optN (fun hG => ?_)
      refine ARun.move (.inl rfl) rfl rfl rfl (Ev.plain rfl) optN ?_
      refine ARun.cmpS rfl rfl rfl rfl (Ev.plain rfl) (Ev.plain rfl) rfl optN ?_
      refine ARun.storeL hG rfl rfl rfl sz30 (Ev.plain rfl) (Ev.plain rfl) rfl rfl rfl rfl rfl (Nat.le_of_ble_eq_true rfl) rfl rfl ?_
      refine ARun.move (.inr rfl) rfl rfl rfl (Ev.plain rfl) optN ?_
      refine ⟨by kernel_rfl, _, _, rfl, hG, ?_⟩
      refine blockA_n ?_
      refine thenA_n ?_
      refine AWP.seq ?_
      refine AWP.region (fun _ => ?_)
      refine ARun.move (.inl rfl) rfl rfl rfl (Ev.plain rfl) optN ?_
      refine ARun.callR rfl rfl rfl rfl cf19 (Ev.plain rfl) (.cons (Ev.plain rfl) .nil) rfl (fun hg => FnM.keep (rdone_fn (rdText r p.n).1) (atO hi)) optN ?_
      refine ARun.move (.inr rfl) rfl rfl rfl (Ev.plain rfl) optN ?_
      refine ⟨_, _, rfl, hG, ?_⟩
      refine thenA_n ?_
      refine AWP.seq ?_
      refine AWP.frzBox 4 hG rfl rfl rfl ?_
      refine AWP.draw mixed (by kernel_rfl) (fun _ => ?_)
      refine ARun.loadPeA rfl rfl rfl rfl Tryd.underlying30 rfl sz30 (Ev.plain rfl) rfl optN ?_
      refine ARun.move (.inl rfl) rfl rfl rfl (Ev.plain rfl) optN ?_
      refine ARun.move (.inl rfl) rfl rfl rfl (Ev.plain rfl) optN ?_
      refine ARun.move (.inl rfl) rfl rfl rfl (Ev.plain rfl) optS ?_
      refine ARun.call rfl rfl rfl rfl cf18 (Ev.plain rfl) (.cons (Ev.opt rfl (fun h => h)) .nil) rfl (fun hg => code_fn (errOf tRead (rdText r p.n).1.p (rdText r p.n).1.e)) optS ?_
      refine ARun.fieldPe rfl rfl rfl rfl Tryd.underlying30 rfl rfl sz3 (by decide) (Ev.plain rfl) rfl optS ?_
      refine ARun.loadPe rfl rfl rfl rfl Tryd.underlying3 rfl (Ev.opt rfl (fun h => h)) rfl optS ?_
      refine ARun.cmp rfl rfl rfl rfl (Ev.opt rfl (fun h => h)) (Ev.opt rfl (fun h => h)) rfl optS ?_
      refine ARun.pick rfl rfl rfl rfl (Ev.plain rfl) (Ev.opt rfl (by first | exact pkT | exact pkT2 | simp +contextual)) (Ev.plain rfl) (andB _ _) optN ?_
      refine ARun.move (.inl rfl) rfl rfl rfl (Ev.plain rfl) optN ?_
      refine ARun.move (.inl rfl) rfl rfl rfl (Ev.plain rfl) optS ?_
      refine ARun.callR rfl rfl rfl rfl cf20 (Ev.plain rfl) (.cons (Ev.opt rfl (fun h => h)) .nil) rfl (fun hg => FnM.keep (at_r (rdText r p.n).1) (atO hi)) optS ?_
      refine ARun.fieldPe rfl rfl rfl rfl Tryd.underlying30 rfl rfl sz3 (by decide) (Ev.plain rfl) rfl optS ?_
      refine ARun.loadPe rfl rfl rfl rfl Tryd.underlying3 rfl (Ev.opt rfl (fun h => h)) rfl optS ?_
      refine ARun.cmp rfl rfl rfl rfl (Ev.opt rfl (fun h => h)) (Ev.opt rfl (fun h => h)) rfl optS ?_
      refine ARun.pick rfl rfl rfl rfl (Ev.plain rfl) (Ev.opt rfl (by first | exact pkT | exact pkT2 | simp +contextual)) (Ev.plain rfl) (andB _ _) optN ?_
      refine ARun.move (.inl rfl) rfl rfl rfl (Ev.plain rfl) optN ?_
      refine ARun.fieldPe rfl rfl rfl rfl Tryd.underlying30 rfl rfl sz3 (by decide) (Ev.plain rfl) rfl optS ?_
      refine ARun.loadPe rfl rfl rfl rfl Tryd.underlying3 rfl (Ev.opt rfl (fun h => h)) rfl optS ?_
      refine ARun.cmp rfl rfl rfl rfl (Ev.opt rfl (fun h => h)) (Ev.plain rfl) rfl optS ?_
      refine ARun.move (.inl rfl) rfl rfl rfl (Ev.opt rfl (fun h => h)) optS ?_
      refine ARun.move (.inl rfl) rfl rfl rfl (Ev.plain rfl) optS ?_
      refine ARun.fieldPe rfl rfl rfl rfl Tryd.underlying30 rfl rfl sz9 (by decide) (Ev.plain rfl) rfl optS ?_
      refine ARun.loadPe rfl rfl rfl rfl Tryd.underlying9 rfl (Ev.opt rfl (fun h => h)) rfl optS ?_
      refine ARun.call rfl rfl rfl rfl cf26 (Ev.plain rfl) (.cons (Ev.opt rfl (fun h => h)) (.cons (Ev.opt rfl (fun h => h)) .nil)) rfl (fun hg => at_fn (errOf tRead (rdText r p.n).1.p (rdText r p.n).1.e) (rdText r p.n).1.p (depth_errOf _ _ _)) optS ?_
      refine ARun.pick rfl rfl rfl rfl (Ev.opt rfl (fun h => h)) (Ev.plain rfl) (Ev.opt rfl (by first | exact pkF | exact pkF2 | simp +contextual)) (orB _ _) optS ?_
      refine ARun.pick rfl rfl rfl rfl (Ev.plain rfl) (Ev.opt rfl (by first | exact pkT | exact pkT2 | simp +contextual)) (Ev.plain rfl) (andB _ _) optN ?_
      refine ARun.storeL hG rfl rfl rfl sz30 (Ev.plain rfl) (Ev.plain rfl) rfl rfl rfl rfl rfl (Nat.le_of_ble_eq_true rfl) rfl rfl ?_
      refine ARun.move (.inr rfl) rfl rfl rfl (Ev.plain rfl) optN ?_
      refine ⟨by kernel_rfl, _, _, rfl, hG, ?_⟩
      refine thenA_n ?_
      refine AWP.ret ?_
      refine endF.toG (congrArg (fun c => H.set i (AO.box c)) (by rw [pcRead, if_neg h0, if_pos h1])) ?_
      refine endF.many (.inr rfl) (rs := [.cell 6 30, .tmp 7]) rfl (.cons (.cellA rfl ((hG.at _ _).trans rfl) Tryd.underlying30 rfl sz30 rfl rfl) (.cons (.tmp rfl) .nil)) (by simp) ?_ (by rw [List.length_set]; exact hN)
      rw [pcRead, if_neg h0, if_pos h1]; refine pair2 rfl ?_
      simp [code_errOf]; exact at_mem _ _ _
    · skip
      try simp [-List.getD_eq_getElem?_getD] at h1
      refine AWP.seq ?_
      refine AWP.region (fun _ => ?_)
      refine ARun.cmp rfl rfl rfl rfl (Ev.plain rfl) (Ev.plain rfl) rfl optN ?_
      refine ARun.move (.inr rfl) rfl rfl rfl (Ev.plain rfl) optN ?_
      refine ⟨_, _, rfl, hG, ?_⟩
      refine thenA_n ?_
      refine AWP.cond rfl (fun h2 => ?_) (fun h2 => ?_)
      · skip
        try simp [-List.getD_eq_getElem?_getD] at h2
        refine AWP.seq ?_
        refine AWP.region (fun _ => ?_)
        refine ARun.loadBoxA rfl rfl rfl rfl Tryd.underlying30 rfl sz30 (Ev.plain rfl) ((hG.at _ _).trans rfl) rfl rfl optN ?_
        refine ARun.fieldPe rfl rfl rfl rfl Tryd.underlying35 rfl rfl sz3 (by decide) (Ev.plain rfl) rfl optN ?_
        refine ARun.loadPe rfl rfl rfl rfl Tryd.underlying3 rfl (Ev.plain rfl) rfl optN ?_
        refine ARun.call rfl rfl rfl rfl cf34 (Ev.plain rfl) (.cons (Ev.plain rfl) (.cons (Ev.plain rfl) .nil)) rfl (fun hg => row_R r p.n h) optN ?_
        refine ARun.move (.inl rfl) rfl rfl rfl (Ev.plain rfl) optN ?_
        refine ARun.extract rfl rfl rfl rfl (Ev.plain rfl) rfl optN ?_
        refine ARun.extract rfl rfl rfl rfl (Ev.plain rfl) rfl optN ?_
        refine ARun.alloc (j := 2) hG rfl rfl rfl rfl rfl zv30 rfl optN ?_
        refine ARun.storeL hG rfl rfl rfl sz30 (Ev.plain rfl) (Ev.plain rfl) rfl rfl rfl rfl rfl (Nat.le_of_ble_eq_true rfl) rfl rfl ?_
        refine ARun.move (.inr rfl) rfl rfl rfl (Ev.plain rfl) optN ?_
        refine ⟨_, _, rfl, hG, ?_⟩
        refine thenA_n ?_
        refine AWP.frzBox 13 hG rfl rfl rfl ?_
        refine AWP.draw mixed (by kernel_rfl) (fun _ => ?_)
        refine ARun.loadPeA rfl rfl rfl rfl Tryd.underlying30 rfl sz30 (Ev.plain rfl) rfl optN ?_
        refine ARun.move (.inl rfl) rfl rfl rfl (Ev.plain rfl) optN ?_
        refine ARun.fieldPe rfl rfl rfl rfl Tryd.underlying35 rfl rfl sz3 (by decide) (Ev.plain rfl) rfl optN ?_
        refine ARun.loadPe rfl rfl rfl rfl Tryd.underlying3 rfl (Ev.plain rfl) rfl optN ?_
        refine ARun.callO hi hG rfl rfl rfl rfl cf15 (Ev.plain rfl) (.cons (Ev.plain rfl) (.cons (Ev.plain rfl) .nil)) rfl (row_r r p.n h _ _ (atO hi)) (by first | exact noH_aRd _ _ | (simp; done) | (simp [cAV]; done)) optN (fun hG => ?_)
        refine ARun.move (.inl rfl) rfl rfl rfl (Ev.plain rfl) optN ?_
        refine ARun.call rfl rfl rfl rfl cf14 (Ev.plain rfl) (.cons (Ev.plain rfl) (.cons (Ev.plain rfl) .nil)) rfl (fun hg => sameI_fn (rdRow r p.n).2 (rdRow r p.n).2 (by have := rdRow_len r p.n; omega)) optN ?_
        refine ARun.storeL hG rfl rfl rfl sz30 (Ev.plain rfl) (Ev.plain rfl) rfl rfl rfl rfl rfl (Nat.le_of_ble_eq_true rfl) rfl rfl ?_
        refine ARun.move (.inr rfl) rfl rfl rfl (Ev.plain rfl) optN ?_
        refine ⟨by kernel_rfl, _, _, rfl, hG, ?_⟩
        refine blockA_n ?_
        refine thenA_n ?_
        refine AWP.seq ?_
        refine AWP.region (fun _ => ?_)
        refine ARun.move (.inl rfl) rfl rfl rfl (Ev.plain rfl) optN ?_
        refine ARun.callR rfl rfl rfl rfl cf19 (Ev.plain rfl) (.cons (Ev.plain rfl) .nil) rfl (fun hg => FnM.keep (rdone_fn (rdRow r p.n).1) (atO hi)) optN ?_
        refine ARun.move (.inr rfl) rfl rfl rfl (Ev.plain rfl) optN ?_
        refine ⟨_, _, rfl, hG, ?_⟩
        refine thenA_n ?_
        refine AWP.seq ?_
        refine AWP.frzBox 4 hG rfl rfl rfl ?_
        refine AWP.draw mixed (by kernel_rfl) (fun _ => ?_)
        refine ARun.loadPeA rfl rfl rfl rfl Tryd.underlying30 rfl sz30 (Ev.plain rfl) rfl optN ?_
        refine ARun.move (.inl rfl) rfl rfl rfl (Ev.plain rfl) optN ?_
        refine ARun.move (.inl rfl) rfl rfl rfl (Ev.plain rfl) optN ?_
        refine ARun.move (.inl rfl) rfl rfl rfl (Ev.plain rfl) optS ?_
        refine ARun.call rfl rfl rfl rfl cf18 (Ev.plain rfl) (.cons (Ev.opt rfl (fun h => h)) .nil) rfl (fun hg => code_fn (errOf tRead (rdRow r p.n).1.p (rdRow r p.n).1.e)) optS ?_
        refine ARun.fieldPe rfl rfl rfl rfl Tryd.underlying30 rfl rfl sz3 (by decide) (Ev.plain rfl) rfl optS ?_
        refine ARun.loadPe rfl rfl rfl rfl Tryd.underlying3 rfl (Ev.opt rfl (fun h => h)) rfl optS ?_
        refine ARun.cmp rfl rfl rfl rfl (Ev.opt rfl (fun h => h)) (Ev.opt rfl (fun h => h)) rfl optS ?_
        refine ARun.pick rfl rfl rfl rfl (Ev.plain rfl) (Ev.opt rfl (by first | exact pkT | exact pkT2 | simp +contextual)) (Ev.plain rfl) (andB _ _) optN ?_
        refine ARun.move (.inl rfl) rfl rfl rfl (Ev.plain rfl) optN ?_
        refine ARun.move (.inl rfl) rfl rfl rfl (Ev.plain rfl) optS ?_
        refine ARun.callR rfl rfl rfl rfl cf20 (Ev.plain rfl) (.cons (Ev.opt rfl (fun h => h)) .nil) rfl (fun hg => FnM.keep (at_r (rdRow r p.n).1) (atO hi)) optS ?_
        refine ARun.fieldPe rfl rfl rfl rfl Tryd.underlying30 rfl rfl sz3 (by decide) (Ev.plain rfl) rfl optS ?_
        refine ARun.loadPe rfl rfl rfl rfl Tryd.underlying3 rfl (Ev.opt rfl (fun h => h)) rfl optS ?_
        refine ARun.cmp rfl rfl rfl rfl (Ev.opt rfl (fun h => h)) (Ev.opt rfl (fun h => h)) rfl optS ?_
        refine ARun.pick rfl rfl rfl rfl (Ev.plain rfl) (Ev.opt rfl (by first | exact pkT | exact pkT2 | simp +contextual)) (Ev.plain rfl) (andB _ _) optN ?_
        refine ARun.move (.inl rfl) rfl rfl rfl (Ev.plain rfl) optN ?_
        refine ARun.fieldPe rfl rfl rfl rfl Tryd.underlying30 rfl rfl sz3 (by decide) (Ev.plain rfl) rfl optS ?_
        refine ARun.loadPe rfl rfl rfl rfl Tryd.underlying3 rfl (Ev.opt rfl (fun h => h)) rfl optS ?_
        refine ARun.cmp rfl rfl rfl rfl (Ev.opt rfl (fun h => h)) (Ev.plain rfl) rfl optS ?_
        refine ARun.move (.inl rfl) rfl rfl rfl (Ev.opt rfl (fun h => h)) optS ?_
        refine ARun.move (.inl rfl) rfl rfl rfl (Ev.plain rfl) optS ?_
        refine ARun.fieldPe rfl rfl rfl rfl Tryd.underlying30 rfl rfl sz9 (by decide) (Ev.plain rfl) rfl optS ?_
        refine ARun.loadPe rfl rfl rfl rfl Tryd.underlying9 rfl (Ev.opt rfl (fun h => h)) rfl optS ?_
        refine ARun.call rfl rfl rfl rfl cf26 (Ev.plain rfl) (.cons (Ev.opt rfl (fun h => h)) (.cons (Ev.opt rfl (fun h => h)) .nil)) rfl (fun hg => at_fn (errOf tRead (rdRow r p.n).1.p (rdRow r p.n).1.e) (rdRow r p.n).1.p (depth_errOf _ _ _)) optS ?_
        refine ARun.pick rfl rfl rfl rfl (Ev.opt rfl (fun h => h)) (Ev.plain rfl) (Ev.opt rfl (by first | exact pkF | exact pkF2 | simp +contextual)) (orB _ _) optS ?_
        refine ARun.pick rfl rfl rfl rfl (Ev.plain rfl) (Ev.opt rfl (by first | exact pkT | exact pkT2 | simp +contextual)) (Ev.plain rfl) (andB _ _) optN ?_
        refine ARun.storeL hG rfl rfl rfl sz30 (Ev.plain rfl) (Ev.plain rfl) rfl rfl rfl rfl rfl (Nat.le_of_ble_eq_true rfl) rfl rfl ?_
        refine ARun.move (.inr rfl) rfl rfl rfl (Ev.plain rfl) optN ?_
        refine ⟨by kernel_rfl, _, _, rfl, hG, ?_⟩
        refine thenA_n ?_
        refine AWP.ret ?_
        refine endF.toG (congrArg (fun c => H.set i (AO.box c)) (by rw [pcRead, if_neg h0, if_neg h1, if_pos h2])) ?_
        refine endF.many (.inr rfl) (rs := [.cell 6 30, .tmp 7]) rfl (.cons (.cellA rfl ((hG.at _ _).trans rfl) Tryd.underlying30 rfl sz30 rfl rfl) (.cons (.tmp rfl) .nil)) (by simp) ?_ (by rw [List.length_set]; exact hN)
        rw [pcRead, if_neg h0, if_neg h1, if_pos h2]; refine pair2 rfl ?_
        simp [code_errOf]; exact at_mem _ _ _
      · skip
        try simp [-List.getD_eq_getElem?_getD] at h2
        refine AWP.seq ?_
        refine AWP.region (fun _ => ?_)
        refine ARun.cmp rfl rfl rfl rfl (Ev.plain rfl) (Ev.plain rfl) rfl optN ?_
        refine ARun.move (.inr rfl) rfl rfl rfl (Ev.plain rfl) optN ?_
        refine ⟨_, _, rfl, hG, ?_⟩
        refine thenA_n ?_
        refine AWP.cond rfl (fun h3 => ?_) (fun h3 => ?_)
        · skip
          try simp [-List.getD_eq_getElem?_getD] at h3
          refine AWP.seq ?_
          refine AWP.region (fun _ => ?_)
          refine ARun.loadBoxA rfl rfl rfl rfl Tryd.underlying30 rfl sz30 (Ev.plain rfl) ((hG.at _ _).trans rfl) rfl rfl optN ?_
          refine ARun.call rfl rfl rfl rfl cf35 (Ev.plain rfl) (.cons (Ev.plain rfl) .nil) rfl (fun hg => flag_R r h) optN ?_
          refine ARun.move (.inl rfl) rfl rfl rfl (Ev.plain rfl) optN ?_
          refine ARun.extract rfl rfl rfl rfl (Ev.plain rfl) rfl optN ?_
          refine ARun.extract rfl rfl rfl rfl (Ev.plain rfl) rfl optN ?_
          refine ARun.alloc (j := 2) hG rfl rfl rfl rfl rfl zv30 rfl optN ?_
          refine ARun.storeL hG rfl rfl rfl sz30 (Ev.plain rfl) (Ev.plain rfl) rfl rfl rfl rfl rfl (Nat.le_of_ble_eq_true rfl) rfl rfl ?_
          refine ARun.move (.inr rfl) rfl rfl rfl (Ev.plain rfl) optN ?_
          refine ⟨_, _, rfl, hG, ?_⟩
          refine thenA_n ?_
          refine AWP.frzBox 15 hG rfl rfl rfl ?_
          refine AWP.draw mixed (by kernel_rfl) (fun _ => ?_)
          refine ARun.loadPeA rfl rfl rfl rfl Tryd.underlying30 rfl sz30 (Ev.plain rfl) rfl optN ?_
          refine ARun.move (.inl rfl) rfl rfl rfl (Ev.plain rfl) optN ?_
          refine ARun.callO hi hG rfl rfl rfl rfl cf16 (Ev.plain rfl) (.cons (Ev.plain rfl) .nil) rfl (flag_r r h _ _ (atO hi)) (by first | exact noH_aRd _ _ | (simp; done) | (simp [cAV]; done)) optN (fun hG => ?_)
          refine ARun.move (.inl rfl) rfl rfl rfl (Ev.plain rfl) optN ?_
          refine ARun.cmpB rfl rfl rfl rfl Tryd.underlying4 (Ev.plain rfl) (Ev.plain rfl) rfl optN ?_
          refine ARun.storeL hG rfl rfl rfl sz30 (Ev.plain rfl) (Ev.plain rfl) rfl rfl rfl rfl rfl (Nat.le_of_ble_eq_true rfl) rfl rfl ?_
          refine ARun.move (.inr rfl) rfl rfl rfl (Ev.plain rfl) optN ?_
          refine ⟨by kernel_rfl, _, _, rfl, hG, ?_⟩
          refine blockA_n ?_
          refine thenA_n ?_
          refine AWP.seq ?_
          refine AWP.region (fun _ => ?_)
          refine ARun.move (.inl rfl) rfl rfl rfl (Ev.plain rfl) optN ?_
          refine ARun.callR rfl rfl rfl rfl cf19 (Ev.plain rfl) (.cons (Ev.plain rfl) .nil) rfl (fun hg => FnM.keep (rdone_fn (rdFlag r).1) (atO hi)) optN ?_
          refine ARun.move (.inr rfl) rfl rfl rfl (Ev.plain rfl) optN ?_
          refine ⟨_, _, rfl, hG, ?_⟩
          refine thenA_n ?_
          refine AWP.seq ?_
          refine AWP.frzBox 4 hG rfl rfl rfl ?_
          refine AWP.draw mixed (by kernel_rfl) (fun _ => ?_)
          refine ARun.loadPeA rfl rfl rfl rfl Tryd.underlying30 rfl sz30 (Ev.plain rfl) rfl optN ?_
          refine ARun.move (.inl rfl) rfl rfl rfl (Ev.plain rfl) optN ?_
          refine ARun.move (.inl rfl) rfl rfl rfl (Ev.plain rfl) optN ?_
          refine ARun.move (.inl rfl) rfl rfl rfl (Ev.plain rfl) optS ?_
          refine ARun.call rfl rfl rfl rfl cf18 (Ev.plain rfl) (.cons (Ev.opt rfl (fun h => h)) .nil) rfl (fun hg => code_fn (errOf tRead (rdFlag r).1.p (rdFlag r).1.e)) optS ?_
          refine ARun.fieldPe rfl rfl rfl rfl Tryd.underlying30 rfl rfl sz3 (by decide) (Ev.plain rfl) rfl optS ?_
          refine ARun.loadPe rfl rfl rfl rfl Tryd.underlying3 rfl (Ev.opt rfl (fun h => h)) rfl optS ?_
          refine ARun.cmp rfl rfl rfl rfl (Ev.opt rfl (fun h => h)) (Ev.opt rfl (fun h => h)) rfl optS ?_
          refine ARun.pick rfl rfl rfl rfl (Ev.plain rfl) (Ev.opt rfl (by first | exact pkT | exact pkT2 | simp +contextual)) (Ev.plain rfl) (andB _ _) optN ?_
          refine ARun.move (.inl rfl) rfl rfl rfl (Ev.plain rfl) optN ?_
          refine ARun.move (.inl rfl) rfl rfl rfl (Ev.plain rfl) optS ?_
          refine ARun.callR rfl rfl rfl rfl cf20 (Ev.plain rfl) (.cons (Ev.opt rfl (fun h => h)) .nil) rfl (fun hg => FnM.keep (at_r (rdFlag r).1) (atO hi)) optS ?_
          refine ARun.fieldPe rfl rfl rfl rfl Tryd.underlying30 rfl rfl sz3 (by decide) (Ev.plain rfl) rfl optS ?_
          refine ARun.loadPe rfl rfl rfl rfl Tryd.underlying3 rfl (Ev.opt rfl (fun h => h)) rfl optS ?_
          refine ARun.cmp rfl rfl rfl rfl (Ev.opt rfl (fun h => h)) (Ev.opt rfl (fun h => h)) rfl optS ?_
          refine ARun.pick rfl rfl rfl rfl (Ev.plain rfl) (Ev.opt rfl (by first | exact pkT | exact pkT2 | simp +contextual)) (Ev.plain rfl) (andB _ _) optN ?_
          refine ARun.move (.inl rfl) rfl rfl rfl (Ev.plain rfl) optN ?_
          refine ARun.fieldPe rfl rfl rfl rfl Tryd.underlying30 rfl rfl sz3 (by decide) (Ev.plain rfl) rfl optS ?_
          refine ARun.loadPe rfl rfl rfl rfl Tryd.underlying3 rfl (Ev.opt rfl (fun h => h)) rfl optS ?_
          refine ARun.cmp rfl rfl rfl rfl (Ev.opt rfl (fun h => h)) (Ev.plain rfl) rfl optS ?_
          refine ARun.move (.inl rfl) rfl rfl rfl (Ev.opt rfl (fun h => h)) optS ?_
          refine ARun.move (.inl rfl) rfl rfl rfl (Ev.plain rfl) optS ?_
          refine ARun.fieldPe rfl rfl rfl rfl Tryd.underlying30 rfl rfl sz9 (by decide) (Ev.plain rfl) rfl optS ?_
          refine ARun.loadPe rfl rfl rfl rfl Tryd.underlying9 rfl (Ev.opt rfl (fun h => h)) rfl optS ?_
          refine ARun.call rfl rfl rfl rfl cf26 (Ev.plain rfl) (.cons (Ev.opt rfl (fun h => h)) (.cons (Ev.opt rfl (fun h => h)) .nil)) rfl (fun hg => at_fn (errOf tRead (rdFlag r).1.p (rdFlag r).1.e) (rdFlag r).1.p (depth_errOf _ _ _)) optS ?_
          refine ARun.pick rfl rfl rfl rfl (Ev.opt rfl (fun h => h)) (Ev.plain rfl) (Ev.opt rfl (by first | exact pkF | exact pkF2 | simp +contextual)) (orB _ _) optS ?_
          refine ARun.pick rfl rfl rfl rfl (Ev.plain rfl) (Ev.opt rfl (by first | exact pkT | exact pkT2 | simp +contextual)) (Ev.plain rfl) (andB _ _) optN ?_
          refine ARun.storeL hG rfl rfl rfl sz30 (Ev.plain rfl) (Ev.plain rfl) rfl rfl rfl rfl rfl (Nat.le_of_ble_eq_true rfl) rfl rfl ?_
          refine ARun.move (.inr rfl) rfl rfl rfl (Ev.plain rfl) optN ?_
          refine ⟨by kernel_rfl, _, _, rfl, hG, ?_⟩
          refine thenA_n ?_
          refine AWP.ret ?_
          refine endF.toG (congrArg (fun c => H.set i (AO.box c)) (by rw [pcRead, if_neg h0, if_neg h1, if_neg h2, if_pos h3])) ?_
          refine endF.many (.inr rfl) (rs := [.cell 6 30, .tmp 7]) rfl (.cons (.cellA rfl ((hG.at _ _).trans rfl) Tryd.underlying30 rfl sz30 rfl rfl) (.cons (.tmp rfl) .nil)) (by simp) ?_ (by rw [List.length_set]; exact hN)
          rw [pcRead, if_neg h0, if_neg h1, if_neg h2, if_pos h3]; refine pair2 rfl ?_
          simp [code_errOf]; exact at_mem _ _ _
        · skip
          try simp [-List.getD_eq_getElem?_getD] at h3
          refine AWP.seq ?_
          refine AWP.region (fun _ => ?_)
          refine ARun.cmp rfl rfl rfl rfl (Ev.plain rfl) (Ev.plain rfl) rfl optN ?_
          refine ARun.move (.inr rfl) rfl rfl rfl (Ev.plain rfl) optN ?_
          refine ⟨_, _, rfl, hG, ?_⟩
          refine thenA_n ?_
          refine AWP.cond rfl (fun h4 => ?_) (fun h4 => ?_)
          · skip
            try simp [-List.getD_eq_getElem?_getD] at h4
            refine AWP.seq ?_
            refine AWP.region (fun _ => ?_)
            refine ARun.loadBoxA rfl rfl rfl rfl Tryd.underlying30 rfl sz30 (Ev.plain rfl) ((hG.at _ _).trans rfl) rfl rfl optN ?_
            refine ARun.call rfl rfl rfl rfl cf36 (Ev.plain rfl) (.cons (Ev.plain rfl) .nil) rfl (fun hg => end_R r) optN ?_
            refine ARun.storeL hG rfl rfl rfl sz30 (Ev.plain rfl) (Ev.plain rfl) rfl rfl rfl rfl rfl (Nat.le_of_ble_eq_true rfl) rfl rfl ?_
            refine ⟨_, _, rfl, hG, ?_⟩
            refine thenA_n ?_
            refine AWP.region (fun _ => ?_)
            refine ARun.move (.inl rfl) rfl rfl rfl (Ev.plain rfl) optN ?_
            refine ARun.callO hi hG rfl rfl rfl rfl cf17 (Ev.plain rfl) (.cons (Ev.plain rfl) .nil) rfl (end_r r h _ _ (atO hi)) (by first | exact noH_aRd _ _ | (simp; done) | (simp [cAV]; done)) optN (fun hG => ?_)
            refine ⟨_, _, rfl, hG, ?_⟩
            refine blockA_n ?_
            refine thenA_n ?_
            refine AWP.seq ?_
            refine AWP.region (fun _ => ?_)
            refine ARun.move (.inl rfl) rfl rfl rfl (Ev.plain rfl) optN ?_
            refine ARun.callR rfl rfl rfl rfl cf19 (Ev.plain rfl) (.cons (Ev.plain rfl) .nil) rfl (fun hg => FnM.keep (rdone_fn (rdEnd r)) (atO hi)) optN ?_
            refine ARun.move (.inr rfl) rfl rfl rfl (Ev.plain rfl) optN ?_
            refine ⟨_, _, rfl, hG, ?_⟩
            refine thenA_n ?_
            refine AWP.seq ?_
            refine AWP.frzBox 4 hG rfl rfl rfl ?_
            refine AWP.draw mixed (by kernel_rfl) (fun _ => ?_)
            refine ARun.loadPeA rfl rfl rfl rfl Tryd.underlying30 rfl sz30 (Ev.plain rfl) rfl optN ?_
            refine ARun.move (.inl rfl) rfl rfl rfl (Ev.plain rfl) optN ?_
            refine ARun.move (.inl rfl) rfl rfl rfl (Ev.plain rfl) optN ?_
            refine ARun.move (.inl rfl) rfl rfl rfl (Ev.plain rfl) optS ?_
            refine ARun.call rfl rfl rfl rfl cf18 (Ev.plain rfl) (.cons (Ev.opt rfl (fun h => h)) .nil) rfl (fun hg => code_fn (errOf tRead (rdEnd r).p (rdEnd r).e)) optS ?_
            refine ARun.fieldPe rfl rfl rfl rfl Tryd.underlying30 rfl rfl sz3 (by decide) (Ev.plain rfl) rfl optS ?_
            refine ARun.loadPe rfl rfl rfl rfl Tryd.underlying3 rfl (Ev.opt rfl (fun h => h)) rfl optS ?_
            refine ARun.cmp rfl rfl rfl rfl (Ev.opt rfl (fun h => h)) (Ev.opt rfl (fun h => h)) rfl optS ?_
            refine ARun.pick rfl rfl rfl rfl (Ev.plain rfl) (Ev.opt rfl (by first | exact pkT | exact pkT2 | simp +contextual)) (Ev.plain rfl) (andB _ _) optN ?_
            refine ARun.move (.inl rfl) rfl rfl rfl (Ev.plain rfl) optN ?_
            refine ARun.move (.inl rfl) rfl rfl rfl (Ev.plain rfl) optS ?_
            refine ARun.callR rfl rfl rfl rfl cf20 (Ev.plain rfl) (.cons (Ev.opt rfl (fun h => h)) .nil) rfl (fun hg => FnM.keep (at_r (rdEnd r)) (atO hi)) optS ?_
            refine ARun.fieldPe rfl rfl rfl rfl Tryd.underlying30 rfl rfl sz3 (by decide) (Ev.plain rfl) rfl optS ?_
            refine ARun.loadPe rfl rfl rfl rfl Tryd.underlying3 rfl (Ev.opt rfl (fun h => h)) rfl optS ?_
            refine ARun.cmp rfl rfl rfl rfl (Ev.opt rfl (fun h => h)) (Ev.opt rfl (fun h => h)) rfl optS ?_
            refine ARun.pick rfl rfl rfl rfl (Ev.plain rfl) (Ev.opt rfl (by first | exact pkT | exact pkT2 | simp +contextual)) (Ev.plain rfl) (andB _ _) optN ?_
            refine ARun.move (.inl rfl) rfl rfl rfl (Ev.plain rfl) optN ?_
            refine ARun.fieldPe rfl rfl rfl rfl Tryd.underlying30 rfl rfl sz3 (by decide) (Ev.plain rfl) rfl optS ?_
            refine ARun.loadPe rfl rfl rfl rfl Tryd.underlying3 rfl (Ev.opt rfl (fun h => h)) rfl optS ?_
            refine ARun.cmp rfl rfl rfl rfl (Ev.opt rfl (fun h => h)) (Ev.plain rfl) rfl optS ?_
            refine ARun.move (.inl rfl) rfl rfl rfl (Ev.opt rfl (fun h => h)) optS ?_
            refine ARun.move (.inl rfl) rfl rfl rfl (Ev.plain rfl) optS ?_
            refine ARun.fieldPe rfl rfl rfl rfl Tryd.underlying30 rfl rfl sz9 (by decide) (Ev.plain rfl) rfl optS ?_
            refine ARun.loadPe rfl rfl rfl rfl Tryd.underlying9 rfl (Ev.opt rfl (fun h => h)) rfl optS ?_
            refine ARun.call rfl rfl rfl rfl cf26 (Ev.plain rfl) (.cons (Ev.opt rfl (fun h => h)) (.cons (Ev.opt rfl (fun h => h)) .nil)) rfl (fun hg => at_fn (errOf tRead (rdEnd r).p (rdEnd r).e) (rdEnd r).p (depth_errOf _ _ _)) optS ?_
            refine ARun.pick rfl rfl rfl rfl (Ev.opt rfl (fun h => h)) (Ev.plain rfl) (Ev.opt rfl (by first | exact pkF | exact pkF2 | simp +contextual)) (orB _ _) optS ?_
            refine ARun.pick rfl rfl rfl rfl (Ev.plain rfl) (Ev.opt rfl (by first | exact pkT | exact pkT2 | simp +contextual)) (Ev.plain rfl) (andB _ _) optN ?_
            refine ARun.storeL hG rfl rfl rfl sz30 (Ev.plain rfl) (Ev.plain rfl) rfl rfl rfl rfl rfl (Nat.le_of_ble_eq_true rfl) rfl rfl ?_
            refine ARun.move (.inr rfl) rfl rfl rfl (Ev.plain rfl) optN ?_
            refine ⟨by kernel_rfl, _, _, rfl, hG, ?_⟩
            refine thenA_n ?_
            refine AWP.ret ?_
            refine endF.toG (congrArg (fun c => H.set i (AO.box c)) (by rw [pcRead, if_neg h0, if_neg h1, if_neg h2, if_neg h3, if_pos h4])) ?_
            refine endF.many (.inr rfl) (rs := [.cell 6 30, .tmp 7]) rfl (.cons (.cellA rfl ((hG.at _ _).trans rfl) Tryd.underlying30 rfl sz30 rfl rfl) (.cons (.tmp rfl) .nil)) (by simp) ?_ (by rw [List.length_set]; exact hN)
            rw [pcRead, if_neg h0, if_neg h1, if_neg h2, if_neg h3, if_pos h4]; refine pair2 rfl ?_
            simp [code_errOf]; exact at_mem _ _ _
          · skip
            try simp [-List.getD_eq_getElem?_getD] at h4
            refine AWP.skip ?_
            refine blockA_n ?_
            refine thenA_n ?_
            refine AWP.seq ?_
            refine AWP.region (fun _ => ?_)
            refine ARun.move (.inl rfl) rfl rfl rfl (Ev.plain rfl) optN ?_
            refine ARun.callR rfl rfl rfl rfl cf19 (Ev.plain rfl) (.cons (Ev.plain rfl) .nil) rfl (fun hg => FnM.keep (rdone_fn r) (atO hi)) optN ?_
            refine ARun.move (.inr rfl) rfl rfl rfl (Ev.plain rfl) optN ?_
            refine ⟨_, _, rfl, hG, ?_⟩
            refine thenA_n ?_
            refine AWP.seq ?_
            refine AWP.frzBox 4 hG rfl rfl rfl ?_
            refine AWP.draw mixed (by kernel_rfl) (fun _ => ?_)
            refine ARun.loadPeA rfl rfl rfl rfl Tryd.underlying30 rfl sz30 (Ev.plain rfl) rfl optN ?_
            refine ARun.move (.inl rfl) rfl rfl rfl (Ev.plain rfl) optN ?_
            refine ARun.move (.inl rfl) rfl rfl rfl (Ev.plain rfl) optN ?_
            refine ARun.move (.inl rfl) rfl rfl rfl (Ev.plain rfl) optS ?_
            refine ARun.call rfl rfl rfl rfl cf18 (Ev.plain rfl) (.cons (Ev.opt rfl (fun h => h)) .nil) rfl (fun hg => code_fn (errOf tRead r.p r.e)) optS ?_
            refine ARun.fieldPe rfl rfl rfl rfl Tryd.underlying30 rfl rfl sz3 (by decide) (Ev.plain rfl) rfl optS ?_
            refine ARun.loadPe rfl rfl rfl rfl Tryd.underlying3 rfl (Ev.opt rfl (fun h => h)) rfl optS ?_
            refine ARun.cmp rfl rfl rfl rfl (Ev.opt rfl (fun h => h)) (Ev.opt rfl (fun h => h)) rfl optS ?_
            refine ARun.pick rfl rfl rfl rfl (Ev.plain rfl) (Ev.opt rfl (by first | exact pkT | exact pkT2 | simp +contextual)) (Ev.plain rfl) (andB _ _) optN ?_
            refine ARun.move (.inl rfl) rfl rfl rfl (Ev.plain rfl) optN ?_
            refine ARun.move (.inl rfl) rfl rfl rfl (Ev.plain rfl) optS ?_
            refine ARun.callR rfl rfl rfl rfl cf20 (Ev.plain rfl) (.cons (Ev.opt rfl (fun h => h)) .nil) rfl (fun hg => FnM.keep (at_r r) (atO hi)) optS ?_
            refine ARun.fieldPe rfl rfl rfl rfl Tryd.underlying30 rfl rfl sz3 (by decide) (Ev.plain rfl) rfl optS ?_
            refine ARun.loadPe rfl rfl rfl rfl Tryd.underlying3 rfl (Ev.opt rfl (fun h => h)) rfl optS ?_
            refine ARun.cmp rfl rfl rfl rfl (Ev.opt rfl (fun h => h)) (Ev.opt rfl (fun h => h)) rfl optS ?_
            refine ARun.pick rfl rfl rfl rfl (Ev.plain rfl) (Ev.opt rfl (by first | exact pkT | exact pkT2 | simp +contextual)) (Ev.plain rfl) (andB _ _) optN ?_
            refine ARun.move (.inl rfl) rfl rfl rfl (Ev.plain rfl) optN ?_
            refine ARun.fieldPe rfl rfl rfl rfl Tryd.underlying30 rfl rfl sz3 (by decide) (Ev.plain rfl) rfl optS ?_
            refine ARun.loadPe rfl rfl rfl rfl Tryd.underlying3 rfl (Ev.opt rfl (fun h => h)) rfl optS ?_
            refine ARun.cmp rfl rfl rfl rfl (Ev.opt rfl (fun h => h)) (Ev.plain rfl) rfl optS ?_
            refine ARun.move (.inl rfl) rfl rfl rfl (Ev.opt rfl (fun h => h)) optS ?_
            refine ARun.move (.inl rfl) rfl rfl rfl (Ev.plain rfl) optS ?_
            refine ARun.fieldPe rfl rfl rfl rfl Tryd.underlying30 rfl rfl sz9 (by decide) (Ev.plain rfl) rfl optS ?_
            refine ARun.loadPe rfl rfl rfl rfl Tryd.underlying9 rfl (Ev.opt rfl (fun h => h)) rfl optS ?_
            refine ARun.call rfl rfl rfl rfl cf26 (Ev.plain rfl) (.cons (Ev.opt rfl (fun h => h)) (.cons (Ev.opt rfl (fun h => h)) .nil)) rfl (fun hg => at_fn (errOf tRead r.p r.e) r.p (depth_errOf _ _ _)) optS ?_
            refine ARun.pick rfl rfl rfl rfl (Ev.opt rfl (fun h => h)) (Ev.plain rfl) (Ev.opt rfl (by first | exact pkF | exact pkF2 | simp +contextual)) (orB _ _) optS ?_
            refine ARun.pick rfl rfl rfl rfl (Ev.plain rfl) (Ev.opt rfl (by first | exact pkT | exact pkT2 | simp +contextual)) (Ev.plain rfl) (andB _ _) optN ?_
            refine ARun.storeL hG rfl rfl rfl sz30 (Ev.plain rfl) (Ev.plain rfl) rfl rfl rfl rfl rfl (Nat.le_of_ble_eq_true rfl) rfl rfl ?_
            refine ARun.move (.inr rfl) rfl rfl rfl (Ev.plain rfl) optN ?_
            refine ⟨by kernel_rfl, _, _, rfl, hG, ?_⟩
            refine thenA_n ?_
            refine AWP.ret ?_
            refine endF.toG (congrArg (fun c => H.set i (AO.box c)) (by rw [pcRead, if_neg h0, if_neg h1, if_neg h2, if_neg h3, if_neg h4])) ?_
            refine endF.many (.inr rfl) (rs := [.cell 6 30, .tmp 7]) rfl (.cons (.cellA rfl ((hG.at _ _).trans rfl) Tryd.underlying30 rfl sz30 rfl rfl) (.cons (.tmp rfl) .nil)) (by simp) ?_ (by rw [List.length_set]; exact hN)
            rw [pcRead, if_neg h0, if_neg h1, if_neg h2, if_neg h3, if_neg h4]; refine pair2 rfl ?_
            simp [code_errOf]; exact at_mem _ _ _
set_option maxHeartbeats 1000000 in
theorem awake_fn  : FnP Tryd.prog 8 [] (.bool true) := by
  refine FnP.of Tryd.func8 rfl rfl (by simp) (by simp [AV.cells, aIn, aOut]) (fun G hG => ?_)
  have hN : NoH G.length (.bool true) := (by simp [AV.cells, aIn, aOut])
  refine AWP.seq ?_
  refine AWP.region (fun _ => ?_)
  refine ARun.move (.inr rfl) rfl rfl rfl (Ev.plain rfl) optN ?_
  refine ⟨_, _, rfl, hG, ?_⟩
  refine thenA_n ?_
  refine AWP.seq ?_
  refine AWP.region (fun _ => ?_)
  refine ARun.allocBld (j := 0) (e := 5) hG rfl rfl rfl rfl rfl zv52 rfl rfl rfl optN ?_
  refine ⟨_, _, rfl, hG, ?_⟩
  refine thenA_n ?_
  refine AWP.seq ?_
  refine AWP.region (fun _ => ?_)
  refine ARun.buildSl rfl rfl rfl rfl Tryd.underlying33 sz3 zv3 rfl (by decide) (.cons (Ev.plain rfl) .nil) rfl rfl rfl rfl (by decide) rfl rfl optN ?_
  refine ARun.callSet (j := 0) hG rfl rfl rfl rfl cf21 (Ev.plain rfl) (.cons (Ev.plain rfl) (.cons (Ev.plain rfl) .nil)) rfl (nums_w WrS.new [7] (by decide) (by decide) (fit_one (by decide)) _ _ ((hG.at _ _).trans rfl)) rfl optN ?_
  refine ⟨_, _, rfl, hG, ?_⟩
  refine thenA_n ?_
  refine AWP.seq ?_
  refine AWP.region (fun _ => ?_)
  refine ARun.callSet (j := 0) hG rfl rfl rfl rfl cf22 (Ev.plain rfl) (.cons (Ev.plain rfl) (.cons (Ev.plain rfl) .nil)) rfl (text_w (wrNums WrS.new [7]) ⟨#[104, 105]⟩ (by decide) (by decide +kernel) _ _ ((hG.at _ _).trans rfl)) rfl optN ?_
  refine ⟨_, _, rfl, hG, ?_⟩
  refine thenA_n ?_
  refine AWP.seq ?_
  refine AWP.region (fun _ => ?_)
  refine ARun.callSet (j := 0) hG rfl rfl rfl rfl cf25 (Ev.plain rfl) (.cons (Ev.plain rfl) .nil) rfl (done_w (wrText (wrNums WrS.new [7]) ⟨#[104, 105]⟩) _ _ ((hG.at _ _).trans rfl)) rfl optN ?_
  refine ARun.move (.inl rfl) rfl rfl rfl (Ev.plain rfl) optN ?_
  refine ARun.extract rfl rfl rfl rfl (Ev.plain rfl) rfl optN ?_
  refine ARun.extract rfl rfl rfl rfl (Ev.plain rfl) rfl optN ?_
  refine ARun.move (.inr rfl) rfl rfl rfl (Ev.plain rfl) optN ?_
  refine ARun.move (.inr rfl) rfl rfl rfl (Ev.plain rfl) optN ?_
  refine ⟨_, _, rfl, hG, ?_⟩
  refine thenA_n ?_
  refine AWP.seq ?_
  refine AWP.seq ?_
  refine AWP.region (fun _ => ?_)
  refine ARun.move (.inl rfl) rfl rfl rfl (Ev.plain rfl) optN ?_
  refine ARun.cmpS rfl rfl rfl rfl (Ev.plain rfl) (Ev.plain rfl) rfl optN ?_
  refine ARun.move (.inl rfl) rfl rfl rfl (Ev.plain rfl) optN ?_
  refine ARun.move (.inl rfl) rfl rfl rfl (Ev.plain rfl) optS ?_
  refine ARun.isNil rfl rfl rfl rfl Tryd.underlying44 (Ev.opt rfl (fun h => h)) (fun hg => by first | rfl | exact nilA_aEr _) (.inr ⟨rfl, rfl⟩) optS ?_
  refine ARun.pick rfl rfl rfl rfl (Ev.plain rfl) (Ev.plain rfl) (Ev.opt rfl (by first | exact pkF | exact pkF2 | simp +contextual)) (orB _ _) optN ?_
  refine ⟨_, _, rfl, hG, ?_⟩
  refine thenA_n ?_
  refine AWP.cond rfl (fun h0 => ?_) (fun h0 => ?_)
  · skip
    exact absurd h0 (by decide +kernel)
  · skip
    skip
    refine AWP.skip ?_
    refine thenA_n ?_
    refine AWP.seq ?_
    refine AWP.region (fun _ => ?_)
    refine ARun.move (.inl rfl) rfl rfl rfl (Ev.plain rfl) optN ?_
    refine ARun.callNewB (j := 1) hG rfl rfl rfl rfl rfl cf10 (Ev.plain rfl) (.cons (Ev.plain rfl) .nil) rfl (newr_fn (wrText (wrNums WrS.new [7]) ⟨#[104, 105]⟩).out) optN ?_
    refine ARun.move (.inr rfl) rfl rfl rfl (Ev.plain rfl) optN ?_
    refine ⟨_, _, rfl, hG, ?_⟩
    refine thenA_n ?_
    refine AWP.seq ?_
    refine AWP.region (fun _ => ?_)
    refine ARun.move (.inl rfl) rfl rfl rfl (Ev.plain rfl) optN ?_
    refine ARun.callSet (j := 1) hG rfl rfl rfl rfl cf12 (Ev.plain rfl) (.cons (Ev.plain rfl) (.cons (Ev.plain rfl) .nil)) rfl (num_r (RdS.new (wrText (wrNums WrS.new [7]) ⟨#[104, 105]⟩).out) 6 (rd_new_ok (by decide +kernel)) _ _ ((hG.at _ _).trans rfl)) rfl optN ?_
    refine ARun.move (.inr rfl) rfl rfl rfl (Ev.plain rfl) optN ?_
    refine ⟨_, _, rfl, hG, ?_⟩
    refine thenA_n ?_
    refine AWP.seq ?_
    refine AWP.region (fun _ => ?_)
    refine ARun.move (.inr rfl) rfl rfl rfl (Ev.plain rfl) optN ?_
    refine ⟨_, _, rfl, hG, ?_⟩
    refine thenA_n ?_
    refine AWP.seq ?_
    refine AWP.region (fun _ => ?_)
    refine ARun.move (.inr rfl) rfl rfl rfl (Ev.plain rfl) optN ?_
    refine ⟨_, _, rfl, hG, ?_⟩
    refine thenA_n ?_
    refine AWP.seq ?_
    refine AWP.region (fun _ => ?_)
    refine ARun.move (.inl rfl) rfl rfl rfl (Ev.plain rfl) optN ?_
    refine ARun.call rfl rfl rfl rfl cf25 (Ev.plain rfl) (.cons (Ev.plain rfl) .nil) rfl (fun hg => done_nil) optN ?_
    refine ARun.move (.inl rfl) rfl rfl rfl (Ev.plain rfl) optN ?_
    refine ARun.extract rfl rfl rfl rfl (Ev.plain rfl) rfl optN ?_
    refine ARun.extract rfl rfl rfl rfl (Ev.plain rfl) rfl optN ?_
    refine ARun.move (.inr rfl) rfl rfl rfl (Ev.plain rfl) optN ?_
    refine ARun.move (.inr rfl) rfl rfl rfl (Ev.plain rfl) optN ?_
    refine ⟨_, _, rfl, hG, ?_⟩
    refine thenA_n ?_
    refine AWP.seq ?_
    refine AWP.region (fun _ => ?_)
    refine ARun.move (.inl rfl) rfl rfl rfl (Ev.plain rfl) optN ?_
    refine ARun.cmp rfl rfl rfl rfl (Ev.plain rfl) (Ev.plain rfl) rfl optN ?_
    refine ARun.move (.inl rfl) rfl rfl rfl (Ev.plain rfl) optN ?_
    refine ARun.move (.inl rfl) rfl rfl rfl (Ev.plain rfl) optS ?_
    refine ARun.callR rfl rfl rfl rfl cf20 (Ev.plain rfl) (.cons (Ev.opt rfl (fun h => h)) .nil) rfl (fun hg => FnM.keep (at_r (rdNum (RdS.new (wrText (wrNums WrS.new [7]) ⟨#[104, 105]⟩).out) 6).1) ((hG.at _ _).trans rfl)) optS ?_
    refine ARun.cmp rfl rfl rfl rfl (Ev.opt rfl (fun h => h)) (Ev.plain rfl) rfl optS ?_
    refine ARun.pick rfl rfl rfl rfl (Ev.plain rfl) (Ev.opt rfl (by first | exact pkT | exact pkT2 | simp +contextual)) (Ev.plain rfl) (andB _ _) optN ?_
    refine ARun.move (.inl rfl) rfl rfl rfl (Ev.plain rfl) optN ?_
    refine ARun.move (.inl rfl) rfl rfl rfl (Ev.plain rfl) optS ?_
    refine ARun.callR rfl rfl rfl rfl cf19 (Ev.plain rfl) (.cons (Ev.opt rfl (fun h => h)) .nil) rfl (fun hg => FnM.keep (rdone_fn (rdNum (RdS.new (wrText (wrNums WrS.new [7]) ⟨#[104, 105]⟩).out) 6).1) ((hG.at _ _).trans rfl)) optS ?_
    refine ARun.call rfl rfl rfl rfl cf18 (Ev.plain rfl) (.cons (Ev.opt rfl (fun h => h)) .nil) rfl (fun hg => code_fn (errOf tRead (rdNum (RdS.new (wrText (wrNums WrS.new [7]) ⟨#[104, 105]⟩).out) 6).1.p (rdNum (RdS.new (wrText (wrNums WrS.new [7]) ⟨#[104, 105]⟩).out) 6).1.e)) optS ?_
    refine ARun.cmp rfl rfl rfl rfl (Ev.opt rfl (fun h => h)) (Ev.plain rfl) rfl optS ?_
    refine ARun.pick rfl rfl rfl rfl (Ev.plain rfl) (Ev.opt rfl (by first | exact pkT | exact pkT2 | simp +contextual)) (Ev.plain rfl) (andB _ _) optN ?_
    refine ARun.move (.inl rfl) rfl rfl rfl (Ev.plain rfl) optN ?_
    refine ARun.move (.inl rfl) rfl rfl rfl (Ev.plain rfl) optS ?_
    refine ARun.callR rfl rfl rfl rfl cf19 (Ev.plain rfl) (.cons (Ev.opt rfl (fun h => h)) .nil) rfl (fun hg => FnM.keep (rdone_fn (rdNum (RdS.new (wrText (wrNums WrS.new [7]) ⟨#[104, 105]⟩).out) 6).1) ((hG.at _ _).trans rfl)) optS ?_
    refine ARun.call rfl rfl rfl rfl cf26 (Ev.plain rfl) (.cons (Ev.opt rfl (fun h => h)) (.cons (Ev.plain rfl) .nil)) rfl (fun hg => at_fn (errOf tRead (rdNum (RdS.new (wrText (wrNums WrS.new [7]) ⟨#[104, 105]⟩).out) 6).1.p (rdNum (RdS.new (wrText (wrNums WrS.new [7]) ⟨#[104, 105]⟩).out) 6).1.e) tNum (depth_errOf _ _ _)) optS ?_
    refine ARun.pick rfl rfl rfl rfl (Ev.plain rfl) (Ev.opt rfl (by first | exact pkT | exact pkT2 | simp +contextual)) (Ev.plain rfl) (andB _ _) optN ?_
    refine ARun.move (.inl rfl) rfl rfl rfl (Ev.plain rfl) optN ?_
    refine ARun.move (.inl rfl) rfl rfl rfl (Ev.plain rfl) optS ?_
    refine ARun.callR rfl rfl rfl rfl cf19 (Ev.plain rfl) (.cons (Ev.opt rfl (fun h => h)) .nil) rfl (fun hg => FnM.keep (rdone_fn (rdNum (RdS.new (wrText (wrNums WrS.new [7]) ⟨#[104, 105]⟩).out) 6).1) ((hG.at _ _).trans rfl)) optS ?_
    refine ARun.call rfl rfl rfl rfl cf27 (Ev.plain rfl) (.cons (Ev.opt rfl (fun h => h)) .nil) rfl (fun hg => text_fn (errOf tRead (rdNum (RdS.new (wrText (wrNums WrS.new [7]) ⟨#[104, 105]⟩).out) 6).1.p (rdNum (RdS.new (wrText (wrNums WrS.new [7]) ⟨#[104, 105]⟩).out) 6).1.e) (depth_errOf _ _ _) (fits_errOf _ _ _ (by decide +kernel)) (by decide +kernel)) optS ?_
    refine ARun.cmpS rfl rfl rfl rfl (Ev.opt rfl (fun h => h)) (Ev.plain rfl) rfl optS ?_
    refine ARun.pick rfl rfl rfl rfl (Ev.plain rfl) (Ev.opt rfl (by first | exact pkT | exact pkT2 | simp +contextual)) (Ev.plain rfl) (andB _ _) optN ?_
    refine ARun.move (.inl rfl) rfl rfl rfl (Ev.plain rfl) optN ?_
    refine ARun.move (.inl rfl) rfl rfl rfl (Ev.plain rfl) optS ?_
    refine ARun.call rfl rfl rfl rfl cf19 (Ev.plain rfl) (.cons (Ev.opt rfl (fun h => h)) .nil) rfl (fun hg => rdone_nil) optS ?_
    refine ARun.call rfl rfl rfl rfl cf18 (Ev.plain rfl) (.cons (Ev.opt rfl (fun h => h)) .nil) rfl (fun hg => code_fn (.wr tRead (.no 1))) optS ?_
    refine ARun.cmp rfl rfl rfl rfl (Ev.opt rfl (fun h => h)) (Ev.plain rfl) rfl optS ?_
    refine ARun.pick rfl rfl rfl rfl (Ev.plain rfl) (Ev.opt rfl (by first | exact pkT | exact pkT2 | simp +contextual)) (Ev.plain rfl) (andB _ _) optN ?_
    refine ARun.move (.inl rfl) rfl rfl rfl (Ev.plain rfl) optN ?_
    refine ARun.move (.inl rfl) rfl rfl rfl (Ev.plain rfl) optS ?_
    refine ARun.call rfl rfl rfl rfl cf12 (Ev.plain rfl) (.cons (Ev.opt rfl (fun h => h)) (.cons (Ev.plain rfl) .nil)) rfl (fun hg => num_nil 9) optS ?_
    refine ARun.cmp rfl rfl rfl rfl (Ev.opt rfl (fun h => h)) (Ev.plain rfl) rfl optS ?_
    refine ARun.pick rfl rfl rfl rfl (Ev.plain rfl) (Ev.opt rfl (by first | exact pkT | exact pkT2 | simp +contextual)) (Ev.plain rfl) (andB _ _) optN ?_
    refine ARun.move (.inl rfl) rfl rfl rfl (Ev.plain rfl) optN ?_
    refine ARun.move (.inl rfl) rfl rfl rfl (Ev.plain rfl) optS ?_
    refine ARun.call rfl rfl rfl rfl cf18 (Ev.plain rfl) (.cons (Ev.opt rfl (fun h => h)) .nil) rfl (fun hg => code_fn (.wr tWrite (.no 1))) optS ?_
    refine ARun.cmp rfl rfl rfl rfl (Ev.opt rfl (fun h => h)) (Ev.plain rfl) rfl optS ?_
    refine ARun.pick rfl rfl rfl rfl (Ev.plain rfl) (Ev.opt rfl (by first | exact pkT | exact pkT2 | simp +contextual)) (Ev.plain rfl) (andB _ _) optN ?_
    refine ARun.move (.inr rfl) rfl rfl rfl (Ev.plain rfl) optN ?_
    refine ⟨_, _, rfl, hG, ?_⟩
    refine thenA_n ?_
    refine AWP.ret ?_
    refine endF.one (.inr rfl) rfl (.tmp rfl) ?_ hN
    refine congrArg AV.bool ?_
    decide +kernel
set_option maxHeartbeats 1000000 in
theorem lays_fn (l : List Pc) (hgd : ∀ x, x ∈ l → goodPc x) : FnP Tryd.prog 3 [.sl (l.map aPc)] (.bool true) := by
  refine FnP.of Tryd.func3 rfl rfl (by simp) (by simp [AV.cells, aIn, aOut]) (fun G hG => ?_)
  have hN : NoH G.length (.bool true) := (by simp [AV.cells, aIn, aOut])
  refine AWP.seq ?_
  refine AWP.region (fun _ => ?_)
  refine ARun.move (.inr rfl) rfl rfl rfl (Ev.plain rfl) optN ?_
  refine ⟨_, _, rfl, hG, ?_⟩
  refine thenA_n ?_
  refine AWP.seq ?_
  refine AWP.seq ?_
  refine AWP.region (fun _ => ?_)
  refine ARun.move (.inl rfl) rfl rfl rfl (Ev.plain rfl) optN ?_
  refine ARun.call rfl rfl rfl rfl cf7 (Ev.plain rfl) (.cons (Ev.plain rfl) .nil) rfl (fun hg => few_fn l) optN ?_
  refine ARun.not rfl rfl rfl rfl (Ev.plain rfl) optN ?_
  refine ⟨_, _, rfl, hG, ?_⟩
  refine thenA_n ?_
  refine AWP.cond rfl (fun h0 => ?_) (fun h0 => ?_)
  · skip
    try simp [-List.getD_eq_getElem?_getD] at h0
    refine AWP.seq ?_
    refine AWP.region (fun _ => ?_)
    refine ARun.call rfl rfl rfl rfl cf8 (Ev.plain rfl) .nil rfl (fun hg => awake_fn) optN ?_
    refine ARun.move (.inr rfl) rfl rfl rfl (Ev.plain rfl) optN ?_
    refine ⟨_, _, rfl, hG, ?_⟩
    refine thenA_n ?_
    refine AWP.ret ?_
    refine thenA_r ?_
    refine endF.one (.inr rfl) rfl (.tmp rfl) ?_ hN
    rfl
  · skip
    simp at h0
    refine AWP.skip ?_
    refine thenA_n ?_
    refine AWP.seq ?_
    refine AWP.region (fun _ => ?_)
    refine ARun.move (.inl rfl) rfl rfl rfl (Ev.plain rfl) optN ?_
    refine ARun.call rfl rfl rfl rfl cf9 (Ev.plain rfl) (.cons (Ev.plain rfl) .nil) rfl (fun hg => lay_fn l h0 hgd) optN ?_
    refine ARun.move (.inl rfl) rfl rfl rfl (Ev.plain rfl) optN ?_
    refine ARun.extract rfl rfl rfl rfl (Ev.plain rfl) rfl optN ?_
    refine ARun.extract rfl rfl rfl rfl (Ev.plain rfl) rfl optN ?_
    refine ARun.move (.inr rfl) rfl rfl rfl (Ev.plain rfl) optN ?_
    refine ARun.move (.inr rfl) rfl rfl rfl (Ev.plain rfl) optN ?_
    refine ⟨_, _, rfl, hG, ?_⟩
    refine thenA_n ?_
    refine AWP.seq ?_
    refine AWP.region (fun _ => ?_)
    refine ARun.move (.inl rfl) rfl rfl rfl (Ev.plain rfl) optN ?_
    refine ARun.move (.inl rfl) rfl rfl rfl (Ev.plain rfl) optN ?_
    refine ARun.call rfl rfl rfl rfl cf8 (Ev.plain rfl) .nil rfl (fun hg => awake_fn) optS ?_
    refine ARun.pick rfl rfl rfl rfl (Ev.plain rfl) (Ev.opt rfl (by first | exact pkT | exact pkT2 | simp +contextual)) (Ev.plain rfl) (andB _ _) optN ?_
    refine ARun.move (.inr rfl) rfl rfl rfl (Ev.plain rfl) optN ?_
    refine ⟨_, _, rfl, hG, ?_⟩
    refine thenA_n ?_
    refine AWP.ret ?_
    refine endF.one (.inr rfl) rfl (.tmp rfl) ?_ hN
    rfl
set_option maxHeartbeats 1000000 in
theorem reads_fn (s : ByteArray) (l : List Pc) (hgd : ∀ x, x ∈ l → goodPc x) : FnP Tryd.prog 4 [.str s, .sl (l.map aPc)] (.bool true) := by
  refine FnP.of Tryd.func4 rfl rfl (by simp) (by simp [AV.cells, aIn, aOut]) (fun G hG => ?_)
  have hN : NoH G.length (.bool true) := (by simp [AV.cells, aIn, aOut])
  refine AWP.seq ?_
  refine AWP.region (fun _ => ?_)
  refine ARun.move (.inr rfl) rfl rfl rfl (Ev.plain rfl) optN ?_
  refine ⟨_, _, rfl, hG, ?_⟩
  refine thenA_n ?_
  refine AWP.seq ?_
  refine AWP.seq ?_
  refine AWP.region (fun _ => ?_)
  refine ARun.move (.inl rfl) rfl rfl rfl (Ev.plain rfl) optN ?_
  refine ARun.lenStr rfl rfl rfl rfl Tryd.underlying9 (Ev.plain rfl) optN ?_
  refine ARun.cmp rfl rfl rfl rfl (Ev.plain rfl) (Ev.plain rfl) rfl optN ?_
  refine ARun.move (.inl rfl) rfl rfl rfl (Ev.plain rfl) optN ?_
  refine ARun.move (.inl rfl) rfl rfl rfl (Ev.plain rfl) optS ?_
  refine ARun.call rfl rfl rfl rfl cf7 (Ev.plain rfl) (.cons (Ev.opt rfl (fun h => h)) .nil) rfl (fun hg => few_fn l) optS ?_
  refine ARun.not rfl rfl rfl rfl (Ev.opt rfl (fun h => h)) optS ?_
  refine ARun.pick rfl rfl rfl rfl (Ev.plain rfl) (Ev.plain rfl) (Ev.opt rfl (by first | exact pkF | exact pkF2 | simp +contextual)) (orB _ _) optN ?_
  refine ⟨_, _, rfl, hG, ?_⟩
  refine thenA_n ?_
  refine AWP.cond rfl (fun h0 => ?_) (fun h0 => ?_)
  · skip
    try simp [-List.getD_eq_getElem?_getD] at h0
    refine AWP.seq ?_
    refine AWP.region (fun _ => ?_)
    refine ARun.call rfl rfl rfl rfl cf8 (Ev.plain rfl) .nil rfl (fun hg => awake_fn) optN ?_
    refine ARun.move (.inr rfl) rfl rfl rfl (Ev.plain rfl) optN ?_
    refine ⟨_, _, rfl, hG, ?_⟩
    refine thenA_n ?_
    refine AWP.ret ?_
    refine thenA_r ?_
    refine endF.one (.inr rfl) rfl (.tmp rfl) ?_ hN
    rfl
  · skip
    simp at h0
    have hlen := few_len h0.2
    refine AWP.skip ?_
    refine thenA_n ?_
    refine AWP.seq ?_
    refine AWP.region (fun _ => ?_)
    refine ARun.move (.inl rfl) rfl rfl rfl (Ev.plain rfl) optN ?_
    refine ARun.callNewB (j := 0) hG rfl rfl rfl rfl rfl cf10 (Ev.plain rfl) (.cons (Ev.plain rfl) .nil) rfl (newr_fn s) optN ?_
    refine ARun.move (.inr rfl) rfl rfl rfl (Ev.plain rfl) optN ?_
    refine ⟨_, _, rfl, hG, ?_⟩
    refine thenA_n ?_
    refine AWP.seq ?_
    refine AWP.seq ?_
    refine AWP.region (fun _ => ?_)
    refine ARun.move (.inl rfl) rfl rfl rfl (Ev.plain rfl) optN ?_
    refine ARun.isNilBox rfl rfl rfl rfl Tryd.underlying27 (Ev.plain rfl) ((hG.at _ _).trans rfl) (.inl ⟨rfl, rfl⟩) optN ?_
    refine ⟨_, _, rfl, hG, ?_⟩
    refine thenA_n ?_
    refine AWP.cond rfl (fun h1 => ?_) (fun h1 => ?_)
    · skip
      exact absurd h1 (by decide)
    · skip
      try simp [-List.getD_eq_getElem?_getD] at h1
      refine AWP.skip ?_
      refine thenA_n ?_
      refine AWP.seq ?_
      refine AWP.region (fun _ => ?_)
      refine ARun.move (.inl rfl) rfl rfl rfl (Ev.plain rfl) optN ?_
      refine ARun.build rfl rfl rfl rfl so30 (.cons (Ev.plain rfl) .nil) rfl rfl optN ?_
      refine ARun.alloc (j := 1) hG rfl rfl rfl rfl rfl zv30 rfl optN ?_
      refine ARun.storeL hG rfl rfl rfl sz30 (Ev.plain rfl) (Ev.plain rfl) rfl rfl rfl rfl rfl (Nat.le_of_ble_eq_true rfl) rfl rfl ?_
      refine ⟨_, _, rfl, hG, ?_⟩
      refine thenA_n ?_
      refine AWP.seq ?_
      refine AWP.seq ?_
      refine AWP.region (fun _ => ?_)
      refine ARun.move (.inr rfl) rfl rfl rfl (Ev.plain rfl) optN ?_
      refine ⟨_, _, rfl, hG, ?_⟩
      refine thenA_n ?_
      refine AWP.block ?_
      refine AWP.rounds (fun st => st.1 ≤ l.length ∧ st.2.ok) (fun st => [(1, .sl (l.map aPc)), (5, .box (G.length + 0) 0), (6, .box (G.length + 1) 0), (7, .int .i64 (st.1 : Int))]) (fun st => [.box (aRd st.2), .box [.str st.2.s, .int .i64 st.2.at_, .str st.2.p, .int .i64 st.2.e]]) (fun st => l.length - st.1) 2 ((0, RdS.new s) : Nat × RdS) ⟨Nat.zero_le _, rd_new_ok (by omega)⟩ (by repeat (first | exact .nil | refine .cons rfl ?_)) rfl (fun _ => rfl) (fun _ => ⟨by simp [AV.cells, aPc], by simp [AO.conts, aRd]⟩) (fun st hI => ?_)
      obtain ⟨k, r⟩ := st
      dsimp only at hI
      show AWP _ _ _ _ _ [(1, .sl (l.map aPc)), (5, .box (G.length + 0) 0), (6, .box (G.length + 1) 0), (7, .int .i64 (k : Int))] _ [.box (aRd r), .box [.str r.s, .int .i64 r.at_, .str r.p, .int .i64 r.e]]
      obtain ⟨hk, hr⟩ := hI
      refine AWP.seq ?_
      refine AWP.seq ?_
      refine AWP.region (fun _ => ?_)
      refine ARun.move (.inl rfl) rfl rfl rfl (Ev.plain rfl) optN ?_
      refine ARun.move (.inl rfl) rfl rfl rfl (Ev.plain rfl) optN ?_
      refine ARun.lenSl rfl rfl rfl rfl Tryd.underlying22 (Ev.plain rfl) optN ?_
      refine ARun.cmp rfl rfl rfl rfl (Ev.plain rfl) (Ev.plain rfl) rfl optN ?_
      refine ⟨_, _, rfl, hG, ?_⟩
      refine thenA_n ?_
      refine AWP.cond rfl (fun h2 => ?_) (fun h2 => ?_)
      · skip
        simp at h2
        refine AWP.skip ?_
        refine thenA_n ?_
        refine AWP.seq ?_
        refine AWP.block ?_
        refine AWP.seq ?_
        refine AWP.draw mixed (by kernel_rfl) (fun _ => ?_)
        refine ARun.move (.inl rfl) rfl rfl rfl (Ev.plain rfl) optN ?_
        refine ARun.loadBoxA rfl rfl rfl rfl Tryd.underlying30 rfl sz30 (Ev.plain rfl) ((hG.at _ _).trans rfl) rfl rfl optN ?_
        refine ARun.move (.inl rfl) rfl rfl rfl (Ev.plain rfl) optN ?_
        refine ARun.move (.inl rfl) rfl rfl rfl (Ev.plain rfl) optN ?_
        first | refine ARun.indexSl rfl rfl rfl rfl Tryd.underlying22 sz35 (Ev.plain rfl) (Ev.plain rfl) (fun _ => rfl) (fun hg => getMap _ _ _ (by (try simp at hg); omega)) rfl rfl optN ?_ | refine ARun.indexSl rfl rfl rfl rfl Tryd.underlying22 sz35 (Ev.plain rfl) (Ev.plain rfl) (fun hg => ofNonneg (by (try simp at hg); omega)) (fun hg => getMap _ _ _ (by (try simp at hg); omega)) rfl rfl optN ?_
        refine ARun.loadPeA rfl rfl rfl rfl Tryd.underlying35 rfl sz35 (Ev.plain rfl) rfl optN ?_
        refine ARun.callMF (j := 0) hG rfl rfl rfl rfl cf11 (Ev.plain rfl) (.cons (Ev.plain rfl) (.cons (Ev.plain rfl) (.cons (Ev.plain rfl) .nil))) (read_fn r (l.getD k default) hr) rfl rfl rfl optN ?_
        refine ARun.move (.inl rfl) rfl rfl rfl (Ev.plain rfl) optN ?_
        refine ARun.extract rfl rfl rfl rfl (Ev.plain rfl) rfl optN ?_
        refine ARun.extract rfl rfl rfl rfl (Ev.plain rfl) rfl optN ?_
        refine ARun.alloc (j := 2) hG rfl rfl rfl rfl rfl zv30 rfl optN ?_
        refine ARun.storeL hG rfl rfl rfl sz30 (Ev.plain rfl) (Ev.plain rfl) rfl rfl rfl rfl rfl (Nat.le_of_ble_eq_true rfl) rfl rfl ?_
        refine ARun.move (.inr rfl) rfl rfl rfl (Ev.plain rfl) optN ?_
        refine ⟨by kernel_rfl, _, _, rfl, hG, ?_⟩
        refine thenA_n ?_
        refine AWP.seq ?_
        refine AWP.seq ?_
        refine AWP.region (fun _ => ?_)
        refine ARun.move (.inl rfl) rfl rfl rfl (Ev.plain rfl) optN ?_
        refine ARun.not rfl rfl rfl rfl (Ev.plain rfl) optN ?_
        refine ⟨_, _, rfl, hG, ?_⟩
        refine thenA_n ?_
        refine AWP.cond rfl (fun h3 => ?_) (fun h3 => ?_)
        · skip
          exact absurd h3 (by decide)
        · skip
          try simp [-List.getD_eq_getElem?_getD] at h3
          refine AWP.skip ?_
          refine thenA_n ?_
          refine AWP.region (fun _ => ?_)
          refine ARun.loadBoxA rfl rfl rfl rfl Tryd.underlying30 rfl sz30 (Ev.plain rfl) ((hG.at _ _).trans rfl) rfl rfl optN ?_
          refine ARun.storeL hG rfl rfl rfl sz30 (Ev.plain rfl) (Ev.plain rfl) rfl rfl rfl rfl rfl (Nat.le_of_ble_eq_true rfl) rfl rfl ?_
          refine ⟨_, _, rfl, hG, ?_⟩
          refine blockA_n ?_
          refine thenA_n ?_
          refine AWP.region (fun _ => ?_)
          refine ARun.move (.inl rfl) rfl rfl rfl (Ev.plain rfl) optN ?_
          first | refine ARun.arith rfl rfl rfl rfl (Ev.plain rfl) (Ev.plain rfl) rfl (fun hg => i64w (by (try simp at hg); omega)) optN ?_ | refine ARun.arith rfl rfl rfl rfl (Ev.plain rfl) (Ev.plain rfl) rfl (fun _ => rfl) optN ?_
          refine ARun.move (.inr rfl) rfl rfl rfl (Ev.plain rfl) optN ?_
          refine ⟨_, _, rfl, hG, ?_⟩
          refine thenA_n ⟨rfl, (k + 1, pcRead r (l.getD k default)), _, ?_, ?_, rfl, ?_⟩
          · exact ⟨by dsimp only; omega, pcRead_ok hr _⟩
          · repeat (first | exact .nil | refine .cons rfl ?_)
          · dsimp only; omega
      · skip
        try simp [-List.getD_eq_getElem?_getD] at h2
        refine AWP.exit ?_
        refine thenA_x ?_
        refine thenA_x ?_
        refine blockA_h ?_
        refine thenA_n ?_
        refine AWP.seq ?_
        refine AWP.region (fun _ => ?_)
        refine ARun.call rfl rfl rfl rfl cf8 (Ev.plain rfl) .nil rfl (fun hg => awake_fn) optN ?_
        refine ARun.move (.inr rfl) rfl rfl rfl (Ev.plain rfl) optN ?_
        refine ⟨_, _, rfl, hG, ?_⟩
        refine thenA_n ?_
        refine AWP.ret ?_
        refine endF.one (.inr rfl) rfl (.tmp rfl) ?_ hN
        rfl
def rk (l : List Pc) (k : Nat) : RdS := ⟨(layP l).out, ((layP (l.take k)).s.length : Int), ⟨#[]⟩, 0⟩
theorem rk_bl {l : List Pc} (h : (layP l).e = 0) : bl (layP l).out = (layP l).s := by unfold WrS.out; rw [if_pos h, bl_bs]
theorem rk_ok {l : List Pc} (h : (layP l).e = 0) (hfew : fewP l = true) (k : Nat) (hk : k ≤ l.length) : (rk l k).ok := by
  have h1 := layP_len hfew k hk
  have h2 := layP_len hfew l.length (Nat.le_refl _)
  rw [List.take_length] at h2
  have h3 := few_len hfew
  have hs : (layP l).out.size = (layP l).s.length := by rw [← bl_len, rk_bl h]
  have h4 : (layP (l.take k)).s.length ≤ (layP l).s.length := by
    rcases Nat.lt_or_ge k l.length with hlt | hge
    · rw [(layP_cut l h k hlt).1]; simp
    · rw [List.take_of_length_le hge]; exact Nat.le_refl _
  refine ⟨?_, ?_, ?_⟩ <;> show _ ≤ _
  · show (0 : Int) ≤ ((layP (l.take k)).s.length : Int); omega
  · show ((layP (l.take k)).s.length : Int) ≤ ((layP l).out.size : Int); omega
  · show (layP l).out.size ≤ 1000000; omega
theorem rk_next {l : List Pc} (h : (layP l).e = 0) {k : Nat} (hk : k < l.length) : rk l (k + 1) = ⟨(layP l).out, ((layP (l.take k)).s.length : Int) + ((pcB (l.getD k default)).length : Int), ⟨#[]⟩, 0⟩ := by
  unfold rk; rw [(layP_cut l h k hk).2]; simp
theorem rk_cut {l : List Pc} (h : (layP l).e = 0) {k : Nat} (hk : k < l.length) : bl (layP l).out = (layP (l.take k)).s ++ (pcB (l.getD k default) ++ (l.drop (k + 1)).flatMap pcB) := by rw [rk_bl h]; exact (layP_cut l h k hk).1
theorem pcE_at {l : List Pc} (h : (layP l).e = 0) {k : Nat} (hk : k < l.length) : pcE (l.getD k default) = 0 := (layP_ok l h l.length (Nat.le_refl _)).2.2 k hk
theorem num_b {l : List Pc} (h : (layP l).e = 0) (hfew : fewP l = true) {k : Nat} (hk : k < l.length) (h0 : (l.getD k default).kind = 0) (hn : (l.getD k default).n ≤ 9223372036854775807) :
    FnM Tryd.prog 12 (fun i => [.box i 0, .int .i64 (l.getD k default).n]) (aRd (rk l k)) (.int .i64 (l.getD k default).n) (aRd (rk l (k + 1))) := by
  have := num_r (rk l k) (l.getD k default).n (rk_ok h hfew k (by omega))
  have hc := rk_cut h hk
  have he := pcE_at h hk
  rw [pcE, if_pos h0] at he
  have hb : pcB (l.getD k default) = (putN (l.getD k default).n).1 := by rw [pcB, if_pos h0]
  rw [hb] at hc
  rw [show rdNum (rk l k) (l.getD k default).n = (rk l (k + 1), (l.getD k default).n) from by rw [rk_next h hk, hb]; exact back_num _ _ _ hc he hn _] at this
  exact this
theorem text_b {l : List Pc} (h : (layP l).e = 0) (hfew : fewP l = true) {k : Nat} (hk : k < l.length) (h0 : (l.getD k default).kind = 1) :
    FnM Tryd.prog 13 (fun i => [.box i 0, .int .i64 ((l.getD k default).s.size : Int)]) (aRd (rk l k)) (.str (l.getD k default).s) (aRd (rk l (k + 1))) := by
  have := text_r (rk l k) (l.getD k default).s.size (rk_ok h hfew k (by omega))
  have hc := rk_cut h hk
  have hb : pcB (l.getD k default) = (putN (l.getD k default).s.size).1 ++ bl (l.getD k default).s := by rw [pcB, if_neg (by omega), if_pos h0]
  rw [hb] at hc
  have hsz := (few_at hfew hk).1
  rw [show rdText (rk l k) (l.getD k default).s.size = (rk l (k + 1), (l.getD k default).s) from by rw [rk_next h hk, hb]; exact back_text _ _ _ _ hc (by omega) _] at this
  exact this
theorem row_b {l : List Pc} (h : (layP l).e = 0) (hfew : fewP l = true) (hgd : ∀ x, x ∈ l → goodPc x) {k : Nat} (hk : k < l.length) (h0 : (l.getD k default).kind = 2) :
    FnM Tryd.prog 15 (fun i => [.box i 0, .int .i64 (((l.getD k default).l.map (AV.int .i64)).length : Int)]) (aRd (rk l k)) (.sl ((l.getD k default).l.map (AV.int .i64))) (aRd (rk l (k + 1))) := by
  have := row_r (rk l k) (l.getD k default).l.length (rk_ok h hfew k (by omega))
  have hc := rk_cut h hk
  have he := pcE_at h hk
  rw [pcE, if_neg (by omega), if_pos h0] at he
  have hb : pcB (l.getD k default) = (rowN (l.getD k default).l).1 := by rw [pcB, if_neg (by omega), if_neg (by omega), if_pos h0]
  rw [hb] at hc
  have hsz := (few_at hfew hk).2
  rw [show rdRow (rk l k) (l.getD k default).l.length = (rk l (k + 1), (l.getD k default).l) from by rw [rk_next h hk, hb]; exact back_row _ _ _ _ hc he (fun x hx => ((good_at hgd hk).2 x hx).2) (by omega) _] at this
  rw [List.length_map]
  exact this
theorem flag_b {l : List Pc} (h : (layP l).e = 0) (hfew : fewP l = true) {k : Nat} (hk : k < l.length) (h0 : (l.getD k default).kind = 3) :
    FnM Tryd.prog 16 (fun i => [.box i 0]) (aRd (rk l k)) (.bool (decide (0 < (l.getD k default).n))) (aRd (rk l (k + 1))) := by
  have := flag_r (rk l k) (rk_ok h hfew k (by omega))
  have hc := rk_cut h hk
  have hb : pcB (l.getD k default) = bl (flagB (decide (0 < (l.getD k default).n))) := by rw [pcB, if_neg (by omega), if_neg (by omega), if_neg (by omega), if_pos h0]
  rw [hb] at hc
  rw [show rdFlag (rk l k) = (rk l (k + 1), decide (0 < (l.getD k default).n)) from by rw [rk_next h hk, hb]; exact back_flag _ _ _ _ hc _] at this
  exact this
theorem rk_else {l : List Pc} (h : (layP l).e = 0) {k : Nat} (hk : k < l.length) (h0 : ¬ (l.getD k default).kind = 0) (h1 : ¬ (l.getD k default).kind = 1) (h2 : ¬ (l.getD k default).kind = 2) (h3 : ¬ (l.getD k default).kind = 3) : rk l (k + 1) = rk l k := by
  rw [rk_next h hk, pcB, if_neg h0, if_neg h1, if_neg h2, if_neg h3]; simp [rk]
theorem rk_end {l : List Pc} (h : (layP l).e = 0) (hfew : fewP l = true) : FnM Tryd.prog 17 (fun i => [.box i 0]) (aRd (rk l l.length)) (.tup []) (aRd (rk l l.length)) := by
  have := end_r (rk l l.length) (rk_ok h hfew _ (Nat.le_refl _))
  have hs : (layP l).out.size = (layP l).s.length := by rw [← bl_len, rk_bl h]
  rw [show rdEnd (rk l l.length) = rk l l.length from by
    unfold rdEnd; rw [if_neg]; rintro ⟨_, h2⟩
    have h3 : (((layP (l.take l.length)).s.length : Int)) < ((layP l).out.size : Int) := h2
    rw [List.take_length, hs] at h3; omega] at this
  exact this
theorem out_e {w : WrS} (h : ¬ w.out = ⟨#[]⟩) : w.e = 0 := by
  by_cases h0 : w.e = 0
  · exact h0
  · exact absurd (if_neg h0) h
theorem rk_at {l : List Pc} (h : (layP l).e = 0) : (rk l l.length).at_ = ((layP l).out.size : Int) := by
  have hs : (layP l).out.size = (layP l).s.length := by rw [← bl_len, rk_bl h]
  unfold rk; rw [List.take_length, hs]
set_option maxHeartbeats 1000000 in
theorem back_fn (l : List Pc) (hgd : ∀ x, x ∈ l → goodPc x) : FnP Tryd.prog 5 [.sl (l.map aPc)] (.bool true) := by
  refine FnP.of Tryd.func5 rfl rfl (by simp) (by simp [AV.cells, aIn, aOut]) (fun G hG => ?_)
  have hN : NoH G.length (.bool true) := (by simp [AV.cells, aIn, aOut])
  refine AWP.seq ?_
  refine AWP.region (fun _ => ?_)
  refine ARun.move (.inr rfl) rfl rfl rfl (Ev.plain rfl) optN ?_
  refine ⟨_, _, rfl, hG, ?_⟩
  refine thenA_n ?_
  refine AWP.seq ?_
  refine AWP.seq ?_
  refine AWP.region (fun _ => ?_)
  refine ARun.move (.inl rfl) rfl rfl rfl (Ev.plain rfl) optN ?_
  refine ARun.call rfl rfl rfl rfl cf7 (Ev.plain rfl) (.cons (Ev.plain rfl) .nil) rfl (fun hg => few_fn l) optN ?_
  refine ARun.not rfl rfl rfl rfl (Ev.plain rfl) optN ?_
  refine ⟨_, _, rfl, hG, ?_⟩
  refine thenA_n ?_
  refine AWP.cond rfl (fun h0 => ?_) (fun h0 => ?_)
  · skip
    try simp [-List.getD_eq_getElem?_getD] at h0
    refine AWP.seq ?_
    refine AWP.region (fun _ => ?_)
    refine ARun.call rfl rfl rfl rfl cf8 (Ev.plain rfl) .nil rfl (fun hg => awake_fn) optN ?_
    refine ARun.move (.inr rfl) rfl rfl rfl (Ev.plain rfl) optN ?_
    refine ⟨_, _, rfl, hG, ?_⟩
    refine thenA_n ?_
    refine AWP.ret ?_
    refine thenA_r ?_
    refine endF.one (.inr rfl) rfl (.tmp rfl) ?_ hN
    rfl
  · skip
    simp at h0
    have hfew := h0
    have hlen := few_len h0
    refine AWP.skip ?_
    refine thenA_n ?_
    refine AWP.seq ?_
    refine AWP.region (fun _ => ?_)
    refine ARun.move (.inl rfl) rfl rfl rfl (Ev.plain rfl) optN ?_
    refine ARun.call rfl rfl rfl rfl cf9 (Ev.plain rfl) (.cons (Ev.plain rfl) .nil) rfl (fun hg => lay_fn l hfew hgd) optN ?_
    refine ARun.move (.inl rfl) rfl rfl rfl (Ev.plain rfl) optN ?_
    refine ARun.extract rfl rfl rfl rfl (Ev.plain rfl) rfl optN ?_
    refine ARun.extract rfl rfl rfl rfl (Ev.plain rfl) rfl optN ?_
    refine ARun.move (.inr rfl) rfl rfl rfl (Ev.plain rfl) optN ?_
    refine ARun.move (.inr rfl) rfl rfl rfl (Ev.plain rfl) optN ?_
    refine ⟨_, _, rfl, hG, ?_⟩
    refine thenA_n ?_
    refine AWP.seq ?_
    refine AWP.seq ?_
    refine AWP.region (fun _ => ?_)
    refine ARun.move (.inl rfl) rfl rfl rfl (Ev.plain rfl) optN ?_
    refine ARun.not rfl rfl rfl rfl (Ev.plain rfl) optN ?_
    refine ARun.move (.inl rfl) rfl rfl rfl (Ev.plain rfl) optN ?_
    refine ARun.move (.inl rfl) rfl rfl rfl (Ev.plain rfl) optS ?_
    refine ARun.cmpS rfl rfl rfl rfl (Ev.opt rfl (fun h => h)) (Ev.plain rfl) rfl optS ?_
    refine ARun.pick rfl rfl rfl rfl (Ev.plain rfl) (Ev.plain rfl) (Ev.opt rfl (by first | exact pkF | exact pkF2 | simp +contextual)) (orB _ _) optN ?_
    refine ⟨_, _, rfl, hG, ?_⟩
    refine thenA_n ?_
    refine AWP.cond rfl (fun h1 => ?_) (fun h1 => ?_)
    · skip
      try simp [-List.getD_eq_getElem?_getD] at h1
      refine AWP.seq ?_
      refine AWP.region (fun _ => ?_)
      refine ARun.move (.inl rfl) rfl rfl rfl (Ev.plain rfl) optN ?_
      refine ARun.move (.inl rfl) rfl rfl rfl (Ev.plain rfl) optN ?_
      refine ARun.call rfl rfl rfl rfl cf8 (Ev.plain rfl) .nil rfl (fun hg => awake_fn) optS ?_
      refine ARun.pick rfl rfl rfl rfl (Ev.plain rfl) (Ev.opt rfl (by first | exact pkT | exact pkT2 | simp +contextual)) (Ev.plain rfl) (andB _ _) optN ?_
      refine ARun.move (.inr rfl) rfl rfl rfl (Ev.plain rfl) optN ?_
      refine ⟨_, _, rfl, hG, ?_⟩
      refine thenA_n ?_
      refine AWP.ret ?_
      refine thenA_r ?_
      refine endF.one (.inr rfl) rfl (.tmp rfl) ?_ hN
      rfl
    · skip
      simp at h1
      have hw := out_e h1
      refine AWP.skip ?_
      refine thenA_n ?_
      refine AWP.seq ?_
      refine AWP.region (fun _ => ?_)
      refine ARun.move (.inl rfl) rfl rfl rfl (Ev.plain rfl) optN ?_
      refine ARun.callNewB (j := 0) hG rfl rfl rfl rfl rfl cf10 (Ev.plain rfl) (.cons (Ev.plain rfl) .nil) rfl (newr_fn (layP l).out) optN ?_
      refine ARun.move (.inr rfl) rfl rfl rfl (Ev.plain rfl) optN ?_
      refine ⟨_, _, rfl, hG, ?_⟩
      refine thenA_n ?_
      refine AWP.seq ?_
      refine AWP.seq ?_
      refine AWP.region (fun _ => ?_)
      refine ARun.move (.inl rfl) rfl rfl rfl (Ev.plain rfl) optN ?_
      refine ARun.isNilBox rfl rfl rfl rfl Tryd.underlying27 (Ev.plain rfl) ((hG.at _ _).trans rfl) (.inl ⟨rfl, rfl⟩) optN ?_
      refine ⟨_, _, rfl, hG, ?_⟩
      refine thenA_n ?_
      refine AWP.cond rfl (fun h2 => ?_) (fun h2 => ?_)
      · skip
        exact absurd h2 (by decide)
      · skip
        try simp [-List.getD_eq_getElem?_getD] at h2
        refine AWP.skip ?_
        refine thenA_n ?_
        refine AWP.seq ?_
        refine AWP.seq ?_
        refine AWP.region (fun _ => ?_)
        refine ARun.move (.inr rfl) rfl rfl rfl (Ev.plain rfl) optN ?_
        refine ⟨_, _, rfl, hG, ?_⟩
        refine thenA_n ?_
        refine AWP.block ?_
        refine AWP.rounds (fun k => k ≤ l.length) (fun k => [(0, .sl (l.map aPc)), (3, .str (layP l).out), (4, .bool true), (5, .box (G.length + 0) 0), (6, .int .i64 (k : Int))]) (fun k => [.box (aRd (rk l k))]) (fun k => l.length - k) 1 0 (Nat.zero_le _) (by repeat (first | exact .nil | refine .cons rfl ?_)) rfl (fun _ => rfl) (fun _ => ⟨by simp [AV.cells, aPc], by simp [AO.conts, aRd]⟩) (fun k hI => ?_)
        refine AWP.seq ?_
        refine AWP.seq ?_
        refine AWP.region (fun _ => ?_)
        refine ARun.move (.inl rfl) rfl rfl rfl (Ev.plain rfl) optN ?_
        refine ARun.move (.inl rfl) rfl rfl rfl (Ev.plain rfl) optN ?_
        refine ARun.lenSl rfl rfl rfl rfl Tryd.underlying22 (Ev.plain rfl) optN ?_
        refine ARun.cmp rfl rfl rfl rfl (Ev.plain rfl) (Ev.plain rfl) rfl optN ?_
        refine ⟨_, _, rfl, hG, ?_⟩
        refine thenA_n ?_
        refine AWP.cond rfl (fun h3 => ?_) (fun h3 => ?_)
        · skip
          try simp [-List.getD_eq_getElem?_getD] at h3
          refine AWP.skip ?_
          refine thenA_n ?_
          refine AWP.seq ?_
          refine AWP.block ?_
          refine AWP.seq ?_
          refine AWP.region (fun _ => ?_)
          refine ARun.move (.inl rfl) rfl rfl rfl (Ev.plain rfl) optN ?_
          refine ARun.move (.inl rfl) rfl rfl rfl (Ev.plain rfl) optN ?_
          first | refine ARun.indexSl rfl rfl rfl rfl Tryd.underlying22 sz35 (Ev.plain rfl) (Ev.plain rfl) (fun _ => rfl) (fun hg => getMap _ _ _ (by (try simp at hg); omega)) rfl rfl optN ?_ | refine ARun.indexSl rfl rfl rfl rfl Tryd.underlying22 sz35 (Ev.plain rfl) (Ev.plain rfl) (fun hg => ofNonneg (by (try simp at hg); omega)) (fun hg => getMap _ _ _ (by (try simp at hg); omega)) rfl rfl optN ?_
          refine ARun.loadPeA rfl rfl rfl rfl Tryd.underlying35 rfl sz35 (Ev.plain rfl) rfl optN ?_
          refine ARun.alloc (j := 1) hG rfl rfl rfl rfl rfl zv35 rfl optN ?_
          refine ARun.storeL hG rfl rfl rfl sz35 (Ev.plain rfl) (Ev.plain rfl) rfl rfl rfl rfl rfl (Nat.le_of_ble_eq_true rfl) rfl rfl ?_
          refine ⟨_, _, rfl, hG, ?_⟩
          refine thenA_n ?_
          refine AWP.seq ?_
          refine AWP.seq ?_
          refine AWP.frzBox 7 hG rfl rfl rfl ?_
          refine AWP.region (fun _ => ?_)
          refine ARun.fieldPe rfl rfl rfl rfl Tryd.underlying35 rfl rfl sz3 (by decide) (Ev.plain rfl) rfl optN ?_
          refine ARun.loadPe rfl rfl rfl rfl Tryd.underlying3 rfl (Ev.plain rfl) rfl optN ?_
          refine ⟨_, _, rfl, hG, ?_⟩
          refine thenA_n ?_
          refine AWP.block ?_
          refine AWP.seq ?_
          refine AWP.region (fun _ => ?_)
          refine ARun.cmp rfl rfl rfl rfl (Ev.plain rfl) (Ev.plain rfl) rfl optN ?_
          refine ARun.move (.inr rfl) rfl rfl rfl (Ev.plain rfl) optN ?_
          refine ⟨_, _, rfl, hG, ?_⟩
          refine thenA_n ?_
          refine AWP.cond rfl (fun h4 => ?_) (fun h4 => ?_)
          · skip
            try simp [-List.getD_eq_getElem?_getD] at h4
            refine AWP.draw mixed (by kernel_rfl) (fun _ => ?_)
            refine ARun.move (.inl rfl) rfl rfl rfl (Ev.plain rfl) optN ?_
            refine ARun.fieldPe rfl rfl rfl rfl Tryd.underlying35 rfl rfl sz3 (by decide) (Ev.plain rfl) rfl optN ?_
            refine ARun.loadPe rfl rfl rfl rfl Tryd.underlying3 rfl (Ev.plain rfl) rfl optN ?_
            refine ARun.callSet (j := 0) hG rfl rfl rfl rfl cf12 (Ev.plain rfl) (.cons (Ev.plain rfl) (.cons (Ev.plain rfl) .nil)) rfl (num_b hw hfew (by omega) h4 (good_at hgd (k := k) (by omega)).1.2 _ _ ((hG.at _ _).trans rfl)) rfl optN ?_
            refine ARun.fieldPe rfl rfl rfl rfl Tryd.underlying35 rfl rfl sz3 (by decide) (Ev.plain rfl) rfl optN ?_
            refine ARun.loadPe rfl rfl rfl rfl Tryd.underlying3 rfl (Ev.plain rfl) rfl optN ?_
            refine ARun.cmp rfl rfl rfl rfl (Ev.plain rfl) (Ev.plain rfl) rfl optN ?_
            refine ARun.move (.inr rfl) rfl rfl rfl (Ev.plain rfl) optN ?_
            refine ⟨by kernel_rfl, _, _, rfl, hG, ?_⟩
            refine blockA_n ?_
            refine thenA_n ?_
            refine AWP.seq ?_
            refine AWP.region (fun _ => ?_)
            refine ARun.move (.inl rfl) rfl rfl rfl (Ev.plain rfl) optN ?_
            refine ARun.not rfl rfl rfl rfl (Ev.plain rfl) optN ?_
            refine ⟨_, _, rfl, hG, ?_⟩
            refine thenA_n ?_
            refine AWP.cond rfl (fun h5 => ?_) (fun h5 => ?_)
            · skip
              simp at h5
            · skip
              try simp [-List.getD_eq_getElem?_getD] at h5
              refine AWP.skip ?_
              refine blockA_n ?_
              refine thenA_n ?_
              refine AWP.region (fun _ => ?_)
              refine ARun.move (.inl rfl) rfl rfl rfl (Ev.plain rfl) optN ?_
              first | refine ARun.arith rfl rfl rfl rfl (Ev.plain rfl) (Ev.plain rfl) rfl (fun hg => i64w (by (try simp at hg); omega)) optN ?_ | refine ARun.arith rfl rfl rfl rfl (Ev.plain rfl) (Ev.plain rfl) rfl (fun _ => rfl) optN ?_
              refine ARun.move (.inr rfl) rfl rfl rfl (Ev.plain rfl) optN ?_
              refine ⟨_, _, rfl, hG, ?_⟩
              refine thenA_n ⟨rfl, k + 1, _, ?_, ?_, rfl, ?_⟩
              · omega
              · simp
                repeat (first | exact .nil | refine .cons rfl ?_)
              · omega
          · skip
            try simp [-List.getD_eq_getElem?_getD] at h4
            refine AWP.seq ?_
            refine AWP.region (fun _ => ?_)
            refine ARun.cmp rfl rfl rfl rfl (Ev.plain rfl) (Ev.plain rfl) rfl optN ?_
            refine ARun.move (.inr rfl) rfl rfl rfl (Ev.plain rfl) optN ?_
            refine ⟨_, _, rfl, hG, ?_⟩
            refine thenA_n ?_
            refine AWP.cond rfl (fun h6 => ?_) (fun h6 => ?_)
            · skip
              try simp [-List.getD_eq_getElem?_getD] at h6
              refine AWP.draw mixed (by kernel_rfl) (fun _ => ?_)
              refine ARun.move (.inl rfl) rfl rfl rfl (Ev.plain rfl) optN ?_
              refine ARun.fieldPe rfl rfl rfl rfl Tryd.underlying35 rfl rfl sz9 (by decide) (Ev.plain rfl) rfl optN ?_
              refine ARun.loadPe rfl rfl rfl rfl Tryd.underlying9 rfl (Ev.plain rfl) rfl optN ?_
              refine ARun.lenStr rfl rfl rfl rfl Tryd.underlying9 (Ev.plain rfl) optN ?_
              refine ARun.callSet (j := 0) hG rfl rfl rfl rfl cf13 (Ev.plain rfl) (.cons (Ev.plain rfl) (.cons (Ev.plain rfl) .nil)) rfl (text_b hw hfew (by omega) h6 _ _ ((hG.at _ _).trans rfl)) rfl optN ?_
              refine ARun.fieldPe rfl rfl rfl rfl Tryd.underlying35 rfl rfl sz9 (by decide) (Ev.plain rfl) rfl optN ?_
              refine ARun.loadPe rfl rfl rfl rfl Tryd.underlying9 rfl (Ev.plain rfl) rfl optN ?_
              refine ARun.cmpS rfl rfl rfl rfl (Ev.plain rfl) (Ev.plain rfl) rfl optN ?_
              refine ARun.move (.inr rfl) rfl rfl rfl (Ev.plain rfl) optN ?_
              refine ⟨by kernel_rfl, _, _, rfl, hG, ?_⟩
              refine blockA_n ?_
              refine thenA_n ?_
              refine AWP.seq ?_
              refine AWP.region (fun _ => ?_)
              refine ARun.move (.inl rfl) rfl rfl rfl (Ev.plain rfl) optN ?_
              refine ARun.not rfl rfl rfl rfl (Ev.plain rfl) optN ?_
              refine ⟨_, _, rfl, hG, ?_⟩
              refine thenA_n ?_
              refine AWP.cond rfl (fun h7 => ?_) (fun h7 => ?_)
              · skip
                simp at h7
              · skip
                try simp [-List.getD_eq_getElem?_getD] at h7
                refine AWP.skip ?_
                refine blockA_n ?_
                refine thenA_n ?_
                refine AWP.region (fun _ => ?_)
                refine ARun.move (.inl rfl) rfl rfl rfl (Ev.plain rfl) optN ?_
                first | refine ARun.arith rfl rfl rfl rfl (Ev.plain rfl) (Ev.plain rfl) rfl (fun hg => i64w (by (try simp at hg); omega)) optN ?_ | refine ARun.arith rfl rfl rfl rfl (Ev.plain rfl) (Ev.plain rfl) rfl (fun _ => rfl) optN ?_
                refine ARun.move (.inr rfl) rfl rfl rfl (Ev.plain rfl) optN ?_
                refine ⟨_, _, rfl, hG, ?_⟩
                refine thenA_n ⟨rfl, k + 1, _, ?_, ?_, rfl, ?_⟩
                · omega
                · simp
                  repeat (first | exact .nil | refine .cons rfl ?_)
                · omega
            · skip
              try simp [-List.getD_eq_getElem?_getD] at h6
              refine AWP.seq ?_
              refine AWP.region (fun _ => ?_)
              refine ARun.cmp rfl rfl rfl rfl (Ev.plain rfl) (Ev.plain rfl) rfl optN ?_
              refine ARun.move (.inr rfl) rfl rfl rfl (Ev.plain rfl) optN ?_
              refine ⟨_, _, rfl, hG, ?_⟩
              refine thenA_n ?_
              refine AWP.cond rfl (fun h8 => ?_) (fun h8 => ?_)
              · skip
                try simp [-List.getD_eq_getElem?_getD] at h8
                refine AWP.draw mixed (by kernel_rfl) (fun _ => ?_)
                refine ARun.move (.inl rfl) rfl rfl rfl (Ev.plain rfl) optN ?_
                refine ARun.fieldPe rfl rfl rfl rfl Tryd.underlying35 rfl rfl sz33 (by decide) (Ev.plain rfl) rfl optN ?_
                refine ARun.loadPe rfl rfl rfl rfl Tryd.underlying33 rfl (Ev.plain rfl) rfl optN ?_
                refine ARun.lenSl rfl rfl rfl rfl Tryd.underlying33 (Ev.plain rfl) optN ?_
                refine ARun.callSet (j := 0) hG rfl rfl rfl rfl cf15 (Ev.plain rfl) (.cons (Ev.plain rfl) (.cons (Ev.plain rfl) .nil)) rfl (row_b hw hfew hgd (by omega) h8 _ _ ((hG.at _ _).trans rfl)) rfl optN ?_
                refine ARun.fieldPe rfl rfl rfl rfl Tryd.underlying35 rfl rfl sz33 (by decide) (Ev.plain rfl) rfl optN ?_
                refine ARun.loadPe rfl rfl rfl rfl Tryd.underlying33 rfl (Ev.plain rfl) rfl optN ?_
                refine ARun.call rfl rfl rfl rfl cf14 (Ev.plain rfl) (.cons (Ev.plain rfl) (.cons (Ev.plain rfl) .nil)) rfl (fun hg => sameI_fn (l.getD k default).l (l.getD k default).l (by have := few_at hfew (k := k) (by omega); omega)) optN ?_
                refine ARun.move (.inr rfl) rfl rfl rfl (Ev.plain rfl) optN ?_
                refine ⟨by kernel_rfl, _, _, rfl, hG, ?_⟩
                refine blockA_n ?_
                refine thenA_n ?_
                refine AWP.seq ?_
                refine AWP.region (fun _ => ?_)
                refine ARun.move (.inl rfl) rfl rfl rfl (Ev.plain rfl) optN ?_
                refine ARun.not rfl rfl rfl rfl (Ev.plain rfl) optN ?_
                refine ⟨_, _, rfl, hG, ?_⟩
                refine thenA_n ?_
                refine AWP.cond rfl (fun h9 => ?_) (fun h9 => ?_)
                · skip
                  simp at h9
                · skip
                  try simp [-List.getD_eq_getElem?_getD] at h9
                  refine AWP.skip ?_
                  refine blockA_n ?_
                  refine thenA_n ?_
                  refine AWP.region (fun _ => ?_)
                  refine ARun.move (.inl rfl) rfl rfl rfl (Ev.plain rfl) optN ?_
                  first | refine ARun.arith rfl rfl rfl rfl (Ev.plain rfl) (Ev.plain rfl) rfl (fun hg => i64w (by (try simp at hg); omega)) optN ?_ | refine ARun.arith rfl rfl rfl rfl (Ev.plain rfl) (Ev.plain rfl) rfl (fun _ => rfl) optN ?_
                  refine ARun.move (.inr rfl) rfl rfl rfl (Ev.plain rfl) optN ?_
                  refine ⟨_, _, rfl, hG, ?_⟩
                  refine thenA_n ⟨rfl, k + 1, _, ?_, ?_, rfl, ?_⟩
                  · omega
                  · simp
                    repeat (first | exact .nil | refine .cons rfl ?_)
                  · omega
              · skip
                try simp [-List.getD_eq_getElem?_getD] at h8
                refine AWP.seq ?_
                refine AWP.region (fun _ => ?_)
                refine ARun.cmp rfl rfl rfl rfl (Ev.plain rfl) (Ev.plain rfl) rfl optN ?_
                refine ARun.move (.inr rfl) rfl rfl rfl (Ev.plain rfl) optN ?_
                refine ⟨_, _, rfl, hG, ?_⟩
                refine thenA_n ?_
                refine AWP.cond rfl (fun h10 => ?_) (fun h10 => ?_)
                · skip
                  try simp [-List.getD_eq_getElem?_getD] at h10
                  refine AWP.draw mixed (by kernel_rfl) (fun _ => ?_)
                  refine ARun.move (.inl rfl) rfl rfl rfl (Ev.plain rfl) optN ?_
                  refine ARun.callSet (j := 0) hG rfl rfl rfl rfl cf16 (Ev.plain rfl) (.cons (Ev.plain rfl) .nil) rfl (flag_b hw hfew (by omega) h10 _ _ ((hG.at _ _).trans rfl)) rfl optN ?_
                  refine ARun.fieldPe rfl rfl rfl rfl Tryd.underlying35 rfl rfl sz3 (by decide) (Ev.plain rfl) rfl optN ?_
                  refine ARun.loadPe rfl rfl rfl rfl Tryd.underlying3 rfl (Ev.plain rfl) rfl optN ?_
                  refine ARun.cmp rfl rfl rfl rfl (Ev.plain rfl) (Ev.plain rfl) rfl optN ?_
                  refine ARun.cmpB rfl rfl rfl rfl Tryd.underlying4 (Ev.plain rfl) (Ev.plain rfl) rfl optN ?_
                  refine ARun.move (.inr rfl) rfl rfl rfl (Ev.plain rfl) optN ?_
                  refine ⟨by kernel_rfl, _, _, rfl, hG, ?_⟩
                  refine blockA_n ?_
                  refine thenA_n ?_
                  refine AWP.seq ?_
                  refine AWP.region (fun _ => ?_)
                  refine ARun.move (.inl rfl) rfl rfl rfl (Ev.plain rfl) optN ?_
                  refine ARun.not rfl rfl rfl rfl (Ev.plain rfl) optN ?_
                  refine ⟨_, _, rfl, hG, ?_⟩
                  refine thenA_n ?_
                  refine AWP.cond rfl (fun h11 => ?_) (fun h11 => ?_)
                  · skip
                    simp at h11
                  · skip
                    try simp [-List.getD_eq_getElem?_getD] at h11
                    refine AWP.skip ?_
                    refine blockA_n ?_
                    refine thenA_n ?_
                    refine AWP.region (fun _ => ?_)
                    refine ARun.move (.inl rfl) rfl rfl rfl (Ev.plain rfl) optN ?_
                    first | refine ARun.arith rfl rfl rfl rfl (Ev.plain rfl) (Ev.plain rfl) rfl (fun hg => i64w (by (try simp at hg); omega)) optN ?_ | refine ARun.arith rfl rfl rfl rfl (Ev.plain rfl) (Ev.plain rfl) rfl (fun _ => rfl) optN ?_
                    refine ARun.move (.inr rfl) rfl rfl rfl (Ev.plain rfl) optN ?_
                    refine ⟨_, _, rfl, hG, ?_⟩
                    refine thenA_n ⟨rfl, k + 1, _, ?_, ?_, rfl, ?_⟩
                    · omega
                    · simp
                      repeat (first | exact .nil | refine .cons rfl ?_)
                    · omega
                · skip
                  try simp [-List.getD_eq_getElem?_getD] at h10
                  refine AWP.skip ?_
                  refine blockA_n ?_
                  refine thenA_n ?_
                  refine AWP.seq ?_
                  refine AWP.region (fun _ => ?_)
                  refine ARun.move (.inl rfl) rfl rfl rfl (Ev.plain rfl) optN ?_
                  refine ARun.not rfl rfl rfl rfl (Ev.plain rfl) optN ?_
                  refine ⟨_, _, rfl, hG, ?_⟩
                  refine thenA_n ?_
                  refine AWP.cond rfl (fun h12 => ?_) (fun h12 => ?_)
                  · skip
                    simp at h12
                  · skip
                    try simp [-List.getD_eq_getElem?_getD] at h12
                    refine AWP.skip ?_
                    refine blockA_n ?_
                    refine thenA_n ?_
                    refine AWP.region (fun _ => ?_)
                    refine ARun.move (.inl rfl) rfl rfl rfl (Ev.plain rfl) optN ?_
                    first | refine ARun.arith rfl rfl rfl rfl (Ev.plain rfl) (Ev.plain rfl) rfl (fun hg => i64w (by (try simp at hg); omega)) optN ?_ | refine ARun.arith rfl rfl rfl rfl (Ev.plain rfl) (Ev.plain rfl) rfl (fun _ => rfl) optN ?_
                    refine ARun.move (.inr rfl) rfl rfl rfl (Ev.plain rfl) optN ?_
                    refine ⟨_, _, rfl, hG, ?_⟩
                    refine thenA_n ⟨rfl, k + 1, [.dead], ?_, ?_, ?_, ?_⟩
                    · omega
                    · simp
                      repeat (first | exact .nil | refine .cons rfl ?_)
                    · rw [rk_else hw (by omega) h4 h6 h8 h10]; rfl
                    · omega
        · skip
          simp at h3
          obtain rfl : k = l.length := by omega
          refine AWP.exit ?_
          refine thenA_x ?_
          refine thenA_x ?_
          refine blockA_h ?_
          refine thenA_n ?_
          refine AWP.seq ?_
          refine AWP.region (fun _ => ?_)
          refine ARun.move (.inl rfl) rfl rfl rfl (Ev.plain rfl) optN ?_
          refine ARun.callSet (j := 0) hG rfl rfl rfl rfl cf17 (Ev.plain rfl) (.cons (Ev.plain rfl) .nil) rfl (rk_end hw hfew _ _ ((hG.at _ _).trans rfl)) rfl optN ?_
          refine ⟨_, _, rfl, hG, ?_⟩
          refine thenA_n ?_
          refine AWP.seq ?_
          refine AWP.region (fun _ => ?_)
          refine ARun.move (.inl rfl) rfl rfl rfl (Ev.plain rfl) optN ?_
          refine ARun.callR rfl rfl rfl rfl cf19 (Ev.plain rfl) (.cons (Ev.plain rfl) .nil) rfl (fun hg => FnM.keep (rdone_fn (rk l l.length)) ((hG.at _ _).trans rfl)) optN ?_
          refine ARun.call rfl rfl rfl rfl cf18 (Ev.plain rfl) (.cons (Ev.plain rfl) .nil) rfl (fun hg => code_fn (errOf tRead (rk l l.length).p (rk l l.length).e)) optN ?_
          refine ARun.cmp rfl rfl rfl rfl (Ev.plain rfl) (Ev.plain rfl) rfl optN ?_
          refine ARun.move (.inl rfl) rfl rfl rfl (Ev.plain rfl) optN ?_
          refine ARun.move (.inl rfl) rfl rfl rfl (Ev.plain rfl) optS ?_
          refine ARun.callR rfl rfl rfl rfl cf20 (Ev.plain rfl) (.cons (Ev.opt rfl (fun h => h)) .nil) rfl (fun hg => FnM.keep (at_r (rk l l.length)) ((hG.at _ _).trans rfl)) optS ?_
          refine ARun.move (.inl rfl) rfl rfl rfl (Ev.plain rfl) optS ?_
          refine ARun.lenStr rfl rfl rfl rfl Tryd.underlying9 (Ev.opt rfl (fun h => h)) optS ?_
          refine ARun.cmp rfl rfl rfl rfl (Ev.opt rfl (fun h => h)) (Ev.opt rfl (fun h => h)) rfl optS ?_
          refine ARun.pick rfl rfl rfl rfl (Ev.plain rfl) (Ev.opt rfl (by first | exact pkT | exact pkT2 | simp +contextual)) (Ev.plain rfl) (andB _ _) optN ?_
          refine ARun.move (.inl rfl) rfl rfl rfl (Ev.plain rfl) optN ?_
          refine ARun.call rfl rfl rfl rfl cf8 (Ev.plain rfl) .nil rfl (fun hg => awake_fn) optS ?_
          refine ARun.pick rfl rfl rfl rfl (Ev.plain rfl) (Ev.opt rfl (by first | exact pkT | exact pkT2 | simp +contextual)) (Ev.plain rfl) (andB _ _) optN ?_
          refine ARun.move (.inr rfl) rfl rfl rfl (Ev.plain rfl) optN ?_
          refine ⟨_, _, rfl, hG, ?_⟩
          refine thenA_n ?_
          refine AWP.ret ?_
          refine endF.one (.inr rfl) rfl (.tmp rfl) ?_ hN
          simp [code_errOf, rk]; have := rk_at hw; simpa [rk] using this
theorem num_fit {r : RdS} (h : r.ok) (most : Int) : -9223372036854775808 ≤ (rdNum r most).2 ∧ (rdNum r most).2 ≤ 9223372036854775807 := by
  have := getN_bd (bl r.s) r.at_ (by rw [bl_len]; exact h.2.2)
  unfold rdNum
  split
  · dsimp only; omega
  · dsimp only; split <;> omega
theorem unrowF_fit (l : List UInt8) (hl : l.length ≤ 1000000) (k : Nat) : ∀ (to : Int) (acc : List Int), (∀ x, x ∈ acc → -9223372036854775808 ≤ x ∧ x ≤ 9223372036854775807) → ∀ x, x ∈ (unrowF l k to acc).1 → -9223372036854775808 ≤ x ∧ x ≤ 9223372036854775807 := by
  induction k with
  | zero => intro to acc h; exact h
  | succ k ih =>
    intro to acc h
    rw [unrow_step]
    split
    · intro x hx; cases hx
    · refine ih _ _ fun x hx => ?_
      have := getN_bd l to hl
      rcases List.mem_append.1 hx with hx | hx
      · exact h x hx
      · simp at hx; subst hx; omega
theorem row_fit {r : RdS} (h : r.ok) (most : Int) : ∀ x, x ∈ (rdRow r most).2 → -9223372036854775808 ≤ x ∧ x ≤ 9223372036854775807 := by
  unfold rdRow
  split
  · intro x hx; cases hx
  · unfold unrowN
    split
    · intro x hx; cases hx
    · split
      · intro x hx; cases hx
      · exact unrowF_fit _ (by rw [bl_len]; exact h.2.2) _ _ _ (fun x hx => by cases hx)
theorem num_s (r : RdS) (h : r.ok) (he : r.e ≠ 0) (n : Int) : FnM Tryd.prog 12 (fun i => [.box i 0, .int .i64 n]) (aRd r) (.int .i64 0) (aRd r) := by
  have := num_r r n h
  rwa [show rdNum r n = (r, 0) from if_pos he] at this
theorem text_s (r : RdS) (h : r.ok) (he : r.e ≠ 0) (n : Int) : FnM Tryd.prog 13 (fun i => [.box i 0, .int .i64 n]) (aRd r) (.str ⟨#[]⟩) (aRd r) := by
  have := text_r r n h
  rwa [show rdText r n = (r, ⟨#[]⟩) from if_pos he] at this
theorem row_s (r : RdS) (h : r.ok) (he : r.e ≠ 0) (n : Int) : FnM Tryd.prog 15 (fun i => [.box i 0, .int .i64 n]) (aRd r) (.sl []) (aRd r) := by
  have := row_r r n h
  rwa [show rdRow r n = (r, []) from if_pos he] at this
theorem flag_s (r : RdS) (h : r.ok) (he : r.e ≠ 0) : FnM Tryd.prog 16 (fun i => [.box i 0]) (aRd r) (.bool false) (aRd r) := by
  have := flag_r r h
  rwa [show rdFlag r = (r, false) from if_pos he] at this
theorem end_s (r : RdS) (h : r.ok) (he : r.e ≠ 0) : FnM Tryd.prog 17 (fun i => [.box i 0]) (aRd r) (.tup []) (aRd r) := by
  have := end_r r h
  rwa [show rdEnd r = r from if_neg (fun h2 => he h2.1)] at this
set_option maxHeartbeats 1000000 in
theorem first_fn (s : ByteArray) (l : List Pc) (p : Pc) (hgd : ∀ x, x ∈ l → goodPc x) : FnP Tryd.prog 6 [.str s, .sl (l.map aPc), aPc p] (.bool true) := by
  refine FnP.of Tryd.func6 rfl rfl (by simp) (by simp [AV.cells, aIn, aOut]) (fun G hG => ?_)
  have hN : NoH G.length (.bool true) := (by simp [AV.cells, aIn, aOut])
  refine AWP.seq ?_
  refine AWP.region (fun _ => ?_)
  refine ARun.boxPe rfl rfl rfl rfl (Ev.plain rfl) rfl rfl optN ?_
  refine ARun.move (.inr rfl) rfl rfl rfl (Ev.plain rfl) optN ?_
  refine ⟨_, _, rfl, hG, ?_⟩
  refine thenA_n ?_
  refine AWP.seq ?_
  refine AWP.seq ?_
  refine AWP.region (fun _ => ?_)
  refine ARun.move (.inl rfl) rfl rfl rfl (Ev.plain rfl) optN ?_
  refine ARun.lenStr rfl rfl rfl rfl Tryd.underlying9 (Ev.plain rfl) optN ?_
  refine ARun.cmp rfl rfl rfl rfl (Ev.plain rfl) (Ev.plain rfl) rfl optN ?_
  refine ARun.move (.inl rfl) rfl rfl rfl (Ev.plain rfl) optN ?_
  refine ARun.move (.inl rfl) rfl rfl rfl (Ev.plain rfl) optS ?_
  refine ARun.call rfl rfl rfl rfl cf7 (Ev.plain rfl) (.cons (Ev.opt rfl (fun h => h)) .nil) rfl (fun hg => few_fn l) optS ?_
  refine ARun.not rfl rfl rfl rfl (Ev.opt rfl (fun h => h)) optS ?_
  refine ARun.pick rfl rfl rfl rfl (Ev.plain rfl) (Ev.plain rfl) (Ev.opt rfl (by first | exact pkF | exact pkF2 | simp +contextual)) (orB _ _) optN ?_
  refine ARun.move (.inl rfl) rfl rfl rfl (Ev.plain rfl) optN ?_
  refine ARun.loadPeA rfl rfl rfl rfl Tryd.underlying35 rfl sz35 (Ev.plain rfl) rfl optS ?_
  refine ARun.buildSl rfl rfl rfl rfl Tryd.underlying22 sz35 zv35 rfl (by decide) (.cons (Ev.opt rfl (fun h => h)) .nil) rfl rfl rfl rfl (by decide) rfl rfl optS ?_
  refine ARun.call rfl rfl rfl rfl cf7 (Ev.plain rfl) (.cons (Ev.opt rfl (fun h => h)) .nil) rfl (fun hg => few_fn [p]) optS ?_
  refine ARun.not rfl rfl rfl rfl (Ev.opt rfl (fun h => h)) optS ?_
  refine ARun.pick rfl rfl rfl rfl (Ev.plain rfl) (Ev.plain rfl) (Ev.opt rfl (by first | exact pkF | exact pkF2 | simp +contextual)) (orB _ _) optN ?_
  refine ⟨_, _, rfl, hG, ?_⟩
  refine thenA_n ?_
  refine AWP.cond rfl (fun h0 => ?_) (fun h0 => ?_)
  · skip
    try simp [-List.getD_eq_getElem?_getD] at h0
    refine AWP.seq ?_
    refine AWP.region (fun _ => ?_)
    refine ARun.call rfl rfl rfl rfl cf8 (Ev.plain rfl) .nil rfl (fun hg => awake_fn) optN ?_
    refine ARun.move (.inr rfl) rfl rfl rfl (Ev.plain rfl) optN ?_
    refine ⟨_, _, rfl, hG, ?_⟩
    refine thenA_n ?_
    refine AWP.ret ?_
    refine thenA_r ?_
    refine endF.one (.inr rfl) rfl (.tmp rfl) ?_ hN
    rfl
  · skip
    simp at h0
    have hs3 : s.size ≤ 3000 := by omega
    have hlen := few_len h0.1.2
    refine AWP.skip ?_
    refine thenA_n ?_
    refine AWP.seq ?_
    refine AWP.region (fun _ => ?_)
    refine ARun.move (.inl rfl) rfl rfl rfl (Ev.plain rfl) optN ?_
    refine ARun.callNewB (j := 0) hG rfl rfl rfl rfl rfl cf10 (Ev.plain rfl) (.cons (Ev.plain rfl) .nil) rfl (newr_fn s) optN ?_
    refine ARun.move (.inr rfl) rfl rfl rfl (Ev.plain rfl) optN ?_
    refine ⟨_, _, rfl, hG, ?_⟩
    refine thenA_n ?_
    refine AWP.seq ?_
    refine AWP.seq ?_
    refine AWP.region (fun _ => ?_)
    refine ARun.move (.inl rfl) rfl rfl rfl (Ev.plain rfl) optN ?_
    refine ARun.isNilBox rfl rfl rfl rfl Tryd.underlying27 (Ev.plain rfl) ((hG.at _ _).trans rfl) (.inl ⟨rfl, rfl⟩) optN ?_
    refine ⟨_, _, rfl, hG, ?_⟩
    refine thenA_n ?_
    refine AWP.cond rfl (fun h1 => ?_) (fun h1 => ?_)
    · skip
      exact absurd h1 (by decide)
    · skip
      try simp [-List.getD_eq_getElem?_getD] at h1
      refine AWP.skip ?_
      refine thenA_n ?_
      refine AWP.seq ?_
      refine AWP.region (fun _ => ?_)
      refine ARun.allocBld (j := 1) (e := 5) hG rfl rfl rfl rfl rfl zv52 rfl rfl rfl optN ?_
      refine ⟨_, _, rfl, hG, ?_⟩
      refine thenA_n ?_
      refine AWP.seq ?_
      refine AWP.seq ?_
      refine AWP.region (fun _ => ?_)
      refine ARun.move (.inr rfl) rfl rfl rfl (Ev.plain rfl) optN ?_
      refine ⟨_, _, rfl, hG, ?_⟩
      refine thenA_n ?_
      refine AWP.block ?_
      refine AWP.rounds (fun st => st.1 ≤ l.length ∧ st.2.1.ok ∧ Upto st.2.1 st.2.2 ∧ st.2.1.s = s ∧ st.2.2.s.length ≤ 10000 * st.1) (fun st => [(0, .str s), (1, .sl (l.map aPc)), (5, .pe (aPc p).cells), (7, .box (G.length + 0) 0), (8, .box (G.length + 1) 0), (9, .int .i64 (st.1 : Int))]) (fun st => [.box (aRd st.2.1), .box (aW st.2.2)]) (fun st => l.length - st.1) 2 ((0, (RdS.new s, WrS.new)) : Nat × (RdS × WrS)) ⟨Nat.zero_le _, rd_new_ok (by omega), upto_new s, rfl, Nat.zero_le _⟩ (by repeat (first | exact .nil | refine .cons rfl ?_)) rfl (fun _ => rfl) (fun _ => ⟨by simp [AV.cells, aPc], by simp [AO.conts, aRd, aW]⟩) (fun st hI => ?_)
      obtain ⟨k, x⟩ := st
      dsimp only at hI
      show AWP _ _ _ _ _ [(0, .str s), (1, .sl (l.map aPc)), (5, .pe (aPc p).cells), (7, .box (G.length + 0) 0), (8, .box (G.length + 1) 0), (9, .int .i64 (k : Int))] _ [.box (aRd x.1), .box (aW x.2)]
      obtain ⟨hk, hr, hU, hS, hW⟩ := hI
      refine AWP.seq ?_
      refine AWP.seq ?_
      refine AWP.region (fun _ => ?_)
      refine ARun.move (.inl rfl) rfl rfl rfl (Ev.plain rfl) optN ?_
      refine ARun.move (.inl rfl) rfl rfl rfl (Ev.plain rfl) optN ?_
      refine ARun.lenSl rfl rfl rfl rfl Tryd.underlying22 (Ev.plain rfl) optN ?_
      refine ARun.cmp rfl rfl rfl rfl (Ev.plain rfl) (Ev.plain rfl) rfl optN ?_
      refine ⟨_, _, rfl, hG, ?_⟩
      refine thenA_n ?_
      refine AWP.cond rfl (fun h2 => ?_) (fun h2 => ?_)
      · skip
        simp at h2
        refine AWP.skip ?_
        refine thenA_n ?_
        refine AWP.seq ?_
        refine AWP.block ?_
        refine AWP.seq ?_
        refine AWP.region (fun _ => ?_)
        refine ARun.move (.inl rfl) rfl rfl rfl (Ev.plain rfl) optN ?_
        refine ARun.move (.inl rfl) rfl rfl rfl (Ev.plain rfl) optN ?_
        first | refine ARun.indexSl rfl rfl rfl rfl Tryd.underlying22 sz35 (Ev.plain rfl) (Ev.plain rfl) (fun _ => rfl) (fun hg => getMap _ _ _ (by (try simp at hg); omega)) rfl rfl optN ?_ | refine ARun.indexSl rfl rfl rfl rfl Tryd.underlying22 sz35 (Ev.plain rfl) (Ev.plain rfl) (fun hg => ofNonneg (by (try simp at hg); omega)) (fun hg => getMap _ _ _ (by (try simp at hg); omega)) rfl rfl optN ?_
        refine ARun.fieldPe rfl rfl rfl rfl Tryd.underlying35 rfl rfl sz3 (by decide) (Ev.plain rfl) rfl optN ?_
        refine ARun.loadPe rfl rfl rfl rfl Tryd.underlying3 rfl (Ev.plain rfl) rfl optN ?_
        refine ⟨_, _, rfl, hG, ?_⟩
        refine thenA_n ?_
        refine AWP.block ?_
        refine AWP.seq ?_
        refine AWP.region (fun _ => ?_)
        refine ARun.cmp rfl rfl rfl rfl (Ev.plain rfl) (Ev.plain rfl) rfl optN ?_
        refine ARun.move (.inr rfl) rfl rfl rfl (Ev.plain rfl) optN ?_
        refine ⟨_, _, rfl, hG, ?_⟩
        refine thenA_n ?_
        refine AWP.cond rfl (fun h3 => ?_) (fun h3 => ?_)
        · skip
          try simp [-List.getD_eq_getElem?_getD] at h3
          refine AWP.region (fun _ => ?_)
          refine ARun.move (.inl rfl) rfl rfl rfl (Ev.plain rfl) optN ?_
          refine ARun.move (.inl rfl) rfl rfl rfl (Ev.plain rfl) optN ?_
          refine ARun.move (.inl rfl) rfl rfl rfl (Ev.plain rfl) optN ?_
          first | refine ARun.indexSl rfl rfl rfl rfl Tryd.underlying22 sz35 (Ev.plain rfl) (Ev.plain rfl) (fun _ => rfl) (fun hg => getMap _ _ _ (by (try simp at hg); omega)) rfl rfl optN ?_ | refine ARun.indexSl rfl rfl rfl rfl Tryd.underlying22 sz35 (Ev.plain rfl) (Ev.plain rfl) (fun hg => ofNonneg (by (try simp at hg); omega)) (fun hg => getMap _ _ _ (by (try simp at hg); omega)) rfl rfl optN ?_
          refine ARun.fieldPe rfl rfl rfl rfl Tryd.underlying35 rfl rfl sz3 (by decide) (Ev.plain rfl) rfl optN ?_
          refine ARun.loadPe rfl rfl rfl rfl Tryd.underlying3 rfl (Ev.plain rfl) rfl optN ?_
          refine ARun.callSet (j := 0) hG rfl rfl rfl rfl cf12 (Ev.plain rfl) (.cons (Ev.plain rfl) (.cons (Ev.plain rfl) .nil)) rfl (num_r x.1 (l.getD k default).n hr _ _ ((hG.at _ _).trans rfl)) rfl optN ?_
          refine ARun.buildSl rfl rfl rfl rfl Tryd.underlying33 sz3 zv3 rfl (by decide) (.cons (Ev.plain rfl) .nil) rfl rfl rfl rfl (by decide) rfl rfl optN ?_
          refine ARun.callSet (j := 1) hG rfl rfl rfl rfl cf21 (Ev.plain rfl) (.cons (Ev.plain rfl) (.cons (Ev.plain rfl) .nil)) rfl (nums_w x.2 [(rdNum x.1 (l.getD k default).n).2] (by simp) (by omega) (fit_one (num_fit hr _)) _ _ ((hG.at _ _).trans rfl)) rfl optN ?_
          refine ⟨_, _, rfl, hG, ?_⟩
          refine blockA_n ?_
          refine blockA_n ?_
          refine thenA_n ?_
          refine AWP.region (fun _ => ?_)
          refine ARun.move (.inl rfl) rfl rfl rfl (Ev.plain rfl) optN ?_
          first | refine ARun.arith rfl rfl rfl rfl (Ev.plain rfl) (Ev.plain rfl) rfl (fun hg => i64w (by (try simp at hg); omega)) optN ?_ | refine ARun.arith rfl rfl rfl rfl (Ev.plain rfl) (Ev.plain rfl) rfl (fun _ => rfl) optN ?_
          refine ARun.move (.inr rfl) rfl rfl rfl (Ev.plain rfl) optN ?_
          refine ⟨_, _, rfl, hG, ?_⟩
          refine thenA_n ⟨rfl, (k + 1, (rdNum x.1 (l.getD k default).n).1, wrNum x.2 (rdNum x.1 (l.getD k default).n).2), _, ?_, ?_, rfl, ?_⟩
          · have hi := pcRW_inv (p := (l.getD k default)) hs3 hr hU hS
            rw [pcRW, if_pos h3] at hi
            exact ⟨by dsimp only; omega, hi.1, hi.2.1, hi.2.2.1, by have := hi.2.2.2; dsimp only at this ⊢; omega⟩
          · repeat (first | exact .nil | refine .cons rfl ?_)
          · dsimp only; omega
        · skip
          try simp [-List.getD_eq_getElem?_getD] at h3
          refine AWP.seq ?_
          refine AWP.region (fun _ => ?_)
          refine ARun.cmp rfl rfl rfl rfl (Ev.plain rfl) (Ev.plain rfl) rfl optN ?_
          refine ARun.move (.inr rfl) rfl rfl rfl (Ev.plain rfl) optN ?_
          refine ⟨_, _, rfl, hG, ?_⟩
          refine thenA_n ?_
          refine AWP.cond rfl (fun h4 => ?_) (fun h4 => ?_)
          · skip
            try simp [-List.getD_eq_getElem?_getD] at h4
            refine AWP.region (fun _ => ?_)
            refine ARun.move (.inl rfl) rfl rfl rfl (Ev.plain rfl) optN ?_
            refine ARun.move (.inl rfl) rfl rfl rfl (Ev.plain rfl) optN ?_
            refine ARun.move (.inl rfl) rfl rfl rfl (Ev.plain rfl) optN ?_
            first | refine ARun.indexSl rfl rfl rfl rfl Tryd.underlying22 sz35 (Ev.plain rfl) (Ev.plain rfl) (fun _ => rfl) (fun hg => getMap _ _ _ (by (try simp at hg); omega)) rfl rfl optN ?_ | refine ARun.indexSl rfl rfl rfl rfl Tryd.underlying22 sz35 (Ev.plain rfl) (Ev.plain rfl) (fun hg => ofNonneg (by (try simp at hg); omega)) (fun hg => getMap _ _ _ (by (try simp at hg); omega)) rfl rfl optN ?_
            refine ARun.fieldPe rfl rfl rfl rfl Tryd.underlying35 rfl rfl sz3 (by decide) (Ev.plain rfl) rfl optN ?_
            refine ARun.loadPe rfl rfl rfl rfl Tryd.underlying3 rfl (Ev.plain rfl) rfl optN ?_
            refine ARun.callSet (j := 0) hG rfl rfl rfl rfl cf13 (Ev.plain rfl) (.cons (Ev.plain rfl) (.cons (Ev.plain rfl) .nil)) rfl (text_r x.1 (l.getD k default).n hr _ _ ((hG.at _ _).trans rfl)) rfl optN ?_
            refine ARun.callSet (j := 1) hG rfl rfl rfl rfl cf22 (Ev.plain rfl) (.cons (Ev.plain rfl) (.cons (Ev.plain rfl) .nil)) rfl (text_w x.2 (rdText x.1 (l.getD k default).n).2 (by have := rdText_len (r := x.1) (l.getD k default).n; rw [hS] at this; omega) (by omega) _ _ ((hG.at _ _).trans rfl)) rfl optN ?_
            refine ⟨_, _, rfl, hG, ?_⟩
            refine blockA_n ?_
            refine blockA_n ?_
            refine thenA_n ?_
            refine AWP.region (fun _ => ?_)
            refine ARun.move (.inl rfl) rfl rfl rfl (Ev.plain rfl) optN ?_
            first | refine ARun.arith rfl rfl rfl rfl (Ev.plain rfl) (Ev.plain rfl) rfl (fun hg => i64w (by (try simp at hg); omega)) optN ?_ | refine ARun.arith rfl rfl rfl rfl (Ev.plain rfl) (Ev.plain rfl) rfl (fun _ => rfl) optN ?_
            refine ARun.move (.inr rfl) rfl rfl rfl (Ev.plain rfl) optN ?_
            refine ⟨_, _, rfl, hG, ?_⟩
            refine thenA_n ⟨rfl, (k + 1, (rdText x.1 (l.getD k default).n).1, wrText x.2 (rdText x.1 (l.getD k default).n).2), _, ?_, ?_, rfl, ?_⟩
            · have hi := pcRW_inv (p := (l.getD k default)) hs3 hr hU hS
              rw [pcRW, if_neg h3, if_pos h4] at hi
              exact ⟨by dsimp only; omega, hi.1, hi.2.1, hi.2.2.1, by have := hi.2.2.2; dsimp only at this ⊢; omega⟩
            · repeat (first | exact .nil | refine .cons rfl ?_)
            · dsimp only; omega
          · skip
            try simp [-List.getD_eq_getElem?_getD] at h4
            refine AWP.seq ?_
            refine AWP.region (fun _ => ?_)
            refine ARun.cmp rfl rfl rfl rfl (Ev.plain rfl) (Ev.plain rfl) rfl optN ?_
            refine ARun.move (.inr rfl) rfl rfl rfl (Ev.plain rfl) optN ?_
            refine ⟨_, _, rfl, hG, ?_⟩
            refine thenA_n ?_
            refine AWP.cond rfl (fun h5 => ?_) (fun h5 => ?_)
            · skip
              try simp [-List.getD_eq_getElem?_getD] at h5
              refine AWP.region (fun _ => ?_)
              refine ARun.move (.inl rfl) rfl rfl rfl (Ev.plain rfl) optN ?_
              refine ARun.move (.inl rfl) rfl rfl rfl (Ev.plain rfl) optN ?_
              refine ARun.move (.inl rfl) rfl rfl rfl (Ev.plain rfl) optN ?_
              first | refine ARun.indexSl rfl rfl rfl rfl Tryd.underlying22 sz35 (Ev.plain rfl) (Ev.plain rfl) (fun _ => rfl) (fun hg => getMap _ _ _ (by (try simp at hg); omega)) rfl rfl optN ?_ | refine ARun.indexSl rfl rfl rfl rfl Tryd.underlying22 sz35 (Ev.plain rfl) (Ev.plain rfl) (fun hg => ofNonneg (by (try simp at hg); omega)) (fun hg => getMap _ _ _ (by (try simp at hg); omega)) rfl rfl optN ?_
              refine ARun.fieldPe rfl rfl rfl rfl Tryd.underlying35 rfl rfl sz3 (by decide) (Ev.plain rfl) rfl optN ?_
              refine ARun.loadPe rfl rfl rfl rfl Tryd.underlying3 rfl (Ev.plain rfl) rfl optN ?_
              refine ARun.callSet (j := 0) hG rfl rfl rfl rfl cf15 (Ev.plain rfl) (.cons (Ev.plain rfl) (.cons (Ev.plain rfl) .nil)) rfl (row_r x.1 (l.getD k default).n hr _ _ ((hG.at _ _).trans rfl)) rfl optN ?_
              refine ARun.callSet (j := 1) hG rfl rfl rfl rfl cf23 (Ev.plain rfl) (.cons (Ev.plain rfl) (.cons (Ev.plain rfl) .nil)) rfl (row_w x.2 (rdRow x.1 (l.getD k default).n).2 (by have := rdRow_len x.1 (l.getD k default).n; omega) (by omega) (row_fit hr _) _ _ ((hG.at _ _).trans rfl)) rfl optN ?_
              refine ⟨_, _, rfl, hG, ?_⟩
              refine blockA_n ?_
              refine blockA_n ?_
              refine thenA_n ?_
              refine AWP.region (fun _ => ?_)
              refine ARun.move (.inl rfl) rfl rfl rfl (Ev.plain rfl) optN ?_
              first | refine ARun.arith rfl rfl rfl rfl (Ev.plain rfl) (Ev.plain rfl) rfl (fun hg => i64w (by (try simp at hg); omega)) optN ?_ | refine ARun.arith rfl rfl rfl rfl (Ev.plain rfl) (Ev.plain rfl) rfl (fun _ => rfl) optN ?_
              refine ARun.move (.inr rfl) rfl rfl rfl (Ev.plain rfl) optN ?_
              refine ⟨_, _, rfl, hG, ?_⟩
              refine thenA_n ⟨rfl, (k + 1, (rdRow x.1 (l.getD k default).n).1, wrRow x.2 (rdRow x.1 (l.getD k default).n).2), _, ?_, ?_, rfl, ?_⟩
              · have hi := pcRW_inv (p := (l.getD k default)) hs3 hr hU hS
                rw [pcRW, if_neg h3, if_neg h4, if_pos h5] at hi
                exact ⟨by dsimp only; omega, hi.1, hi.2.1, hi.2.2.1, by have := hi.2.2.2; dsimp only at this ⊢; omega⟩
              · repeat (first | exact .nil | refine .cons rfl ?_)
              · dsimp only; omega
            · skip
              try simp [-List.getD_eq_getElem?_getD] at h5
              refine AWP.seq ?_
              refine AWP.region (fun _ => ?_)
              refine ARun.cmp rfl rfl rfl rfl (Ev.plain rfl) (Ev.plain rfl) rfl optN ?_
              refine ARun.move (.inr rfl) rfl rfl rfl (Ev.plain rfl) optN ?_
              refine ⟨_, _, rfl, hG, ?_⟩
              refine thenA_n ?_
              refine AWP.cond rfl (fun h6 => ?_) (fun h6 => ?_)
              · skip
                try simp [-List.getD_eq_getElem?_getD] at h6
                refine AWP.region (fun _ => ?_)
                refine ARun.move (.inl rfl) rfl rfl rfl (Ev.plain rfl) optN ?_
                refine ARun.callSet (j := 0) hG rfl rfl rfl rfl cf16 (Ev.plain rfl) (.cons (Ev.plain rfl) .nil) rfl (flag_r x.1 hr _ _ ((hG.at _ _).trans rfl)) rfl optN ?_
                refine ARun.callSet (j := 1) hG rfl rfl rfl rfl cf24 (Ev.plain rfl) (.cons (Ev.plain rfl) (.cons (Ev.plain rfl) .nil)) rfl (flag_w x.2 (rdFlag x.1).2 (by omega) _ _ ((hG.at _ _).trans rfl)) rfl optN ?_
                refine ⟨_, _, rfl, hG, ?_⟩
                refine blockA_n ?_
                refine blockA_n ?_
                refine thenA_n ?_
                refine AWP.region (fun _ => ?_)
                refine ARun.move (.inl rfl) rfl rfl rfl (Ev.plain rfl) optN ?_
                first | refine ARun.arith rfl rfl rfl rfl (Ev.plain rfl) (Ev.plain rfl) rfl (fun hg => i64w (by (try simp at hg); omega)) optN ?_ | refine ARun.arith rfl rfl rfl rfl (Ev.plain rfl) (Ev.plain rfl) rfl (fun _ => rfl) optN ?_
                refine ARun.move (.inr rfl) rfl rfl rfl (Ev.plain rfl) optN ?_
                refine ⟨_, _, rfl, hG, ?_⟩
                refine thenA_n ⟨rfl, (k + 1, (rdFlag x.1).1, wrFlag x.2 (rdFlag x.1).2), _, ?_, ?_, rfl, ?_⟩
                · have hi := pcRW_inv (p := (l.getD k default)) hs3 hr hU hS
                  rw [pcRW, if_neg h3, if_neg h4, if_neg h5, if_pos h6] at hi
                  exact ⟨by dsimp only; omega, hi.1, hi.2.1, hi.2.2.1, by have := hi.2.2.2; dsimp only at this ⊢; omega⟩
                · repeat (first | exact .nil | refine .cons rfl ?_)
                · dsimp only; omega
              · skip
                try simp [-List.getD_eq_getElem?_getD] at h6
                refine AWP.skip ?_
                refine blockA_n ?_
                refine blockA_n ?_
                refine thenA_n ?_
                refine AWP.region (fun _ => ?_)
                refine ARun.move (.inl rfl) rfl rfl rfl (Ev.plain rfl) optN ?_
                first | refine ARun.arith rfl rfl rfl rfl (Ev.plain rfl) (Ev.plain rfl) rfl (fun hg => i64w (by (try simp at hg); omega)) optN ?_ | refine ARun.arith rfl rfl rfl rfl (Ev.plain rfl) (Ev.plain rfl) rfl (fun _ => rfl) optN ?_
                refine ARun.move (.inr rfl) rfl rfl rfl (Ev.plain rfl) optN ?_
                refine ⟨_, _, rfl, hG, ?_⟩
                refine thenA_n ⟨rfl, (k + 1, x), _, ?_, ?_, rfl, ?_⟩
                · have hi := pcRW_inv (p := (l.getD k default)) hs3 hr hU hS
                  rw [pcRW, if_neg h3, if_neg h4, if_neg h5, if_neg h6] at hi
                  exact ⟨by dsimp only; omega, hi.1, hi.2.1, hi.2.2.1, by have := hi.2.2.2; dsimp only at this ⊢; omega⟩
                · repeat (first | exact .nil | refine .cons rfl ?_)
                · dsimp only; omega
      · skip
        have hRE := rdEnd_ok hr
        refine AWP.exit ?_
        refine thenA_x ?_
        refine thenA_x ?_
        refine blockA_h ?_
        refine thenA_n ?_
        refine AWP.seq ?_
        refine AWP.region (fun _ => ?_)
        refine ARun.move (.inl rfl) rfl rfl rfl (Ev.plain rfl) optN ?_
        refine ARun.callSet (j := 0) hG rfl rfl rfl rfl cf17 (Ev.plain rfl) (.cons (Ev.plain rfl) .nil) rfl (end_r x.1 hr _ _ ((hG.at _ _).trans rfl)) rfl optN ?_
        refine ⟨_, _, rfl, hG, ?_⟩
        refine thenA_n ?_
        refine AWP.seq ?_
        refine AWP.region (fun _ => ?_)
        refine ARun.move (.inl rfl) rfl rfl rfl (Ev.plain rfl) optN ?_
        refine ARun.callR rfl rfl rfl rfl cf19 (Ev.plain rfl) (.cons (Ev.plain rfl) .nil) rfl (fun hg => FnM.keep (rdone_fn (rdEnd x.1)) ((hG.at _ _).trans rfl)) optN ?_
        refine ARun.call rfl rfl rfl rfl cf18 (Ev.plain rfl) (.cons (Ev.plain rfl) .nil) rfl (fun hg => code_fn (errOf tRead (rdEnd x.1).p (rdEnd x.1).e)) optN ?_
        refine ARun.move (.inl rfl) rfl rfl rfl (Ev.plain rfl) optN ?_
        refine ARun.callR rfl rfl rfl rfl cf20 (Ev.plain rfl) (.cons (Ev.plain rfl) .nil) rfl (fun hg => FnM.keep (at_r (rdEnd x.1)) ((hG.at _ _).trans rfl)) optN ?_
        refine ARun.move (.inr rfl) rfl rfl rfl (Ev.plain rfl) optN ?_
        refine ARun.move (.inr rfl) rfl rfl rfl (Ev.plain rfl) optN ?_
        refine ⟨_, _, rfl, hG, ?_⟩
        refine thenA_n ?_
        refine AWP.seq ?_
        refine AWP.region (fun _ => ?_)
        refine ARun.callSet (j := 1) hG rfl rfl rfl rfl cf25 (Ev.plain rfl) (.cons (Ev.plain rfl) .nil) rfl (done_w x.2 _ _ ((hG.at _ _).trans rfl)) rfl optN ?_
        refine ARun.move (.inl rfl) rfl rfl rfl (Ev.plain rfl) optN ?_
        refine ARun.extract rfl rfl rfl rfl (Ev.plain rfl) rfl optN ?_
        refine ARun.extract rfl rfl rfl rfl (Ev.plain rfl) rfl optN ?_
        refine ARun.move (.inr rfl) rfl rfl rfl (Ev.plain rfl) optN ?_
        refine ARun.move (.inr rfl) rfl rfl rfl (Ev.plain rfl) optN ?_
        refine ⟨_, _, rfl, hG, ?_⟩
        refine thenA_n ?_
        refine AWP.seq ?_
        refine AWP.seq ?_
        refine AWP.region (fun _ => ?_)
        refine ARun.move (.inl rfl) rfl rfl rfl (Ev.plain rfl) optN ?_
        refine ARun.cmp rfl rfl rfl rfl (Ev.plain rfl) (Ev.plain rfl) rfl optN ?_
        refine ⟨_, _, rfl, hG, ?_⟩
        refine thenA_n ?_
        refine AWP.cond rfl (fun h7 => ?_) (fun h7 => ?_)
        · skip
          simp [code_errOf] at h7
          refine AWP.seq ?_
          refine AWP.region (fun _ => ?_)
          refine ARun.move (.inl rfl) rfl rfl rfl (Ev.plain rfl) optN ?_
          refine ARun.move (.inl rfl) rfl rfl rfl (Ev.plain rfl) optN ?_
          refine ARun.cmpS rfl rfl rfl rfl (Ev.plain rfl) (Ev.plain rfl) rfl optN ?_
          refine ARun.move (.inl rfl) rfl rfl rfl (Ev.plain rfl) optN ?_
          refine ARun.move (.inl rfl) rfl rfl rfl (Ev.plain rfl) optS ?_
          refine ARun.call rfl rfl rfl rfl cf18 (Ev.plain rfl) (.cons (Ev.opt rfl (fun h => h)) .nil) rfl (fun hg => code_fn (errOf tWrite x.2.p x.2.e)) optS ?_
          refine ARun.cmp rfl rfl rfl rfl (Ev.opt rfl (fun h => h)) (Ev.plain rfl) rfl optS ?_
          refine ARun.pick rfl rfl rfl rfl (Ev.plain rfl) (Ev.opt rfl (by first | exact pkT | exact pkT2 | simp +contextual)) (Ev.plain rfl) (andB _ _) optN ?_
          refine ARun.move (.inl rfl) rfl rfl rfl (Ev.plain rfl) optN ?_
          refine ARun.call rfl rfl rfl rfl cf8 (Ev.plain rfl) .nil rfl (fun hg => awake_fn) optS ?_
          refine ARun.pick rfl rfl rfl rfl (Ev.plain rfl) (Ev.opt rfl (by first | exact pkT | exact pkT2 | simp +contextual)) (Ev.plain rfl) (andB _ _) optN ?_
          refine ARun.move (.inr rfl) rfl rfl rfl (Ev.plain rfl) optN ?_
          refine ⟨_, _, rfl, hG, ?_⟩
          refine thenA_n ?_
          refine AWP.ret ?_
          refine thenA_r ?_
          refine endF.one (.inr rfl) rfl (.tmp rfl) ?_ hN
          obtain ⟨q1, q2⟩ := upto_end hr hU h7
          simp [q1, hS, code_errOf, q2]
        · skip
          simp [code_errOf] at h7
          refine AWP.skip ?_
          refine thenA_n ?_
          refine AWP.seq ?_
          refine AWP.seq ?_
          refine AWP.region (fun _ => ?_)
          refine ARun.move (.inl rfl) rfl rfl rfl (Ev.plain rfl) optN ?_
          refine ARun.fieldPe rfl rfl rfl rfl Tryd.underlying35 rfl rfl sz3 (by decide) (Ev.plain rfl) rfl optN ?_
          refine ARun.loadPe rfl rfl rfl rfl Tryd.underlying3 rfl (Ev.plain rfl) rfl optN ?_
          refine ARun.callR rfl rfl rfl rfl cf12 (Ev.plain rfl) (.cons (Ev.plain rfl) (.cons (Ev.plain rfl) .nil)) rfl (fun hg => FnM.keep (num_s (rdEnd x.1) hRE h7 p.n) ((hG.at _ _).trans rfl)) optN ?_
          refine ARun.cmp rfl rfl rfl rfl (Ev.plain rfl) (Ev.plain rfl) rfl optN ?_
          refine ARun.move (.inl rfl) rfl rfl rfl (Ev.plain rfl) optN ?_
          refine ARun.move (.inl rfl) rfl rfl rfl (Ev.plain rfl) optS ?_
          refine ARun.fieldPe rfl rfl rfl rfl Tryd.underlying35 rfl rfl sz3 (by decide) (Ev.plain rfl) rfl optS ?_
          refine ARun.loadPe rfl rfl rfl rfl Tryd.underlying3 rfl (Ev.opt rfl (fun h => h)) rfl optS ?_
          refine ARun.callR rfl rfl rfl rfl cf13 (Ev.plain rfl) (.cons (Ev.opt rfl (fun h => h)) (.cons (Ev.opt rfl (fun h => h)) .nil)) rfl (fun hg => FnM.keep (text_s (rdEnd x.1) hRE h7 p.n) ((hG.at _ _).trans rfl)) optS ?_
          refine ARun.cmpS rfl rfl rfl rfl (Ev.opt rfl (fun h => h)) (Ev.plain rfl) rfl optS ?_
          refine ARun.pick rfl rfl rfl rfl (Ev.plain rfl) (Ev.plain rfl) (Ev.opt rfl (by first | exact pkF | exact pkF2 | simp +contextual)) (orB _ _) optN ?_
          refine ARun.move (.inl rfl) rfl rfl rfl (Ev.plain rfl) optN ?_
          refine ARun.move (.inl rfl) rfl rfl rfl (Ev.plain rfl) optS ?_
          refine ARun.fieldPe rfl rfl rfl rfl Tryd.underlying35 rfl rfl sz3 (by decide) (Ev.plain rfl) rfl optS ?_
          refine ARun.loadPe rfl rfl rfl rfl Tryd.underlying3 rfl (Ev.opt rfl (fun h => h)) rfl optS ?_
          refine ARun.callR rfl rfl rfl rfl cf15 (Ev.plain rfl) (.cons (Ev.opt rfl (fun h => h)) (.cons (Ev.opt rfl (fun h => h)) .nil)) rfl (fun hg => FnM.keep (row_s (rdEnd x.1) hRE h7 p.n) ((hG.at _ _).trans rfl)) optS ?_
          refine ARun.lenSl rfl rfl rfl rfl Tryd.underlying33 (Ev.opt rfl (fun h => h)) optS ?_
          refine ARun.cmp rfl rfl rfl rfl (Ev.opt rfl (fun h => h)) (Ev.plain rfl) rfl optS ?_
          refine ARun.pick rfl rfl rfl rfl (Ev.plain rfl) (Ev.plain rfl) (Ev.opt rfl (by first | exact pkF | exact pkF2 | simp +contextual)) (orB _ _) optN ?_
          refine ARun.move (.inl rfl) rfl rfl rfl (Ev.plain rfl) optN ?_
          refine ARun.move (.inl rfl) rfl rfl rfl (Ev.plain rfl) optS ?_
          refine ARun.callR rfl rfl rfl rfl cf16 (Ev.plain rfl) (.cons (Ev.opt rfl (fun h => h)) .nil) rfl (fun hg => FnM.keep (flag_s (rdEnd x.1) hRE h7) ((hG.at _ _).trans rfl)) optS ?_
          refine ARun.pick rfl rfl rfl rfl (Ev.plain rfl) (Ev.plain rfl) (Ev.opt rfl (by first | exact pkF | exact pkF2 | simp +contextual)) (orB _ _) optN ?_
          refine ⟨_, _, rfl, hG, ?_⟩
          refine thenA_n ?_
          refine AWP.cond rfl (fun h8 => ?_) (fun h8 => ?_)
          · skip
            exact absurd h8 (by decide)
          · skip
            try simp [-List.getD_eq_getElem?_getD] at h8
            refine AWP.skip ?_
            refine thenA_n ?_
            refine AWP.seq ?_
            refine AWP.region (fun _ => ?_)
            refine ARun.move (.inl rfl) rfl rfl rfl (Ev.plain rfl) optN ?_
            refine ARun.callSet (j := 0) hG rfl rfl rfl rfl cf17 (Ev.plain rfl) (.cons (Ev.plain rfl) .nil) rfl (end_s (rdEnd x.1) hRE h7 _ _ ((hG.at _ _).trans rfl)) rfl optN ?_
            refine ⟨_, _, rfl, hG, ?_⟩
            refine thenA_n ?_
            refine AWP.seq ?_
            refine AWP.region (fun _ => ?_)
            refine ARun.move (.inl rfl) rfl rfl rfl (Ev.plain rfl) optN ?_
            refine ARun.callR rfl rfl rfl rfl cf19 (Ev.plain rfl) (.cons (Ev.plain rfl) .nil) rfl (fun hg => FnM.keep (rdone_fn (rdEnd x.1)) ((hG.at _ _).trans rfl)) optN ?_
            refine ARun.call rfl rfl rfl rfl cf18 (Ev.plain rfl) (.cons (Ev.plain rfl) .nil) rfl (fun hg => code_fn (errOf tRead (rdEnd x.1).p (rdEnd x.1).e)) optN ?_
            refine ARun.move (.inl rfl) rfl rfl rfl (Ev.plain rfl) optN ?_
            refine ARun.cmp rfl rfl rfl rfl (Ev.plain rfl) (Ev.plain rfl) rfl optN ?_
            refine ARun.move (.inl rfl) rfl rfl rfl (Ev.plain rfl) optN ?_
            refine ARun.move (.inl rfl) rfl rfl rfl (Ev.plain rfl) optS ?_
            refine ARun.callR rfl rfl rfl rfl cf20 (Ev.plain rfl) (.cons (Ev.opt rfl (fun h => h)) .nil) rfl (fun hg => FnM.keep (at_r (rdEnd x.1)) ((hG.at _ _).trans rfl)) optS ?_
            refine ARun.move (.inl rfl) rfl rfl rfl (Ev.plain rfl) optS ?_
            refine ARun.cmp rfl rfl rfl rfl (Ev.opt rfl (fun h => h)) (Ev.opt rfl (fun h => h)) rfl optS ?_
            refine ARun.pick rfl rfl rfl rfl (Ev.plain rfl) (Ev.opt rfl (by first | exact pkT | exact pkT2 | simp +contextual)) (Ev.plain rfl) (andB _ _) optN ?_
            refine ARun.move (.inl rfl) rfl rfl rfl (Ev.plain rfl) optN ?_
            refine ARun.call rfl rfl rfl rfl cf8 (Ev.plain rfl) .nil rfl (fun hg => awake_fn) optS ?_
            refine ARun.pick rfl rfl rfl rfl (Ev.plain rfl) (Ev.opt rfl (by first | exact pkT | exact pkT2 | simp +contextual)) (Ev.plain rfl) (andB _ _) optN ?_
            refine ARun.move (.inr rfl) rfl rfl rfl (Ev.plain rfl) optN ?_
            refine ⟨_, _, rfl, hG, ?_⟩
            refine thenA_n ?_
            refine AWP.ret ?_
            refine endF.one (.inr rfl) rfl (.tmp rfl) ?_ hN
            simp [code_errOf]
end Go.Proofs.YtimkioaaljdnoaaDoor
