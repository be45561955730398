/- The laws of client, by the abstract machine. -/
import Derived.Test.YthogpkmidffdeaaDoorAmCiR
namespace Go.Proofs.YthogpkmidffdeaaDoor
set_option linter.unusedVariables false
set_option linter.unusedSimpArgs false
open Go.RowKit
open NumP
set_option maxRecDepth 100000
def smallO (o : Co) : Bool := decide (o.payload.size ≤ 500) && decide (o.reply.size ≤ 1000)
def fewO (l : List Co) : Bool := decide (l.length ≤ 120) && l.all smallO
theorem fewO_no {l : List Co} {k : Nat} (hk : k < l.length) (h : (decide (500 < ((l.getD k default).payload.size : Int)) || decide (1000 < ((l.getD k default).reply.size : Int))) = true) : fewO l = false := by
  have : l.all smallO = false := List.all_eq_false.2 ⟨l[k], List.getElem_mem hk, by
    rw [← Co_idx hk]; unfold smallO
    simp only [Bool.or_eq_true, decide_eq_true_eq] at h
    simp only [Bool.and_eq_true, decide_eq_true_eq]; omega⟩
  unfold fewO; rw [this, Bool.and_false]
theorem fewO_yes {l : List Co} (h0 : l.length ≤ 120) (h : ∀ j, j < l.length → (decide (500 < ((l.getD j default).payload.size : Int)) || decide (1000 < ((l.getD j default).reply.size : Int))) = false) : fewO l = true := by
  have : l.all smallO = true := List.all_eq_true.2 fun x hx => by
    obtain ⟨j, hj, rfl⟩ := List.mem_iff_getElem.1 hx
    have := h j hj
    rw [Co_idx hj] at this
    unfold smallO
    simp only [Bool.or_eq_false_iff, decide_eq_false_iff_not] at this
    simp only [Bool.and_eq_true, decide_eq_true_eq]; omega
  unfold fewO; rw [this, decide_eq_true h0]; rfl
theorem fewO_parts {l : List Co} (h : fewO l = true) : l.length ≤ 120 ∧ ∀ x, x ∈ l → x.payload.size ≤ 1000000 := by
  unfold fewO smallO at h
  simp only [Bool.and_eq_true, decide_eq_true_eq, List.all_eq_true] at h
  exact ⟨h.1, fun x hx => by have := (h.2 x hx).1; omega⟩
theorem one_co (o : Co) : AV.sl [aCo o] = AV.sl ([o].map aCo) := rfl
theorem co_takeS (l : List Co) (k : Nat) (hk : k < l.length) : (l.take k).map aCo ++ [aCo (l.getD k default)] = (l.take (k + 1)).map aCo := by
  rw [List.take_succ_eq_append_getElem hk, List.map_append, Co_idx hk]; rfl
set_option maxHeartbeats 1000000 in
theorem fewO_fn (l : List Co) : FnP Tryd.prog 6 [.sl (l.map aCo)] (.bool (fewO l)) := by
  refine FnP.of Tryd.func6 rfl rfl (by simp) (by simp [AV.cells, aIn, aOut, aLn, aCl, aRp, aCo]) (fun G hG => ?_)
  have hN : NoH G.length (.bool (fewO l)) := (by simp [AV.cells, aIn, aOut, aLn, aCl, aRp, aCo])
  refine AWP.seq ?_
  refine AWP.region (fun _ => ?_)
  refine ARun.move (.inr rfl) rfl rfl rfl (Ev.plain rfl) optN ?_
  refine ⟨_, _, rfl, hG, ?_⟩
  refine thenA_n ?_
  refine AWP.seq ?_
  refine AWP.seq ?_
  refine AWP.region (fun _ => ?_)
  refine ARun.move (.inl rfl) rfl rfl rfl (Ev.plain rfl) optN ?_
  refine ARun.lenSl rfl rfl rfl rfl Tryd.underlying22 (Ev.plain rfl) optN ?_
  refine ARun.cmp rfl rfl rfl rfl (Ev.plain rfl) (Ev.plain rfl) rfl optN ?_
  refine ⟨_, _, rfl, hG, ?_⟩
  refine thenA_n ?_
  refine AWP.cond rfl (fun h0 => ?_) (fun h0 => ?_)
  · skip
    simp at h0
    refine AWP.seq ?_
    refine AWP.region (fun _ => ?_)
    refine ARun.move (.inr rfl) rfl rfl rfl (Ev.plain rfl) optN ?_
    refine ⟨_, _, rfl, hG, ?_⟩
    refine thenA_n ?_
    refine AWP.ret ?_
    refine thenA_r ?_
    refine endF.one (.inr rfl) rfl (.tmp rfl) ?_ hN
    rw [show fewO l = false from by unfold fewO; rw [decide_eq_false (by omega)]; rfl]; rfl
  · skip
    simp at h0
    refine AWP.skip ?_
    refine thenA_n ?_
    refine AWP.seq ?_
    refine AWP.seq ?_
    refine AWP.region (fun _ => ?_)
    refine ARun.move (.inr rfl) rfl rfl rfl (Ev.plain rfl) optN ?_
    refine ⟨_, _, rfl, hG, ?_⟩
    refine thenA_n ?_
    refine AWP.block ?_
    refine AWP.rounds (fun k => k ≤ l.length ∧ ∀ j, j < k → (decide (500 < ((l.getD j default).payload.size : Int)) || decide (1000 < ((l.getD j default).reply.size : Int))) = false) (fun k => [(0, .sl (l.map aCo)), (3, .int .i64 (k : Int))]) (fun k => []) (fun k => l.length - k) 0 0 ⟨by omega, fun j h => by omega⟩ (by repeat (first | exact .nil | refine .cons rfl ?_)) rfl (fun _ => rfl) (fun _ => ⟨by simp [AV.cells, aCo], by simp⟩) (fun k hI => ?_)
    obtain ⟨hk, hno⟩ := hI
    refine AWP.seq ?_
    refine AWP.seq ?_
    refine AWP.region (fun _ => ?_)
    refine ARun.move (.inl rfl) rfl rfl rfl (Ev.plain rfl) optN ?_
    refine ARun.move (.inl rfl) rfl rfl rfl (Ev.plain rfl) optN ?_
    refine ARun.lenSl rfl rfl rfl rfl Tryd.underlying22 (Ev.plain rfl) optN ?_
    refine ARun.cmp rfl rfl rfl rfl (Ev.plain rfl) (Ev.plain rfl) rfl optN ?_
    refine ⟨_, _, rfl, hG, ?_⟩
    refine thenA_n ?_
    refine AWP.cond rfl (fun h1 => ?_) (fun h1 => ?_)
    · skip
      try simp [-List.getD_eq_getElem?_getD] at h1
      refine AWP.skip ?_
      refine thenA_n ?_
      refine AWP.seq ?_
      refine AWP.block ?_
      refine AWP.seq ?_
      refine AWP.region (fun _ => ?_)
      refine ARun.move (.inl rfl) rfl rfl rfl (Ev.plain rfl) optN ?_
      refine ARun.move (.inl rfl) rfl rfl rfl (Ev.plain rfl) optN ?_
      first | refine ARun.indexSl rfl rfl rfl rfl Tryd.underlying22 sz24 (Ev.plain rfl) (Ev.plain rfl) (fun _ => rfl) (fun hg => getMap _ _ _ (by (try simp at hg); omega)) rfl rfl optN ?_ | refine ARun.indexSl rfl rfl rfl rfl Tryd.underlying22 sz24 (Ev.plain rfl) (Ev.plain rfl) (fun hg => ofNonneg (by (try simp at hg); omega)) (fun hg => getMap _ _ _ (by (try simp at hg); omega)) rfl rfl optN ?_
      refine ARun.fieldPe rfl rfl rfl rfl Tryd.underlying24 rfl rfl sz9 (by decide) (Ev.plain rfl) rfl optN ?_
      refine ARun.loadPe rfl rfl rfl rfl Tryd.underlying9 rfl (Ev.plain rfl) rfl optN ?_
      refine ARun.lenStr rfl rfl rfl rfl Tryd.underlying9 (Ev.plain rfl) optN ?_
      refine ARun.cmp rfl rfl rfl rfl (Ev.plain rfl) (Ev.plain rfl) rfl optN ?_
      refine ARun.move (.inl rfl) rfl rfl rfl (Ev.plain rfl) optN ?_
      refine ARun.move (.inl rfl) rfl rfl rfl (Ev.plain rfl) optS ?_
      refine ARun.move (.inl rfl) rfl rfl rfl (Ev.plain rfl) optS ?_
      first | refine ARun.indexSl rfl rfl rfl rfl Tryd.underlying22 sz24 (Ev.opt rfl (fun h => h)) (Ev.opt rfl (fun h => h)) (fun _ => rfl) (fun hg => getMap _ _ _ (by (try simp at hg); omega)) rfl rfl optS ?_ | refine ARun.indexSl rfl rfl rfl rfl Tryd.underlying22 sz24 (Ev.opt rfl (fun h => h)) (Ev.opt rfl (fun h => h)) (fun hg => ofNonneg (by (try simp at hg); omega)) (fun hg => getMap _ _ _ (by (try simp at hg); omega)) rfl rfl optS ?_
      refine ARun.fieldPe rfl rfl rfl rfl Tryd.underlying24 rfl rfl sz9 (by decide) (Ev.opt rfl (fun h => h)) rfl optS ?_
      refine ARun.loadPe rfl rfl rfl rfl Tryd.underlying9 rfl (Ev.opt rfl (fun h => h)) rfl optS ?_
      refine ARun.lenStr rfl rfl rfl rfl Tryd.underlying9 (Ev.opt rfl (fun h => h)) optS ?_
      refine ARun.cmp rfl rfl rfl rfl (Ev.opt rfl (fun h => h)) (Ev.plain rfl) rfl optS ?_
      refine ARun.pick rfl rfl rfl rfl (Ev.plain rfl) (Ev.plain rfl) (Ev.opt rfl (by first | exact pkF | exact pkF2 | simp +contextual)) (orB _ _) optN ?_
      refine ⟨_, _, rfl, hG, ?_⟩
      refine thenA_n ?_
      refine AWP.cond rfl (fun h2 => ?_) (fun h2 => ?_)
      · skip
        skip
        refine AWP.seq ?_
        refine AWP.region (fun _ => ?_)
        refine ARun.move (.inr rfl) rfl rfl rfl (Ev.plain rfl) optN ?_
        refine ⟨_, _, rfl, hG, ?_⟩
        refine thenA_n ?_
        refine AWP.ret ?_
        refine blockA_r ?_
        refine thenA_r ?_
        refine thenA_r ?_
        refine blockA_r ?_
        refine thenA_r ?_
        refine endF.one (.inr rfl) rfl (.tmp rfl) ?_ hN
        rw [fewO_no (by omega) h2]; rfl
      · skip
        skip
        refine AWP.skip ?_
        refine blockA_n ?_
        refine thenA_n ?_
        refine AWP.region (fun _ => ?_)
        refine ARun.move (.inl rfl) rfl rfl rfl (Ev.plain rfl) optN ?_
        first | refine ARun.arith rfl rfl rfl rfl (Ev.plain rfl) (Ev.plain rfl) rfl (fun hg => i64w (by (try simp at hg); omega)) optN ?_ | refine ARun.arith rfl rfl rfl rfl (Ev.plain rfl) (Ev.plain rfl) rfl (fun _ => rfl) optN ?_
        refine ARun.move (.inr rfl) rfl rfl rfl (Ev.plain rfl) optN ?_
        refine ⟨_, _, rfl, hG, ?_⟩
        refine thenA_n ⟨rfl, k + 1, _, ?_, ?_, rfl, ?_⟩
        · refine ⟨by omega, fun j hj => ?_⟩
          by_cases e : j = k
          · subst e; exact h2
          · exact hno j (by omega)
        · repeat (first | exact .nil | refine .cons rfl ?_)
        · omega
    · skip
      try simp [-List.getD_eq_getElem?_getD] at h1
      refine AWP.exit ?_
      refine thenA_x ?_
      refine thenA_x ?_
      refine blockA_h ?_
      refine thenA_n ?_
      refine AWP.seq ?_
      refine AWP.region (fun _ => ?_)
      refine ARun.move (.inr rfl) rfl rfl rfl (Ev.plain rfl) optN ?_
      refine ⟨_, _, rfl, hG, ?_⟩
      refine thenA_n ?_
      refine AWP.ret ?_
      refine endF.one (.inr rfl) rfl (.tmp rfl) ?_ hN
      rw [fewO_yes (by omega) (fun j hj => hno j (by omega))]; rfl
set_option maxHeartbeats 1000000 in
theorem ofL_fn (l : List Co) (hl : l.length ≤ 1000) : FnP Tryd.prog 8 [.sl (l.map aCo)] (.sl (l.map aCo)) := by
  refine FnP.of Tryd.func8 rfl rfl (by simp) (noH_cos _ _) (fun G hG => ?_)
  have hN : NoH G.length (.sl (l.map aCo)) := (noH_cos _ _)
  refine AWP.seq ?_
  refine AWP.region (fun _ => ?_)
  refine ARun.move (.inr rfl) rfl rfl rfl (Ev.plain rfl) optN ?_
  refine ⟨_, _, rfl, hG, ?_⟩
  refine thenA_n ?_
  refine AWP.seq ?_
  refine AWP.region (fun _ => ?_)
  refine ARun.nilOwn (e := 41) (z := 6) (j := 0) hG rfl ⟨.inl rfl, rfl⟩ (fun _ => rfl) rfl rfl rfl optN ?_
  refine ⟨_, _, rfl, hG, ?_⟩
  refine thenA_n ?_
  refine AWP.seq ?_
  refine AWP.seq ?_
  refine AWP.region (fun _ => ?_)
  refine ARun.move (.inr rfl) rfl rfl rfl (Ev.plain rfl) optN ?_
  refine ⟨_, _, rfl, hG, ?_⟩
  refine thenA_n ?_
  refine AWP.block ?_
  refine AWP.rounds (fun st => st.1 ≤ l.length) (fun st => [(0, .sl (l.map aCo)), (3, .own (G.length + 0) st.2), (4, .int .i64 (st.1 : Int))]) (fun st => [.row st.2 41 6 ((l.take st.1).map aCo)]) (fun st => l.length - st.1) 1 ((0, 0) : Nat × Nat) (Nat.zero_le _) (by repeat (first | exact .nil | refine .cons rfl ?_)) rfl (fun _ => rfl) (fun _ => ⟨by simp [AV.cells, aCo], by simp [AO.conts, aCo, AV.cells]; intro y x1 hx1 hy; obtain ⟨o, _, rfl⟩ := List.mem_map.1 (List.mem_of_mem_take hx1); simp [aCo] at hy; rcases hy with rfl | rfl | rfl | rfl | rfl | rfl <;> simp⟩) (fun st hI => ?_)
  obtain ⟨k, g⟩ := st
  dsimp only at hI
  show AWP _ _ _ _ _ [(0, .sl (l.map aCo)), (3, .own (G.length + 0) g), (4, .int .i64 (k : Int))] _ [.row g 41 6 ((l.take k).map aCo)]
  refine AWP.seq ?_
  refine AWP.seq ?_
  refine AWP.region (fun _ => ?_)
  refine ARun.move (.inl rfl) rfl rfl rfl (Ev.plain rfl) optN ?_
  refine ARun.move (.inl rfl) rfl rfl rfl (Ev.plain rfl) optN ?_
  refine ARun.lenSl rfl rfl rfl rfl Tryd.underlying22 (Ev.plain rfl) optN ?_
  refine ARun.cmp rfl rfl rfl rfl (Ev.plain rfl) (Ev.plain rfl) rfl optN ?_
  refine ⟨_, _, rfl, hG, ?_⟩
  refine thenA_n ?_
  refine AWP.cond rfl (fun h0 => ?_) (fun h0 => ?_)
  · skip
    try simp [-List.getD_eq_getElem?_getD] at h0
    refine AWP.skip ?_
    refine thenA_n ?_
    refine AWP.seq ?_
    refine AWP.block ?_
    refine AWP.seq ?_
    refine AWP.region (fun _ => ?_)
    refine ARun.move (.inl rfl) rfl rfl rfl (Ev.plain rfl) optN ?_
    refine ARun.move (.inl rfl) rfl rfl rfl (Ev.plain rfl) optN ?_
    first | refine ARun.indexSl rfl rfl rfl rfl Tryd.underlying22 sz24 (Ev.plain rfl) (Ev.plain rfl) (fun _ => rfl) (fun hg => getMap _ _ _ (by (try simp at hg); omega)) rfl rfl optN ?_ | refine ARun.indexSl rfl rfl rfl rfl Tryd.underlying22 sz24 (Ev.plain rfl) (Ev.plain rfl) (fun hg => ofNonneg (by (try simp at hg); omega)) (fun hg => getMap _ _ _ (by (try simp at hg); omega)) rfl rfl optN ?_
    refine ARun.loadPeA rfl rfl rfl rfl Tryd.underlying24 rfl sz24 (Ev.plain rfl) rfl optN ?_
    refine ARun.alloc (j := 1) hG rfl rfl rfl rfl rfl zv24 rfl optN ?_
    refine ARun.storeL hG rfl rfl rfl sz24 (Ev.plain rfl) (Ev.plain rfl) rfl rfl rfl rfl rfl (Nat.le_of_ble_eq_true rfl) rfl rfl ?_
    refine ⟨_, _, rfl, hG, ?_⟩
    refine thenA_n ?_
    refine AWP.region (fun _ => ?_)
    refine ARun.move (.inl rfl) rfl rfl rfl (Ev.plain rfl) optN ?_
    refine ARun.fieldBox (fo := 0) rfl rfl rfl rfl Tryd.underlying24 rfl rfl sz3 (by decide) (Ev.plain rfl) ((hG.at _ _).trans rfl) optN ?_
    refine ARun.loadBox rfl rfl rfl rfl Tryd.underlying3 rfl (Ev.plain rfl) ((hG.at _ _).trans rfl) rfl optN ?_
    refine ARun.fieldBox (fo := 1) rfl rfl rfl rfl Tryd.underlying24 rfl rfl sz3 (by decide) (Ev.plain rfl) ((hG.at _ _).trans rfl) optN ?_
    refine ARun.loadBox rfl rfl rfl rfl Tryd.underlying3 rfl (Ev.plain rfl) ((hG.at _ _).trans rfl) rfl optN ?_
    refine ARun.fieldBox (fo := 2) rfl rfl rfl rfl Tryd.underlying24 rfl rfl sz9 (by decide) (Ev.plain rfl) ((hG.at _ _).trans rfl) optN ?_
    refine ARun.loadBox rfl rfl rfl rfl Tryd.underlying9 rfl (Ev.plain rfl) ((hG.at _ _).trans rfl) rfl optN ?_
    refine ARun.fieldBox (fo := 3) rfl rfl rfl rfl Tryd.underlying24 rfl rfl sz3 (by decide) (Ev.plain rfl) ((hG.at _ _).trans rfl) optN ?_
    refine ARun.loadBox rfl rfl rfl rfl Tryd.underlying3 rfl (Ev.plain rfl) ((hG.at _ _).trans rfl) rfl optN ?_
    refine ARun.fieldBox (fo := 4) rfl rfl rfl rfl Tryd.underlying24 rfl rfl sz3 (by decide) (Ev.plain rfl) ((hG.at _ _).trans rfl) optN ?_
    refine ARun.loadBox rfl rfl rfl rfl Tryd.underlying3 rfl (Ev.plain rfl) ((hG.at _ _).trans rfl) rfl optN ?_
    refine ARun.fieldBox (fo := 5) rfl rfl rfl rfl Tryd.underlying24 rfl rfl sz9 (by decide) (Ev.plain rfl) ((hG.at _ _).trans rfl) optN ?_
    refine ARun.loadBox rfl rfl rfl rfl Tryd.underlying9 rfl (Ev.plain rfl) ((hG.at _ _).trans rfl) rfl optN ?_
    refine ARun.build rfl rfl rfl rfl so41 (.cons (Ev.plain rfl) (.cons (Ev.plain rfl) (.cons (Ev.plain rfl) (.cons (Ev.plain rfl) (.cons (Ev.plain rfl) (.cons (Ev.plain rfl) .nil)))))) rfl rfl optN ?_
    refine ARun.buildSl rfl rfl rfl rfl Tryd.underlying27 sz41 zv41 rfl (by decide) (.cons (Ev.plain rfl) .nil) rfl rfl rfl rfl (by decide) rfl rfl optN ?_
    refine ARun.appendL hG rfl rfl rfl rfl Tryd.underlying27 ti41 rfl (by decide) (Ev.plain rfl) (Ev.plain rfl) rfl rfl (by simp [maxLen]; omega) (by simp; omega) (co_takeS l k (by omega)) optN rfl ?_
    refine ARun.move (.inr rfl) rfl rfl rfl (Ev.plain rfl) optN ?_
    refine ⟨_, _, rfl, hG, ?_⟩
    refine blockA_n ?_
    refine thenA_n ?_
    refine AWP.region (fun _ => ?_)
    refine ARun.move (.inl rfl) rfl rfl rfl (Ev.plain rfl) optN ?_
    first | refine ARun.arith rfl rfl rfl rfl (Ev.plain rfl) (Ev.plain rfl) rfl (fun hg => i64w (by (try simp at hg); omega)) optN ?_ | refine ARun.arith rfl rfl rfl rfl (Ev.plain rfl) (Ev.plain rfl) rfl (fun _ => rfl) optN ?_
    refine ARun.move (.inr rfl) rfl rfl rfl (Ev.plain rfl) optN ?_
    refine ⟨_, _, rfl, hG, ?_⟩
    refine thenA_n ⟨rfl, (k + 1, g + 1), _, ?_, ?_, rfl, ?_⟩
    · dsimp only; omega
    · repeat (first | exact .nil | refine .cons rfl ?_)
    · dsimp only; omega
  · skip
    simp at h0
    obtain rfl : k = l.length := by omega
    rw [List.take_length]
    refine AWP.exit ?_
    refine thenA_x ?_
    refine thenA_x ?_
    refine blockA_h ?_
    refine thenA_n ?_
    refine AWP.seq ?_
    refine AWP.frzOwn 3 hG rfl rfl (by decide) (by simp [maxLen]; omega) rfl ?_
    refine AWP.region (fun _ => ?_)
    refine ARun.move (.inl rfl) rfl rfl rfl (Ev.plain rfl) optN ?_
    refine ARun.move (.inr rfl) rfl rfl rfl (Ev.plain rfl) optN ?_
    refine ⟨_, _, rfl, hG, ?_⟩
    refine thenA_n ?_
    refine AWP.ret ?_
    refine endF.one (.inr rfl) rfl (.tmp rfl) ?_ hN
    rfl
set_option maxHeartbeats 1000000 in
theorem query1_fn  : FnP Tryd.prog 21 [.int .u8 1] (.str ⟨#[1, 1, 7, 7, 0, 0, 0]⟩) := by
  refine FnP.of Tryd.func21 rfl rfl (by simp) (by simp [AV.cells, aIn, aOut, aLn, aCl, aRp, aCo]) (fun G hG => ?_)
  have hN : NoH G.length (.str ⟨#[1, 1, 7, 7, 0, 0, 0]⟩) := (by simp [AV.cells, aIn, aOut, aLn, aCl, aRp, aCo])
  refine AWP.seq ?_
  refine AWP.region (fun _ => ?_)
  refine ARun.move (.inr rfl) rfl rfl rfl (Ev.plain rfl) optN ?_
  refine ⟨_, _, rfl, hG, ?_⟩
  refine thenA_n ?_
  refine AWP.seq ?_
  refine AWP.region (fun _ => ?_)
  refine ARun.move (.inl rfl) rfl rfl rfl (Ev.plain rfl) optN ?_
  refine ARun.buildSl rfl rfl rfl rfl Tryd.underlying62 sz5 zv5 rfl (by decide) (.cons (Ev.plain rfl) (.cons (Ev.plain rfl) (.cons (Ev.plain rfl) (.cons (Ev.plain rfl) (.cons (Ev.plain rfl) (.cons (Ev.plain rfl) (.cons (Ev.plain rfl) .nil))))))) rfl rfl rfl rfl (by decide) rfl rfl optN ?_
  refine ARun.convBS rfl rfl rfl rfl Tryd.underlying62 Tryd.underlying5 Tryd.underlying9 (Ev.plain rfl) rfl optN ?_
  refine ARun.move (.inr rfl) rfl rfl rfl (Ev.plain rfl) optN ?_
  refine ⟨_, _, rfl, hG, ?_⟩
  refine thenA_n ?_
  refine AWP.ret ?_
  refine endF.one (.inr rfl) rfl (.tmp rfl) ?_ hN
  rfl
set_option maxHeartbeats 1000000 in
theorem query2_fn  : FnP Tryd.prog 21 [.int .u8 2] (.str ⟨#[1, 2, 7, 7, 0, 0, 0]⟩) := by
  refine FnP.of Tryd.func21 rfl rfl (by simp) (by simp [AV.cells, aIn, aOut, aLn, aCl, aRp, aCo]) (fun G hG => ?_)
  have hN : NoH G.length (.str ⟨#[1, 2, 7, 7, 0, 0, 0]⟩) := (by simp [AV.cells, aIn, aOut, aLn, aCl, aRp, aCo])
  refine AWP.seq ?_
  refine AWP.region (fun _ => ?_)
  refine ARun.move (.inr rfl) rfl rfl rfl (Ev.plain rfl) optN ?_
  refine ⟨_, _, rfl, hG, ?_⟩
  refine thenA_n ?_
  refine AWP.seq ?_
  refine AWP.region (fun _ => ?_)
  refine ARun.move (.inl rfl) rfl rfl rfl (Ev.plain rfl) optN ?_
  refine ARun.buildSl rfl rfl rfl rfl Tryd.underlying62 sz5 zv5 rfl (by decide) (.cons (Ev.plain rfl) (.cons (Ev.plain rfl) (.cons (Ev.plain rfl) (.cons (Ev.plain rfl) (.cons (Ev.plain rfl) (.cons (Ev.plain rfl) (.cons (Ev.plain rfl) .nil))))))) rfl rfl rfl rfl (by decide) rfl rfl optN ?_
  refine ARun.convBS rfl rfl rfl rfl Tryd.underlying62 Tryd.underlying5 Tryd.underlying9 (Ev.plain rfl) rfl optN ?_
  refine ARun.move (.inr rfl) rfl rfl rfl (Ev.plain rfl) optN ?_
  refine ⟨_, _, rfl, hG, ?_⟩
  refine thenA_n ?_
  refine AWP.ret ?_
  refine endF.one (.inr rfl) rfl (.tmp rfl) ?_ hN
  rfl
set_option maxHeartbeats 1000000 in
theorem awake_fn  : FnP Tryd.prog 7 [] (.bool true) := by
  have hlc : (beginL (endL (beginL [] 1 ⟨#[1, 1, 7, 7, 0, 0, 0]⟩) 5 1 1 ⟨#[120]⟩) 6 ⟨#[1, 2, 7, 7, 0, 0, 0]⟩).length = 2 := by decide +kernel
  refine FnP.of Tryd.func7 rfl rfl (by simp) (by simp [AV.cells, aIn, aOut, aLn, aCl, aRp, aCo]) (fun G hG => ?_)
  have hN : NoH G.length (.bool true) := (by simp [AV.cells, aIn, aOut, aLn, aCl, aRp, aCo])
  refine AWP.seq ?_
  refine AWP.region (fun _ => ?_)
  refine ARun.move (.inr rfl) rfl rfl rfl (Ev.plain rfl) optN ?_
  refine ⟨_, _, rfl, hG, ?_⟩
  refine thenA_n ?_
  refine AWP.seq ?_
  refine AWP.region (fun _ => ?_)
  refine ARun.call rfl rfl rfl rfl cf21 (Ev.plain rfl) (.cons (Ev.plain rfl) .nil) rfl (fun hg => query1_fn) optN ?_
  refine ARun.call rfl rfl rfl rfl cf9 (Ev.plain rfl) (.cons (Ev.plain rfl) (.cons (Ev.plain rfl) (.cons (Ev.plain rfl) .nil))) rfl (fun hg => begin_fn [] 1 ⟨#[1, 1, 7, 7, 0, 0, 0]⟩ (by decide +kernel) (by decide +kernel) (by decide +kernel)) optN ?_
  refine ARun.move (.inl rfl) rfl rfl rfl (Ev.plain rfl) optN ?_
  refine ARun.extract rfl rfl rfl rfl (Ev.plain rfl) rfl optN ?_
  refine ARun.extract rfl rfl rfl rfl (Ev.plain rfl) rfl optN ?_
  refine ARun.move (.inr rfl) rfl rfl rfl (Ev.plain rfl) optN ?_
  refine ARun.move (.inr rfl) rfl rfl rfl (Ev.plain rfl) optN ?_
  refine ⟨_, _, rfl, hG, ?_⟩
  refine thenA_n ?_
  refine AWP.seq ?_
  refine AWP.region (fun _ => ?_)
  refine ARun.move (.inl rfl) rfl rfl rfl (Ev.plain rfl) optN ?_
  refine ARun.call rfl rfl rfl rfl cf21 (Ev.plain rfl) (.cons (Ev.plain rfl) .nil) rfl (fun hg => query2_fn) optN ?_
  refine ARun.call rfl rfl rfl rfl cf9 (Ev.plain rfl) (.cons (Ev.plain rfl) (.cons (Ev.plain rfl) (.cons (Ev.plain rfl) .nil))) rfl (fun hg => begin_fn (beginL [] 1 ⟨#[1, 1, 7, 7, 0, 0, 0]⟩) 2 ⟨#[1, 2, 7, 7, 0, 0, 0]⟩ (by decide +kernel) (by decide +kernel) (by decide +kernel)) optN ?_
  refine ARun.move (.inl rfl) rfl rfl rfl (Ev.plain rfl) optN ?_
  refine ARun.extract rfl rfl rfl rfl (Ev.plain rfl) rfl optN ?_
  refine ARun.extract rfl rfl rfl rfl (Ev.plain rfl) rfl optN ?_
  refine ARun.move (.inr rfl) rfl rfl rfl (Ev.plain rfl) optN ?_
  refine ARun.move (.inr rfl) rfl rfl rfl (Ev.plain rfl) optN ?_
  refine ⟨_, _, rfl, hG, ?_⟩
  refine thenA_n ?_
  refine AWP.seq ?_
  refine AWP.region (fun _ => ?_)
  refine ARun.move (.inl rfl) rfl rfl rfl (Ev.plain rfl) optN ?_
  refine ARun.call rfl rfl rfl rfl cf11 (Ev.plain rfl) (.cons (Ev.plain rfl) (.cons (Ev.plain rfl) (.cons (Ev.plain rfl) (.cons (Ev.plain rfl) (.cons (Ev.plain rfl) .nil))))) rfl (fun hg => end_fn2 (beginL [] 1 ⟨#[1, 1, 7, 7, 0, 0, 0]⟩) 5 1 1 ⟨#[120]⟩ (by decide +kernel) (by decide +kernel)) optN ?_
  refine ARun.move (.inl rfl) rfl rfl rfl (Ev.plain rfl) optN ?_
  refine ARun.extract rfl rfl rfl rfl (Ev.plain rfl) rfl optN ?_
  refine ARun.extract rfl rfl rfl rfl (Ev.plain rfl) rfl optN ?_
  refine ARun.move (.inr rfl) rfl rfl rfl (Ev.plain rfl) optN ?_
  refine ARun.move (.inr rfl) rfl rfl rfl (Ev.plain rfl) optN ?_
  refine ⟨_, _, rfl, hG, ?_⟩
  refine thenA_n ?_
  refine AWP.seq ?_
  refine AWP.region (fun _ => ?_)
  refine ARun.move (.inl rfl) rfl rfl rfl (Ev.plain rfl) optN ?_
  refine ARun.call rfl rfl rfl rfl cf11 (Ev.plain rfl) (.cons (Ev.plain rfl) (.cons (Ev.plain rfl) (.cons (Ev.plain rfl) (.cons (Ev.plain rfl) (.cons (Ev.plain rfl) .nil))))) rfl (fun hg => end_fn2 (endL (beginL [] 1 ⟨#[1, 1, 7, 7, 0, 0, 0]⟩) 5 1 1 ⟨#[120]⟩) 6 1 1 ⟨#[121]⟩ (by decide +kernel) (by decide +kernel)) optN ?_
  refine ARun.move (.inl rfl) rfl rfl rfl (Ev.plain rfl) optN ?_
  refine ARun.extract rfl rfl rfl rfl (Ev.plain rfl) rfl optN ?_
  refine ARun.extract rfl rfl rfl rfl (Ev.plain rfl) rfl optN ?_
  refine ARun.move (.inr rfl) rfl rfl rfl (Ev.plain rfl) optN ?_
  refine ARun.move (.inr rfl) rfl rfl rfl (Ev.plain rfl) optN ?_
  refine ⟨_, _, rfl, hG, ?_⟩
  refine thenA_n ?_
  refine AWP.seq ?_
  refine AWP.region (fun _ => ?_)
  refine ARun.move (.inl rfl) rfl rfl rfl (Ev.plain rfl) optN ?_
  refine ARun.call rfl rfl rfl rfl cf21 (Ev.plain rfl) (.cons (Ev.plain rfl) .nil) rfl (fun hg => query2_fn) optN ?_
  refine ARun.call rfl rfl rfl rfl cf9 (Ev.plain rfl) (.cons (Ev.plain rfl) (.cons (Ev.plain rfl) (.cons (Ev.plain rfl) .nil))) rfl (fun hg => begin_fn (endL (beginL [] 1 ⟨#[1, 1, 7, 7, 0, 0, 0]⟩) 5 1 1 ⟨#[120]⟩) 6 ⟨#[1, 2, 7, 7, 0, 0, 0]⟩ (by decide +kernel) (by decide +kernel) (by decide +kernel)) optN ?_
  refine ARun.move (.inl rfl) rfl rfl rfl (Ev.plain rfl) optN ?_
  refine ARun.extract rfl rfl rfl rfl (Ev.plain rfl) rfl optN ?_
  refine ARun.extract rfl rfl rfl rfl (Ev.plain rfl) rfl optN ?_
  refine ARun.move (.inr rfl) rfl rfl rfl (Ev.plain rfl) optN ?_
  refine ARun.move (.inr rfl) rfl rfl rfl (Ev.plain rfl) optN ?_
  refine ⟨_, _, rfl, hG, ?_⟩
  refine thenA_n ?_
  refine AWP.seq ?_
  refine AWP.region (fun _ => ?_)
  refine ARun.move (.inl rfl) rfl rfl rfl (Ev.plain rfl) optN ?_
  refine ARun.call rfl rfl rfl rfl cf21 (Ev.plain rfl) (.cons (Ev.plain rfl) .nil) rfl (fun hg => query1_fn) optN ?_
  refine ARun.call rfl rfl rfl rfl cf9 (Ev.plain rfl) (.cons (Ev.plain rfl) (.cons (Ev.plain rfl) (.cons (Ev.plain rfl) .nil))) rfl (fun hg => begin_fn (endL (beginL [] 1 ⟨#[1, 1, 7, 7, 0, 0, 0]⟩) 5 1 1 ⟨#[120]⟩) 6 ⟨#[1, 1, 7, 7, 0, 0, 0]⟩ (by decide +kernel) (by decide +kernel) (by decide +kernel)) optN ?_
  refine ARun.move (.inl rfl) rfl rfl rfl (Ev.plain rfl) optN ?_
  refine ARun.extract rfl rfl rfl rfl (Ev.plain rfl) rfl optN ?_
  refine ARun.extract rfl rfl rfl rfl (Ev.plain rfl) rfl optN ?_
  refine ARun.move (.inr rfl) rfl rfl rfl (Ev.plain rfl) optN ?_
  refine ARun.move (.inr rfl) rfl rfl rfl (Ev.plain rfl) optN ?_
  refine ⟨_, _, rfl, hG, ?_⟩
  refine thenA_n ?_
  refine AWP.seq ?_
  refine AWP.region (fun _ => ?_)
  refine ARun.move (.inl rfl) rfl rfl rfl (Ev.plain rfl) optN ?_
  refine ARun.call rfl rfl rfl rfl cf21 (Ev.plain rfl) (.cons (Ev.plain rfl) .nil) rfl (fun hg => query2_fn) optN ?_
  refine ARun.call rfl rfl rfl rfl cf9 (Ev.plain rfl) (.cons (Ev.plain rfl) (.cons (Ev.plain rfl) (.cons (Ev.plain rfl) .nil))) rfl (fun hg => begin_fn (endL (beginL [] 1 ⟨#[1, 1, 7, 7, 0, 0, 0]⟩) 5 1 1 ⟨#[120]⟩) 5 ⟨#[1, 2, 7, 7, 0, 0, 0]⟩ (by decide +kernel) (by decide +kernel) (by decide +kernel)) optN ?_
  refine ARun.move (.inl rfl) rfl rfl rfl (Ev.plain rfl) optN ?_
  refine ARun.extract rfl rfl rfl rfl (Ev.plain rfl) rfl optN ?_
  refine ARun.extract rfl rfl rfl rfl (Ev.plain rfl) rfl optN ?_
  refine ARun.move (.inr rfl) rfl rfl rfl (Ev.plain rfl) optN ?_
  refine ARun.move (.inr rfl) rfl rfl rfl (Ev.plain rfl) optN ?_
  refine ⟨_, _, rfl, hG, ?_⟩
  refine thenA_n ?_
  refine AWP.seq ?_
  refine AWP.draw mixed (by kernel_rfl) (fun _ => ?_)
  refine ARun.move (.inl rfl) rfl rfl rfl (Ev.plain rfl) optN ?_
  refine ARun.cmp rfl rfl rfl rfl (Ev.plain rfl) (Ev.plain rfl) rfl optN ?_
  refine ARun.move (.inl rfl) rfl rfl rfl (Ev.plain rfl) optN ?_
  refine ARun.move (.inl rfl) rfl rfl rfl (Ev.plain rfl) optS ?_
  refine ARun.cmp rfl rfl rfl rfl (Ev.opt rfl (fun h => h)) (Ev.plain rfl) rfl optS ?_
  refine ARun.pick rfl rfl rfl rfl (Ev.plain rfl) (Ev.opt rfl (by first | exact pkT | exact pkT2 | simp +contextual)) (Ev.plain rfl) (andB _ _) optN ?_
  refine ARun.move (.inl rfl) rfl rfl rfl (Ev.plain rfl) optN ?_
  refine ARun.move (.inl rfl) rfl rfl rfl (Ev.plain rfl) optS ?_
  refine ARun.cmp rfl rfl rfl rfl (Ev.opt rfl (fun h => h)) (Ev.plain rfl) rfl optS ?_
  refine ARun.pick rfl rfl rfl rfl (Ev.plain rfl) (Ev.opt rfl (by first | exact pkT | exact pkT2 | simp +contextual)) (Ev.plain rfl) (andB _ _) optN ?_
  refine ARun.move (.inl rfl) rfl rfl rfl (Ev.plain rfl) optN ?_
  refine ARun.move (.inl rfl) rfl rfl rfl (Ev.plain rfl) optS ?_
  refine ARun.cmp rfl rfl rfl rfl (Ev.opt rfl (fun h => h)) (Ev.plain rfl) rfl optS ?_
  refine ARun.pick rfl rfl rfl rfl (Ev.plain rfl) (Ev.opt rfl (by first | exact pkT | exact pkT2 | simp +contextual)) (Ev.plain rfl) (andB _ _) optN ?_
  refine ARun.move (.inl rfl) rfl rfl rfl (Ev.plain rfl) optN ?_
  refine ARun.move (.inl rfl) rfl rfl rfl (Ev.plain rfl) optS ?_
  refine ARun.cmp rfl rfl rfl rfl (Ev.opt rfl (fun h => h)) (Ev.plain rfl) rfl optS ?_
  refine ARun.pick rfl rfl rfl rfl (Ev.plain rfl) (Ev.opt rfl (by first | exact pkT | exact pkT2 | simp +contextual)) (Ev.plain rfl) (andB _ _) optN ?_
  refine ARun.move (.inl rfl) rfl rfl rfl (Ev.plain rfl) optN ?_
  refine ARun.move (.inl rfl) rfl rfl rfl (Ev.plain rfl) optS ?_
  refine ARun.cmp rfl rfl rfl rfl (Ev.opt rfl (fun h => h)) (Ev.plain rfl) rfl optS ?_
  refine ARun.pick rfl rfl rfl rfl (Ev.plain rfl) (Ev.opt rfl (by first | exact pkT | exact pkT2 | simp +contextual)) (Ev.plain rfl) (andB _ _) optN ?_
  refine ARun.move (.inl rfl) rfl rfl rfl (Ev.plain rfl) optN ?_
  refine ARun.move (.inl rfl) rfl rfl rfl (Ev.plain rfl) optS ?_
  refine ARun.cmp rfl rfl rfl rfl (Ev.opt rfl (fun h => h)) (Ev.plain rfl) rfl optS ?_
  refine ARun.pick rfl rfl rfl rfl (Ev.plain rfl) (Ev.opt rfl (by first | exact pkT | exact pkT2 | simp +contextual)) (Ev.plain rfl) (andB _ _) optN ?_
  refine ARun.move (.inl rfl) rfl rfl rfl (Ev.plain rfl) optN ?_
  refine ARun.move (.inl rfl) rfl rfl rfl (Ev.plain rfl) optS ?_
  refine ARun.lenSl rfl rfl rfl rfl Tryd.underlying22 (Ev.opt rfl (fun h => h)) optS ?_
  refine ARun.cmp rfl rfl rfl rfl (Ev.opt rfl (fun h => h)) (Ev.plain rfl) rfl optS ?_
  refine ARun.pick rfl rfl rfl rfl (Ev.plain rfl) (Ev.opt rfl (by first | exact pkT | exact pkT2 | simp +contextual)) (Ev.plain rfl) (andB _ _) optN ?_
  refine ARun.move (.inl rfl) rfl rfl rfl (Ev.plain rfl) optN ?_
  refine ARun.move (.inl rfl) rfl rfl rfl (Ev.plain rfl) optS ?_
  first | refine ARun.indexSl rfl rfl rfl rfl Tryd.underlying22 sz24 (Ev.opt rfl (fun h => h)) (Ev.plain rfl) (fun _ => rfl) (fun hg => getMap _ _ _ (by (try simp at hg); omega)) rfl rfl optS ?_ | refine ARun.indexSl rfl rfl rfl rfl Tryd.underlying22 sz24 (Ev.opt rfl (fun h => h)) (Ev.plain rfl) (fun hg => ofNonneg (by (try simp at hg); omega)) (fun hg => getMap _ _ _ (by (try simp at hg); omega)) rfl rfl optS ?_
  refine ARun.loadPeA rfl rfl rfl rfl Tryd.underlying24 rfl sz24 (Ev.opt rfl (fun h => h)) rfl optS ?_
  refine ARun.move (.inl rfl) rfl rfl rfl (Ev.plain rfl) optS ?_
  first | refine ARun.indexSl rfl rfl rfl rfl Tryd.underlying22 sz24 (Ev.opt rfl (fun h => h)) (Ev.plain rfl) (fun _ => rfl) (fun hg => getMap _ _ _ (by (try simp at hg); omega)) rfl rfl optS ?_ | refine ARun.indexSl rfl rfl rfl rfl Tryd.underlying22 sz24 (Ev.opt rfl (fun h => h)) (Ev.plain rfl) (fun hg => ofNonneg (by (try simp at hg); omega)) (fun hg => getMap _ _ _ (by (try simp at hg); omega)) rfl rfl optS ?_
  refine ARun.loadPeA rfl rfl rfl rfl Tryd.underlying24 rfl sz24 (Ev.opt rfl (fun h => h)) rfl optS ?_
  refine ARun.call rfl rfl rfl rfl cf16 (Ev.plain rfl) (.cons (Ev.opt rfl (fun h => h)) (.cons (Ev.opt rfl (fun h => h)) .nil)) rfl (fun hg => ahead_fn ((beginL (endL (beginL [] 1 ⟨#[1, 1, 7, 7, 0, 0, 0]⟩) 5 1 1 ⟨#[120]⟩) 6 ⟨#[1, 2, 7, 7, 0, 0, 0]⟩).getD 0 default) ((beginL (endL (beginL [] 1 ⟨#[1, 1, 7, 7, 0, 0, 0]⟩) 5 1 1 ⟨#[120]⟩) 6 ⟨#[1, 2, 7, 7, 0, 0, 0]⟩).getD 1 default)) optS ?_
  refine ARun.pick rfl rfl rfl rfl (Ev.plain rfl) (Ev.opt rfl (by first | exact pkT | exact pkT2 | simp +contextual)) (Ev.plain rfl) (andB _ _) optN ?_
  refine ARun.move (.inl rfl) rfl rfl rfl (Ev.plain rfl) optN ?_
  refine ARun.move (.inl rfl) rfl rfl rfl (Ev.plain rfl) optS ?_
  first | refine ARun.indexSl rfl rfl rfl rfl Tryd.underlying22 sz24 (Ev.opt rfl (fun h => h)) (Ev.plain rfl) (fun _ => rfl) (fun hg => getMap _ _ _ (by (try simp at hg); omega)) rfl rfl optS ?_ | refine ARun.indexSl rfl rfl rfl rfl Tryd.underlying22 sz24 (Ev.opt rfl (fun h => h)) (Ev.plain rfl) (fun hg => ofNonneg (by (try simp at hg); omega)) (fun hg => getMap _ _ _ (by (try simp at hg); omega)) rfl rfl optS ?_
  refine ARun.loadPeA rfl rfl rfl rfl Tryd.underlying24 rfl sz24 (Ev.opt rfl (fun h => h)) rfl optS ?_
  refine ARun.move (.inl rfl) rfl rfl rfl (Ev.plain rfl) optS ?_
  first | refine ARun.indexSl rfl rfl rfl rfl Tryd.underlying22 sz24 (Ev.opt rfl (fun h => h)) (Ev.plain rfl) (fun _ => rfl) (fun hg => getMap _ _ _ (by (try simp at hg); omega)) rfl rfl optS ?_ | refine ARun.indexSl rfl rfl rfl rfl Tryd.underlying22 sz24 (Ev.opt rfl (fun h => h)) (Ev.plain rfl) (fun hg => ofNonneg (by (try simp at hg); omega)) (fun hg => getMap _ _ _ (by (try simp at hg); omega)) rfl rfl optS ?_
  refine ARun.loadPeA rfl rfl rfl rfl Tryd.underlying24 rfl sz24 (Ev.opt rfl (fun h => h)) rfl optS ?_
  refine ARun.call rfl rfl rfl rfl cf16 (Ev.plain rfl) (.cons (Ev.opt rfl (fun h => h)) (.cons (Ev.opt rfl (fun h => h)) .nil)) rfl (fun hg => ahead_fn ((beginL (endL (beginL [] 1 ⟨#[1, 1, 7, 7, 0, 0, 0]⟩) 5 1 1 ⟨#[120]⟩) 6 ⟨#[1, 2, 7, 7, 0, 0, 0]⟩).getD 1 default) ((beginL (endL (beginL [] 1 ⟨#[1, 1, 7, 7, 0, 0, 0]⟩) 5 1 1 ⟨#[120]⟩) 6 ⟨#[1, 2, 7, 7, 0, 0, 0]⟩).getD 0 default)) optS ?_
  refine ARun.not rfl rfl rfl rfl (Ev.opt rfl (fun h => h)) optS ?_
  refine ARun.pick rfl rfl rfl rfl (Ev.plain rfl) (Ev.opt rfl (by first | exact pkT | exact pkT2 | simp +contextual)) (Ev.plain rfl) (andB _ _) optN ?_
  refine ARun.move (.inl rfl) rfl rfl rfl (Ev.plain rfl) optN ?_
  refine ARun.move (.inl rfl) rfl rfl rfl (Ev.plain rfl) optS ?_
  refine ARun.call rfl rfl rfl rfl cf18 (Ev.plain rfl) (.cons (Ev.opt rfl (fun h => h)) .nil) rfl (fun hg => open_fn (beginL (endL (beginL [] 1 ⟨#[1, 1, 7, 7, 0, 0, 0]⟩) 5 1 1 ⟨#[120]⟩) 6 ⟨#[1, 2, 7, 7, 0, 0, 0]⟩) (by decide +kernel)) optS ?_
  refine ARun.lenSl rfl rfl rfl rfl Tryd.underlying22 (Ev.opt rfl (fun h => h)) optS ?_
  refine ARun.cmp rfl rfl rfl rfl (Ev.opt rfl (fun h => h)) (Ev.plain rfl) rfl optS ?_
  refine ARun.pick rfl rfl rfl rfl (Ev.plain rfl) (Ev.opt rfl (by first | exact pkT | exact pkT2 | simp +contextual)) (Ev.plain rfl) (andB _ _) optN ?_
  refine ARun.move (.inl rfl) rfl rfl rfl (Ev.plain rfl) optN ?_
  refine ARun.move (.inl rfl) rfl rfl rfl (Ev.plain rfl) optS ?_
  refine ARun.call rfl rfl rfl rfl cf20 (Ev.plain rfl) (.cons (Ev.opt rfl (fun h => h)) (.cons (Ev.plain rfl) .nil)) rfl (fun hg => of_fn (beginL (endL (beginL [] 1 ⟨#[1, 1, 7, 7, 0, 0, 0]⟩) 5 1 1 ⟨#[120]⟩) 6 ⟨#[1, 2, 7, 7, 0, 0, 0]⟩) 1 (by decide +kernel)) optS ?_
  refine ARun.lenSl rfl rfl rfl rfl Tryd.underlying22 (Ev.opt rfl (fun h => h)) optS ?_
  refine ARun.cmp rfl rfl rfl rfl (Ev.opt rfl (fun h => h)) (Ev.plain rfl) rfl optS ?_
  refine ARun.pick rfl rfl rfl rfl (Ev.plain rfl) (Ev.opt rfl (by first | exact pkT | exact pkT2 | simp +contextual)) (Ev.plain rfl) (andB _ _) optN ?_
  refine ARun.move (.inl rfl) rfl rfl rfl (Ev.plain rfl) optN ?_
  refine ARun.move (.inl rfl) rfl rfl rfl (Ev.plain rfl) optS ?_
  refine ARun.call rfl rfl rfl rfl cf14 (Ev.plain rfl) (.cons (Ev.opt rfl (fun h => h)) .nil) rfl (fun hg => checkO_fn (beginL (endL (beginL [] 1 ⟨#[1, 1, 7, 7, 0, 0, 0]⟩) 5 1 1 ⟨#[120]⟩) 6 ⟨#[1, 2, 7, 7, 0, 0, 0]⟩) (by decide +kernel) (by decide +kernel)) optS ?_
  refine ARun.cmp rfl rfl rfl rfl (Ev.opt rfl (fun h => h)) (Ev.plain rfl) rfl optS ?_
  refine ARun.pick rfl rfl rfl rfl (Ev.plain rfl) (Ev.opt rfl (by first | exact pkT | exact pkT2 | simp +contextual)) (Ev.plain rfl) (andB _ _) optN ?_
  refine ARun.move (.inl rfl) rfl rfl rfl (Ev.plain rfl) optN ?_
  refine ARun.build rfl rfl rfl rfl so24 .nil rfl rfl optS ?_
  refine ARun.buildSl rfl rfl rfl rfl Tryd.underlying22 sz24 zv24 rfl (by decide) (.cons (Ev.opt rfl (fun h => h)) .nil) rfl rfl rfl rfl (by decide) rfl rfl optS ?_
  refine ARun.call rfl rfl rfl rfl cf14 (Ev.plain rfl) (.cons (Ev.opt rfl (fun h => h)) .nil) rfl (fun hg => checkO_fn [default] (by decide +kernel) (by decide +kernel)) optS ?_
  refine ARun.cmp rfl rfl rfl rfl (Ev.opt rfl (fun h => h)) (Ev.plain rfl) rfl optS ?_
  refine ARun.pick rfl rfl rfl rfl (Ev.plain rfl) (Ev.opt rfl (by first | exact pkT | exact pkT2 | simp +contextual)) (Ev.plain rfl) (andB _ _) optN ?_
  refine ARun.move (.inr rfl) rfl rfl rfl (Ev.plain rfl) optN ?_
  refine ⟨by kernel_rfl, _, _, rfl, hG, ?_⟩
  refine thenA_n ?_
  refine AWP.ret ?_
  refine endF.one (.inr rfl) rfl (.tmp rfl) ?_ hN
  refine congrArg AV.bool ?_
  decide +kernel
theorem ofQ_t (c : Int) : ofQ c true = fun o => decide (o.end_ = 0) := funext fun _ => if_pos rfl
theorem ofQ_f (c : Int) : ofQ c false = fun o => decide (o.client = c) := funext fun _ => if_neg (by decide)
theorem beginL_len (l : List Co) (n : Int) (p : ByteArray) : (beginL l n p).length ≤ l.length + 1 := by
  unfold beginL; split
  · simp
  · exact Nat.zero_le _
theorem endL_len (l : List Co) (n c s : Int) (r : ByteArray) : (endL l n c s r).length ≤ l.length := by
  unfold endL; split
  · simp
  · exact Nat.zero_le _
theorem ofP_le (l : List Co) (c : Int) : (ofP l c).length ≤ l.length := List.length_filter_le _ _
theorem openP_le (l : List Co) : (openP l).length ≤ l.length := List.length_filter_le _ _
theorem few_of {l : List Co} {o : Co} (h : (!fewO l || !fewO [o]) = false) : (l.length ≤ 120 ∧ ∀ x, x ∈ l → x.payload.size ≤ 1000000) ∧ o.payload.size ≤ 1000000 := by
  simp only [Bool.or_eq_false_iff, Bool.not_eq_false'] at h
  exact ⟨fewO_parts h.1, (fewO_parts h.2).2 o (List.mem_singleton.2 rfl)⟩
set_option maxHeartbeats 1000000 in
theorem tells_fn (l : List Co) (o : Co) : FnP Tryd.prog 3 [.sl (l.map aCo), aCo o] (.bool true) := by
  refine FnP.of Tryd.func3 rfl rfl (by simp) (by simp [AV.cells, aIn, aOut, aLn, aCl, aRp, aCo]) (fun G hG => ?_)
  have hN : NoH G.length (.bool true) := (by simp [AV.cells, aIn, aOut, aLn, aCl, aRp, aCo])
  refine AWP.seq ?_
  refine AWP.region (fun _ => ?_)
  refine ARun.boxPe rfl rfl rfl rfl (Ev.plain rfl) rfl rfl optN ?_
  refine ARun.move (.inr rfl) rfl rfl rfl (Ev.plain rfl) optN ?_
  refine ⟨_, _, rfl, hG, ?_⟩
  refine thenA_n ?_
  refine AWP.seq ?_
  refine AWP.seq ?_
  refine AWP.region (fun _ => ?_)
  refine ARun.move (.inl rfl) rfl rfl rfl (Ev.plain rfl) optN ?_
  refine ARun.call rfl rfl rfl rfl cf6 (Ev.plain rfl) (.cons (Ev.plain rfl) .nil) rfl (fun hg => fewO_fn l) optN ?_
  refine ARun.not rfl rfl rfl rfl (Ev.plain rfl) optN ?_
  refine ARun.move (.inl rfl) rfl rfl rfl (Ev.plain rfl) optN ?_
  refine ARun.loadPeA rfl rfl rfl rfl Tryd.underlying24 rfl sz24 (Ev.plain rfl) rfl optS ?_
  refine ARun.buildSl rfl rfl rfl rfl Tryd.underlying22 sz24 zv24 rfl (by decide) (.cons (Ev.opt rfl (fun h => h)) .nil) rfl rfl rfl rfl (by decide) rfl rfl optS ?_
  refine ARun.call rfl rfl rfl rfl cf6 (Ev.plain rfl) (.cons (Ev.opt rfl (fun h => h)) .nil) rfl (fun hg => fewO_fn [o]) optS ?_
  refine ARun.not rfl rfl rfl rfl (Ev.opt rfl (fun h => h)) optS ?_
  refine ARun.pick rfl rfl rfl rfl (Ev.plain rfl) (Ev.plain rfl) (Ev.opt rfl (by first | exact pkF | exact pkF2 | simp +contextual)) (orB _ _) optN ?_
  refine ⟨_, _, rfl, hG, ?_⟩
  refine thenA_n ?_
  refine AWP.cond rfl (fun h0 => ?_) (fun h0 => ?_)
  · skip
    skip
    refine AWP.seq ?_
    refine AWP.region (fun _ => ?_)
    refine ARun.call rfl rfl rfl rfl cf7 (Ev.plain rfl) .nil rfl (fun hg => awake_fn) optN ?_
    refine ARun.move (.inr rfl) rfl rfl rfl (Ev.plain rfl) optN ?_
    refine ⟨_, _, rfl, hG, ?_⟩
    refine thenA_n ?_
    refine AWP.ret ?_
    refine thenA_r ?_
    refine endF.one (.inr rfl) rfl (.tmp rfl) ?_ hN
    rfl
  · skip
    obtain ⟨⟨hl0, hp⟩, ho⟩ := few_of h0
    have hl : l.length ≤ 1000 := by omega
    have ho1 : ([o] : List Co).length = 1 := rfl
    refine AWP.skip ?_
    refine thenA_n ?_
    refine AWP.seq ?_
    refine AWP.region (fun _ => ?_)
    refine ARun.move (.inl rfl) rfl rfl rfl (Ev.plain rfl) optN ?_
    refine ARun.call rfl rfl rfl rfl cf8 (Ev.plain rfl) (.cons (Ev.plain rfl) .nil) rfl (fun hg => ofL_fn l hl) optN ?_
    refine ARun.move (.inr rfl) rfl rfl rfl (Ev.plain rfl) optN ?_
    refine ⟨_, _, rfl, hG, ?_⟩
    refine thenA_n ?_
    refine AWP.seq ?_
    refine AWP.region (fun _ => ?_)
    refine ARun.move (.inl rfl) rfl rfl rfl (Ev.plain rfl) optN ?_
    refine ARun.fieldPe rfl rfl rfl rfl Tryd.underlying24 rfl rfl sz3 (by decide) (Ev.plain rfl) rfl optN ?_
    refine ARun.loadPe rfl rfl rfl rfl Tryd.underlying3 rfl (Ev.plain rfl) rfl optN ?_
    refine ARun.fieldPe rfl rfl rfl rfl Tryd.underlying24 rfl rfl sz9 (by decide) (Ev.plain rfl) rfl optN ?_
    refine ARun.loadPe rfl rfl rfl rfl Tryd.underlying9 rfl (Ev.plain rfl) rfl optN ?_
    refine ARun.call rfl rfl rfl rfl cf9 (Ev.plain rfl) (.cons (Ev.plain rfl) (.cons (Ev.plain rfl) (.cons (Ev.plain rfl) .nil))) rfl (fun hg => begin_fn l o.start o.payload hl hp ho) optN ?_
    refine ARun.move (.inl rfl) rfl rfl rfl (Ev.plain rfl) optN ?_
    refine ARun.extract rfl rfl rfl rfl (Ev.plain rfl) rfl optN ?_
    refine ARun.extract rfl rfl rfl rfl (Ev.plain rfl) rfl optN ?_
    refine ARun.move (.inr rfl) rfl rfl rfl (Ev.plain rfl) optN ?_
    refine ARun.move (.inr rfl) rfl rfl rfl (Ev.plain rfl) optN ?_
    refine ⟨_, _, rfl, hG, ?_⟩
    refine thenA_n ?_
    refine AWP.seq ?_
    refine AWP.region (fun _ => ?_)
    refine ARun.move (.inl rfl) rfl rfl rfl (Ev.plain rfl) optN ?_
    refine ARun.fieldPe rfl rfl rfl rfl Tryd.underlying24 rfl rfl sz3 (by decide) (Ev.plain rfl) rfl optN ?_
    refine ARun.loadPe rfl rfl rfl rfl Tryd.underlying3 rfl (Ev.plain rfl) rfl optN ?_
    refine ARun.fieldPe rfl rfl rfl rfl Tryd.underlying24 rfl rfl sz9 (by decide) (Ev.plain rfl) rfl optN ?_
    refine ARun.loadPe rfl rfl rfl rfl Tryd.underlying9 rfl (Ev.plain rfl) rfl optN ?_
    refine ARun.call rfl rfl rfl rfl cf10 (Ev.plain rfl) (.cons (Ev.plain rfl) (.cons (Ev.plain rfl) (.cons (Ev.plain rfl) .nil))) rfl (fun hg => beginR_fn l o.start o.payload hl hp ho) optN ?_
    refine ARun.move (.inl rfl) rfl rfl rfl (Ev.plain rfl) optN ?_
    refine ARun.extract rfl rfl rfl rfl (Ev.plain rfl) rfl optN ?_
    refine ARun.extract rfl rfl rfl rfl (Ev.plain rfl) rfl optN ?_
    refine ARun.move (.inr rfl) rfl rfl rfl (Ev.plain rfl) optN ?_
    refine ARun.move (.inr rfl) rfl rfl rfl (Ev.plain rfl) optN ?_
    refine ⟨_, _, rfl, hG, ?_⟩
    refine thenA_n ?_
    refine AWP.seq ?_
    refine AWP.region (fun _ => ?_)
    refine ARun.move (.inl rfl) rfl rfl rfl (Ev.plain rfl) optN ?_
    refine ARun.fieldPe rfl rfl rfl rfl Tryd.underlying24 rfl rfl sz3 (by decide) (Ev.plain rfl) rfl optN ?_
    refine ARun.loadPe rfl rfl rfl rfl Tryd.underlying3 rfl (Ev.plain rfl) rfl optN ?_
    refine ARun.fieldPe rfl rfl rfl rfl Tryd.underlying24 rfl rfl sz3 (by decide) (Ev.plain rfl) rfl optN ?_
    refine ARun.loadPe rfl rfl rfl rfl Tryd.underlying3 rfl (Ev.plain rfl) rfl optN ?_
    refine ARun.fieldPe rfl rfl rfl rfl Tryd.underlying24 rfl rfl sz3 (by decide) (Ev.plain rfl) rfl optN ?_
    refine ARun.loadPe rfl rfl rfl rfl Tryd.underlying3 rfl (Ev.plain rfl) rfl optN ?_
    refine ARun.fieldPe rfl rfl rfl rfl Tryd.underlying24 rfl rfl sz9 (by decide) (Ev.plain rfl) rfl optN ?_
    refine ARun.loadPe rfl rfl rfl rfl Tryd.underlying9 rfl (Ev.plain rfl) rfl optN ?_
    refine ARun.call rfl rfl rfl rfl cf11 (Ev.plain rfl) (.cons (Ev.plain rfl) (.cons (Ev.plain rfl) (.cons (Ev.plain rfl) (.cons (Ev.plain rfl) (.cons (Ev.plain rfl) .nil))))) rfl (fun hg => end_fn2 l o.end_ o.client o.seq o.reply hl hp) optN ?_
    refine ARun.move (.inl rfl) rfl rfl rfl (Ev.plain rfl) optN ?_
    refine ARun.extract rfl rfl rfl rfl (Ev.plain rfl) rfl optN ?_
    refine ARun.extract rfl rfl rfl rfl (Ev.plain rfl) rfl optN ?_
    refine ARun.move (.inr rfl) rfl rfl rfl (Ev.plain rfl) optN ?_
    refine ARun.move (.inr rfl) rfl rfl rfl (Ev.plain rfl) optN ?_
    refine ⟨_, _, rfl, hG, ?_⟩
    refine thenA_n ?_
    refine AWP.seq ?_
    refine AWP.region (fun _ => ?_)
    refine ARun.move (.inl rfl) rfl rfl rfl (Ev.plain rfl) optN ?_
    refine ARun.fieldPe rfl rfl rfl rfl Tryd.underlying24 rfl rfl sz3 (by decide) (Ev.plain rfl) rfl optN ?_
    refine ARun.loadPe rfl rfl rfl rfl Tryd.underlying3 rfl (Ev.plain rfl) rfl optN ?_
    refine ARun.fieldPe rfl rfl rfl rfl Tryd.underlying24 rfl rfl sz3 (by decide) (Ev.plain rfl) rfl optN ?_
    refine ARun.loadPe rfl rfl rfl rfl Tryd.underlying3 rfl (Ev.plain rfl) rfl optN ?_
    refine ARun.fieldPe rfl rfl rfl rfl Tryd.underlying24 rfl rfl sz3 (by decide) (Ev.plain rfl) rfl optN ?_
    refine ARun.loadPe rfl rfl rfl rfl Tryd.underlying3 rfl (Ev.plain rfl) rfl optN ?_
    refine ARun.fieldPe rfl rfl rfl rfl Tryd.underlying24 rfl rfl sz9 (by decide) (Ev.plain rfl) rfl optN ?_
    refine ARun.loadPe rfl rfl rfl rfl Tryd.underlying9 rfl (Ev.plain rfl) rfl optN ?_
    refine ARun.call rfl rfl rfl rfl cf12 (Ev.plain rfl) (.cons (Ev.plain rfl) (.cons (Ev.plain rfl) (.cons (Ev.plain rfl) (.cons (Ev.plain rfl) (.cons (Ev.plain rfl) .nil))))) rfl (fun hg => endR_fn l o.end_ o.client o.seq o.reply hl hp) optN ?_
    refine ARun.move (.inl rfl) rfl rfl rfl (Ev.plain rfl) optN ?_
    refine ARun.extract rfl rfl rfl rfl (Ev.plain rfl) rfl optN ?_
    refine ARun.extract rfl rfl rfl rfl (Ev.plain rfl) rfl optN ?_
    refine ARun.move (.inr rfl) rfl rfl rfl (Ev.plain rfl) optN ?_
    refine ARun.move (.inr rfl) rfl rfl rfl (Ev.plain rfl) optN ?_
    refine ⟨_, _, rfl, hG, ?_⟩
    refine thenA_n ?_
    refine AWP.seq ?_
    refine AWP.seq ?_
    refine AWP.region (fun _ => ?_)
    refine ARun.move (.inl rfl) rfl rfl rfl (Ev.plain rfl) optN ?_
    refine ARun.call rfl rfl rfl rfl cf8 (Ev.plain rfl) (.cons (Ev.plain rfl) .nil) rfl (fun hg => ofL_fn (beginL l o.start o.payload) (by have := beginL_len l o.start o.payload; omega)) optN ?_
    refine ARun.move (.inl rfl) rfl rfl rfl (Ev.plain rfl) optN ?_
    refine ARun.call rfl rfl rfl rfl cf13 (Ev.plain rfl) (.cons (Ev.plain rfl) (.cons (Ev.plain rfl) .nil)) rfl (fun hg => sameCo_fn (beginL l o.start o.payload) (beginL l o.start o.payload) (by have := beginL_len l o.start o.payload; omega)) optN ?_
    refine ARun.not rfl rfl rfl rfl (Ev.plain rfl) optN ?_
    refine ARun.move (.inl rfl) rfl rfl rfl (Ev.plain rfl) optN ?_
    refine ARun.move (.inl rfl) rfl rfl rfl (Ev.plain rfl) optS ?_
    refine ARun.move (.inl rfl) rfl rfl rfl (Ev.plain rfl) optS ?_
    refine ARun.cmp rfl rfl rfl rfl (Ev.opt rfl (fun h => h)) (Ev.opt rfl (fun h => h)) rfl optS ?_
    refine ARun.pick rfl rfl rfl rfl (Ev.plain rfl) (Ev.plain rfl) (Ev.opt rfl (by first | exact pkF | exact pkF2 | simp +contextual)) (orB _ _) optN ?_
    refine ARun.move (.inl rfl) rfl rfl rfl (Ev.plain rfl) optN ?_
    refine ARun.move (.inl rfl) rfl rfl rfl (Ev.plain rfl) optS ?_
    refine ARun.call rfl rfl rfl rfl cf8 (Ev.plain rfl) (.cons (Ev.opt rfl (fun h => h)) .nil) rfl (fun hg => ofL_fn (endL l o.end_ o.client o.seq o.reply) (by have := endL_len l o.end_ o.client o.seq o.reply; omega)) optS ?_
    refine ARun.move (.inl rfl) rfl rfl rfl (Ev.plain rfl) optS ?_
    refine ARun.call rfl rfl rfl rfl cf13 (Ev.plain rfl) (.cons (Ev.opt rfl (fun h => h)) (.cons (Ev.opt rfl (fun h => h)) .nil)) rfl (fun hg => sameCo_fn (endL l o.end_ o.client o.seq o.reply) (endL l o.end_ o.client o.seq o.reply) (by have := endL_len l o.end_ o.client o.seq o.reply; omega)) optS ?_
    refine ARun.not rfl rfl rfl rfl (Ev.opt rfl (fun h => h)) optS ?_
    refine ARun.pick rfl rfl rfl rfl (Ev.plain rfl) (Ev.plain rfl) (Ev.opt rfl (by first | exact pkF | exact pkF2 | simp +contextual)) (orB _ _) optN ?_
    refine ARun.move (.inl rfl) rfl rfl rfl (Ev.plain rfl) optN ?_
    refine ARun.move (.inl rfl) rfl rfl rfl (Ev.plain rfl) optS ?_
    refine ARun.move (.inl rfl) rfl rfl rfl (Ev.plain rfl) optS ?_
    refine ARun.cmp rfl rfl rfl rfl (Ev.opt rfl (fun h => h)) (Ev.opt rfl (fun h => h)) rfl optS ?_
    refine ARun.pick rfl rfl rfl rfl (Ev.plain rfl) (Ev.plain rfl) (Ev.opt rfl (by first | exact pkF | exact pkF2 | simp +contextual)) (orB _ _) optN ?_
    refine ARun.move (.inl rfl) rfl rfl rfl (Ev.plain rfl) optN ?_
    refine ARun.move (.inl rfl) rfl rfl rfl (Ev.plain rfl) optS ?_
    refine ARun.call rfl rfl rfl rfl cf14 (Ev.plain rfl) (.cons (Ev.opt rfl (fun h => h)) .nil) rfl (fun hg => checkO_fn l hl hp) optS ?_
    refine ARun.move (.inl rfl) rfl rfl rfl (Ev.plain rfl) optS ?_
    refine ARun.call rfl rfl rfl rfl cf15 (Ev.plain rfl) (.cons (Ev.opt rfl (fun h => h)) .nil) rfl (fun hg => checkOR_fn l hl hp) optS ?_
    refine ARun.cmp rfl rfl rfl rfl (Ev.opt rfl (fun h => h)) (Ev.opt rfl (fun h => h)) rfl optS ?_
    refine ARun.pick rfl rfl rfl rfl (Ev.plain rfl) (Ev.plain rfl) (Ev.opt rfl (by first | exact pkF | exact pkF2 | simp +contextual)) (orB _ _) optN ?_
    refine ⟨_, _, rfl, hG, ?_⟩
    refine thenA_n ?_
    refine AWP.cond rfl (fun h1 => ?_) (fun h1 => ?_)
    · skip
      simp at h1
    · skip
      skip
      refine AWP.skip ?_
      refine thenA_n ?_
      refine AWP.seq ?_
      refine AWP.seq ?_
      refine AWP.region (fun _ => ?_)
      refine ARun.move (.inr rfl) rfl rfl rfl (Ev.plain rfl) optN ?_
      refine ⟨_, _, rfl, hG, ?_⟩
      refine thenA_n ?_
      refine AWP.block ?_
      refine AWP.rounds (fun k => k ≤ l.length) (fun k => [(0, .sl (l.map aCo)), (5, .sl (l.map aCo)), (3, .pe (aCo o).cells), (14, .int .i64 (k : Int))]) (fun k => []) (fun k => l.length - k) 0 0 (Nat.zero_le _) (by repeat (first | exact .nil | refine .cons rfl ?_)) rfl (fun _ => rfl) (fun _ => ⟨by simp [AV.cells, aCo], by simp⟩) (fun k hI => ?_)
      refine AWP.seq ?_
      refine AWP.seq ?_
      refine AWP.region (fun _ => ?_)
      refine ARun.move (.inl rfl) rfl rfl rfl (Ev.plain rfl) optN ?_
      refine ARun.move (.inl rfl) rfl rfl rfl (Ev.plain rfl) optN ?_
      refine ARun.lenSl rfl rfl rfl rfl Tryd.underlying22 (Ev.plain rfl) optN ?_
      refine ARun.cmp rfl rfl rfl rfl (Ev.plain rfl) (Ev.plain rfl) rfl optN ?_
      refine ⟨_, _, rfl, hG, ?_⟩
      refine thenA_n ?_
      refine AWP.cond rfl (fun h2 => ?_) (fun h2 => ?_)
      · skip
        try simp [-List.getD_eq_getElem?_getD] at h2
        refine AWP.skip ?_
        refine thenA_n ?_
        refine AWP.seq ?_
        refine AWP.block ?_
        refine AWP.seq ?_
        refine AWP.draw mixed (by kernel_rfl) (fun _ => ?_)
        refine ARun.move (.inl rfl) rfl rfl rfl (Ev.plain rfl) optN ?_
        refine ARun.move (.inl rfl) rfl rfl rfl (Ev.plain rfl) optN ?_
        first | refine ARun.indexSl rfl rfl rfl rfl Tryd.underlying22 sz24 (Ev.plain rfl) (Ev.plain rfl) (fun _ => rfl) (fun hg => getMap _ _ _ (by (try simp at hg); omega)) rfl rfl optN ?_ | refine ARun.indexSl rfl rfl rfl rfl Tryd.underlying22 sz24 (Ev.plain rfl) (Ev.plain rfl) (fun hg => ofNonneg (by (try simp at hg); omega)) (fun hg => getMap _ _ _ (by (try simp at hg); omega)) rfl rfl optN ?_
        refine ARun.loadPeA rfl rfl rfl rfl Tryd.underlying24 rfl sz24 (Ev.plain rfl) rfl optN ?_
        refine ARun.loadPeA rfl rfl rfl rfl Tryd.underlying24 rfl sz24 (Ev.plain rfl) rfl optN ?_
        refine ARun.call rfl rfl rfl rfl cf16 (Ev.plain rfl) (.cons (Ev.plain rfl) (.cons (Ev.plain rfl) .nil)) rfl (fun hg => ahead_fn (l.getD k default) o) optN ?_
        refine ARun.move (.inl rfl) rfl rfl rfl (Ev.plain rfl) optN ?_
        refine ARun.move (.inl rfl) rfl rfl rfl (Ev.plain rfl) optN ?_
        first | refine ARun.indexSl rfl rfl rfl rfl Tryd.underlying27 sz41 (Ev.plain rfl) (Ev.plain rfl) (fun _ => rfl) (fun hg => getMap _ _ _ (by (try simp at hg); omega)) rfl rfl optN ?_ | refine ARun.indexSl rfl rfl rfl rfl Tryd.underlying27 sz41 (Ev.plain rfl) (Ev.plain rfl) (fun hg => ofNonneg (by (try simp at hg); omega)) (fun hg => getMap _ _ _ (by (try simp at hg); omega)) rfl rfl optN ?_
        refine ARun.loadPeA rfl rfl rfl rfl Tryd.underlying41 rfl sz41 (Ev.plain rfl) rfl optN ?_
        refine ARun.loadPeA rfl rfl rfl rfl Tryd.underlying24 rfl sz24 (Ev.plain rfl) rfl optN ?_
        refine ARun.buildSl rfl rfl rfl rfl Tryd.underlying22 sz24 zv24 rfl (by decide) (.cons (Ev.plain rfl) .nil) rfl rfl rfl rfl (by decide) rfl rfl optN ?_
        refine ARun.call rfl rfl rfl rfl cf8 (Ev.plain rfl) (.cons (Ev.plain rfl) .nil) rfl (fun hg => ofL_fn [o] (by simp)) optN ?_
        first | refine ARun.indexSl rfl rfl rfl rfl Tryd.underlying27 sz41 (Ev.plain rfl) (Ev.plain rfl) (fun _ => rfl) (fun hg => getMap _ _ _ (by (try simp at hg); omega)) rfl rfl optN ?_ | refine ARun.indexSl rfl rfl rfl rfl Tryd.underlying27 sz41 (Ev.plain rfl) (Ev.plain rfl) (fun hg => ofNonneg (by (try simp at hg); omega)) (fun hg => getMap _ _ _ (by (try simp at hg); omega)) rfl rfl optN ?_
        refine ARun.loadPeA rfl rfl rfl rfl Tryd.underlying41 rfl sz41 (Ev.plain rfl) rfl optN ?_
        refine ARun.call rfl rfl rfl rfl cf17 (Ev.plain rfl) (.cons (Ev.plain rfl) (.cons (Ev.plain rfl) .nil)) rfl (fun hg => aheadR_fn (l.getD k default) o) optN ?_
        refine ARun.cmpB rfl rfl rfl rfl Tryd.underlying4 (Ev.plain rfl) (Ev.plain rfl) rfl optN ?_
        refine ⟨by kernel_rfl, _, _, rfl, hG, ?_⟩
        refine thenA_n ?_
        refine AWP.cond rfl (fun h3 => ?_) (fun h3 => ?_)
        · skip
          simp at h3
        · skip
          skip
          refine AWP.skip ?_
          refine blockA_n ?_
          refine thenA_n ?_
          refine AWP.region (fun _ => ?_)
          refine ARun.move (.inl rfl) rfl rfl rfl (Ev.plain rfl) optN ?_
          first | refine ARun.arith rfl rfl rfl rfl (Ev.plain rfl) (Ev.plain rfl) rfl (fun hg => i64w (by (try simp at hg); omega)) optN ?_ | refine ARun.arith rfl rfl rfl rfl (Ev.plain rfl) (Ev.plain rfl) rfl (fun _ => rfl) optN ?_
          refine ARun.move (.inr rfl) rfl rfl rfl (Ev.plain rfl) optN ?_
          refine ⟨_, _, rfl, hG, ?_⟩
          refine thenA_n ⟨rfl, k + 1, _, ?_, ?_, rfl, ?_⟩
          · omega
          · repeat (first | exact .nil | refine .cons rfl ?_)
          · omega
      · skip
        try simp [-List.getD_eq_getElem?_getD] at h2
        refine AWP.exit ?_
        refine thenA_x ?_
        refine thenA_x ?_
        refine blockA_h ?_
        refine thenA_n ?_
        refine AWP.seq ?_
        refine AWP.draw mixed (by kernel_rfl) (fun _ => ?_)
        refine ARun.move (.inl rfl) rfl rfl rfl (Ev.plain rfl) optN ?_
        refine ARun.call rfl rfl rfl rfl cf18 (Ev.plain rfl) (.cons (Ev.plain rfl) .nil) rfl (fun hg => open_fn l hl) optN ?_
        refine ARun.call rfl rfl rfl rfl cf8 (Ev.plain rfl) (.cons (Ev.plain rfl) .nil) rfl (fun hg => ofL_fn (openP l) (by have := openP_le l; omega)) optN ?_
        refine ARun.move (.inl rfl) rfl rfl rfl (Ev.plain rfl) optN ?_
        refine ARun.call rfl rfl rfl rfl cf19 (Ev.plain rfl) (.cons (Ev.plain rfl) (.cons (Ev.plain rfl) (.cons (Ev.plain rfl) .nil))) rfl (fun hg => ofR_fn l 0 true hl) optN ?_
        refine ARun.call rfl rfl rfl rfl cf13 (Ev.plain rfl) (.cons (Ev.plain rfl) (.cons (Ev.plain rfl) .nil)) rfl (fun hg => sameCo_fn (openP l) (l.filter (ofQ 0 true)) (by have := openP_le l; omega)) optN ?_
        refine ARun.move (.inl rfl) rfl rfl rfl (Ev.plain rfl) optN ?_
        refine ARun.move (.inl rfl) rfl rfl rfl (Ev.plain rfl) optS ?_
        refine ARun.fieldPe rfl rfl rfl rfl Tryd.underlying24 rfl rfl sz3 (by decide) (Ev.plain rfl) rfl optS ?_
        refine ARun.loadPe rfl rfl rfl rfl Tryd.underlying3 rfl (Ev.opt rfl (fun h => h)) rfl optS ?_
        refine ARun.call rfl rfl rfl rfl cf20 (Ev.plain rfl) (.cons (Ev.opt rfl (fun h => h)) (.cons (Ev.opt rfl (fun h => h)) .nil)) rfl (fun hg => of_fn l o.client hl) optS ?_
        refine ARun.call rfl rfl rfl rfl cf8 (Ev.plain rfl) (.cons (Ev.opt rfl (fun h => h)) .nil) rfl (fun hg => ofL_fn (ofP l o.client) (by have := ofP_le l o.client; omega)) optS ?_
        refine ARun.move (.inl rfl) rfl rfl rfl (Ev.plain rfl) optS ?_
        refine ARun.fieldPe rfl rfl rfl rfl Tryd.underlying24 rfl rfl sz3 (by decide) (Ev.plain rfl) rfl optS ?_
        refine ARun.loadPe rfl rfl rfl rfl Tryd.underlying3 rfl (Ev.opt rfl (fun h => h)) rfl optS ?_
        refine ARun.call rfl rfl rfl rfl cf19 (Ev.plain rfl) (.cons (Ev.opt rfl (fun h => h)) (.cons (Ev.opt rfl (fun h => h)) (.cons (Ev.plain rfl) .nil))) rfl (fun hg => ofR_fn l o.client false hl) optS ?_
        refine ARun.call rfl rfl rfl rfl cf13 (Ev.plain rfl) (.cons (Ev.opt rfl (fun h => h)) (.cons (Ev.opt rfl (fun h => h)) .nil)) rfl (fun hg => sameCo_fn (ofP l o.client) (l.filter (ofQ o.client false)) (by have := ofP_le l o.client; omega)) optS ?_
        refine ARun.pick rfl rfl rfl rfl (Ev.plain rfl) (Ev.opt rfl (by first | exact pkT | exact pkT2 | simp +contextual)) (Ev.plain rfl) (andB _ _) optN ?_
        refine ARun.move (.inl rfl) rfl rfl rfl (Ev.plain rfl) optN ?_
        refine ARun.call rfl rfl rfl rfl cf7 (Ev.plain rfl) .nil rfl (fun hg => awake_fn) optS ?_
        refine ARun.pick rfl rfl rfl rfl (Ev.plain rfl) (Ev.opt rfl (by first | exact pkT | exact pkT2 | simp +contextual)) (Ev.plain rfl) (andB _ _) optN ?_
        refine ARun.move (.inr rfl) rfl rfl rfl (Ev.plain rfl) optN ?_
        refine ⟨by kernel_rfl, _, _, rfl, hG, ?_⟩
        refine thenA_n ?_
        refine AWP.ret ?_
        refine endF.one (.inr rfl) rfl (.tmp rfl) ?_ hN
        simp [openP, ofP, ofQ_t, ofQ_f]
end Go.Proofs.YthogpkmidffdeaaDoor
