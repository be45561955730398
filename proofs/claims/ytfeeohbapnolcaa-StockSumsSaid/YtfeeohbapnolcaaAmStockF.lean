/- What all have. -/
import Derived.Test.YtfeeohbapnolcaaAmStockD
import Derived.Test.YtfeeohbapnolcaaStockSums0
namespace Go.Proofs.Ytfeeohbapnolcaa
set_option linter.unusedVariables false
set_option linter.unusedSimpArgs false
open Go.RowKit
open StockP
set_option maxRecDepth 100000
set_option maxHeartbeats 1000000 in
theorem sum_fn (l : List It) (id : Int) (hok : ok l = true) : FnP Try.prog 22 [.sl (l.map aIt), .int .i64 id] (.tup [.int .i64 (wS tot l), .int .i64 (wS (one id) l)]) := by
  refine FnP.of Try.func22 rfl rfl (by simp) (by simp [AV.cells, aIt]) (fun G hG => ?_)
  have hN : NoH G.length (.tup [.int .i64 (wS tot l), .int .i64 (wS (one id) l)]) := (by simp [AV.cells, aIt])
  refine AWP.seq ?_
  refine AWP.region (fun _ => ?_)
  refine ARun.move (.inr rfl) rfl rfl rfl (Ev.plain rfl) optN ?_
  refine ARun.move (.inr rfl) rfl rfl rfl (Ev.plain rfl) optN ?_
  refine ⟨_, _, rfl, hG, ?_⟩
  refine thenA_n ?_
  refine AWP.seq ?_
  refine AWP.region (fun _ => ?_)
  refine ARun.move (.inr rfl) rfl rfl rfl (Ev.plain rfl) optN ?_
  refine ARun.move (.inr rfl) rfl rfl rfl (Ev.plain rfl) optN ?_
  refine ⟨_, _, rfl, hG, ?_⟩
  refine thenA_n ?_
  refine AWP.seq ?_
  refine AWP.seq ?_
  refine AWP.region (fun _ => ?_)
  refine ARun.move (.inr rfl) rfl rfl rfl (Ev.plain rfl) optN ?_
  refine ⟨_, _, rfl, hG, ?_⟩
  refine thenA_n ?_
  refine AWP.block ?_
  refine AWP.rounds (fun k => k ≤ l.length) (fun k => [(0, .sl (l.map aIt)), (1, .int .i64 id), (6, .int .i64 (wS tot (l.take k))), (7, .int .i64 (wS (one id) (l.take k))), (8, .int .i64 (k : Int))]) (fun k => []) (fun k => l.length - k) 0 0 (Nat.zero_le _) (by repeat (first | exact .nil | refine .cons rfl ?_)) rfl (fun _ => rfl) (fun _ => ⟨by simp [AV.cells, aIt], by simp⟩) (fun k hI => ?_)
  have hb := sums_bd (take_ok hok k) id
  have hlen := ok_len hok
  refine AWP.seq ?_
  refine AWP.seq ?_
  refine AWP.region (fun _ => ?_)
  refine ARun.move (.inl rfl) rfl rfl rfl (Ev.plain rfl) optN ?_
  refine ARun.move (.inl rfl) rfl rfl rfl (Ev.plain rfl) optN ?_
  refine ARun.lenSl rfl rfl rfl rfl Try.underlying22 (Ev.plain rfl) optN ?_
  refine ARun.cmp rfl rfl rfl rfl (Ev.plain rfl) (Ev.plain rfl) rfl optN ?_
  refine ⟨_, _, rfl, hG, ?_⟩
  refine thenA_n ?_
  refine AWP.cond rfl (fun h0 => ?_) (fun h0 => ?_)
  · skip
    simp [-List.getD_eq_getElem?_getD] at h0
    have hk : k < l.length := h0
    have hm := may_iff.1 (show may (l.getD k default) = true by rw [It_idx hk]; exact ok_may hok _ (List.getElem_mem hk))
    refine AWP.skip ?_
    refine thenA_n ?_
    refine AWP.seq ?_
    refine AWP.block ?_
    refine AWP.seq ?_
    refine AWP.draw mixed (by kernel_rfl) (fun _ => ?_)
    refine ARun.move (.inl rfl) rfl rfl rfl (Ev.plain rfl) optN ?_
    refine ARun.move (.inl rfl) rfl rfl rfl (Ev.plain rfl) optN ?_
    first | refine ARun.indexSl rfl rfl rfl rfl Try.underlying22 sz34 (Ev.plain rfl) (Ev.plain rfl) (fun _ => rfl) (fun hg => getMap _ _ _ (by (try simp [-List.getD_eq_getElem?_getD] at hg); omega)) rfl rfl optN ?_ | refine ARun.indexSl rfl rfl rfl rfl Try.underlying22 sz34 (Ev.plain rfl) (Ev.plain rfl) (fun hg => ofNonneg (by (try simp [-List.getD_eq_getElem?_getD] at hg); omega)) (fun hg => getMap _ _ _ (by (try simp [-List.getD_eq_getElem?_getD] at hg); omega)) rfl rfl optN ?_
    refine ARun.fieldPe rfl rfl rfl rfl Try.underlying34 rfl rfl sz3 (by decide) (Ev.plain rfl) rfl optN ?_
    refine ARun.loadPe rfl rfl rfl rfl Try.underlying3 rfl (Ev.plain rfl) rfl optN ?_
    refine ARun.move (.inl rfl) rfl rfl rfl (Ev.plain rfl) optN ?_
    refine ARun.move (.inl rfl) rfl rfl rfl (Ev.plain rfl) optN ?_
    first | refine ARun.indexSl rfl rfl rfl rfl Try.underlying22 sz34 (Ev.plain rfl) (Ev.plain rfl) (fun _ => rfl) (fun hg => getMap _ _ _ (by (try simp [-List.getD_eq_getElem?_getD] at hg); omega)) rfl rfl optN ?_ | refine ARun.indexSl rfl rfl rfl rfl Try.underlying22 sz34 (Ev.plain rfl) (Ev.plain rfl) (fun hg => ofNonneg (by (try simp [-List.getD_eq_getElem?_getD] at hg); omega)) (fun hg => getMap _ _ _ (by (try simp [-List.getD_eq_getElem?_getD] at hg); omega)) rfl rfl optN ?_
    refine ARun.fieldPe rfl rfl rfl rfl Try.underlying34 rfl rfl sz3 (by decide) (Ev.plain rfl) rfl optN ?_
    refine ARun.loadPe rfl rfl rfl rfl Try.underlying3 rfl (Ev.plain rfl) rfl optN ?_
    first | refine ARun.arith rfl rfl rfl rfl (Ev.plain rfl) (Ev.plain rfl) rfl (fun hg => i64w (by (try simp [-List.getD_eq_getElem?_getD] at hg); omega)) optN ?_ | refine ARun.arith rfl rfl rfl rfl (Ev.plain rfl) (Ev.plain rfl) rfl (fun _ => rfl) optN ?_
    refine ARun.move (.inl rfl) rfl rfl rfl (Ev.plain rfl) optN ?_
    refine ARun.move (.inl rfl) rfl rfl rfl (Ev.plain rfl) optN ?_
    first | refine ARun.indexSl rfl rfl rfl rfl Try.underlying22 sz34 (Ev.plain rfl) (Ev.plain rfl) (fun _ => rfl) (fun hg => getMap _ _ _ (by (try simp [-List.getD_eq_getElem?_getD] at hg); omega)) rfl rfl optN ?_ | refine ARun.indexSl rfl rfl rfl rfl Try.underlying22 sz34 (Ev.plain rfl) (Ev.plain rfl) (fun hg => ofNonneg (by (try simp [-List.getD_eq_getElem?_getD] at hg); omega)) (fun hg => getMap _ _ _ (by (try simp [-List.getD_eq_getElem?_getD] at hg); omega)) rfl rfl optN ?_
    refine ARun.fieldPe rfl rfl rfl rfl Try.underlying34 rfl rfl sz3 (by decide) (Ev.plain rfl) rfl optN ?_
    refine ARun.loadPe rfl rfl rfl rfl Try.underlying3 rfl (Ev.plain rfl) rfl optN ?_
    first | refine ARun.arith rfl rfl rfl rfl (Ev.plain rfl) (Ev.plain rfl) rfl (fun hg => i64w (by (try simp [-List.getD_eq_getElem?_getD] at hg); omega)) optN ?_ | refine ARun.arith rfl rfl rfl rfl (Ev.plain rfl) (Ev.plain rfl) rfl (fun _ => rfl) optN ?_
    refine ARun.move (.inr rfl) rfl rfl rfl (Ev.plain rfl) optN ?_
    refine ⟨by kernel_rfl, _, _, rfl, hG, ?_⟩
    refine thenA_n ?_
    refine AWP.seq ?_
    refine AWP.region (fun _ => ?_)
    refine ARun.move (.inl rfl) rfl rfl rfl (Ev.plain rfl) optN ?_
    refine ARun.move (.inl rfl) rfl rfl rfl (Ev.plain rfl) optN ?_
    first | refine ARun.arith rfl rfl rfl rfl (Ev.plain rfl) (Ev.plain rfl) rfl (fun hg => i64w (by (try simp [-List.getD_eq_getElem?_getD] at hg); omega)) optN ?_ | refine ARun.arith rfl rfl rfl rfl (Ev.plain rfl) (Ev.plain rfl) rfl (fun _ => rfl) optN ?_
    refine ARun.move (.inr rfl) rfl rfl rfl (Ev.plain rfl) optN ?_
    refine ⟨_, _, rfl, hG, ?_⟩
    refine thenA_n ?_
    refine AWP.seq ?_
    refine AWP.region (fun _ => ?_)
    refine ARun.move (.inl rfl) rfl rfl rfl (Ev.plain rfl) optN ?_
    refine ARun.move (.inl rfl) rfl rfl rfl (Ev.plain rfl) optN ?_
    first | refine ARun.indexSl rfl rfl rfl rfl Try.underlying22 sz34 (Ev.plain rfl) (Ev.plain rfl) (fun _ => rfl) (fun hg => getMap _ _ _ (by (try simp [-List.getD_eq_getElem?_getD] at hg); omega)) rfl rfl optN ?_ | refine ARun.indexSl rfl rfl rfl rfl Try.underlying22 sz34 (Ev.plain rfl) (Ev.plain rfl) (fun hg => ofNonneg (by (try simp [-List.getD_eq_getElem?_getD] at hg); omega)) (fun hg => getMap _ _ _ (by (try simp [-List.getD_eq_getElem?_getD] at hg); omega)) rfl rfl optN ?_
    refine ARun.fieldPe rfl rfl rfl rfl Try.underlying34 rfl rfl sz3 (by decide) (Ev.plain rfl) rfl optN ?_
    refine ARun.loadPe rfl rfl rfl rfl Try.underlying3 rfl (Ev.plain rfl) rfl optN ?_
    refine ARun.move (.inl rfl) rfl rfl rfl (Ev.plain rfl) optN ?_
    refine ARun.cmp rfl rfl rfl rfl (Ev.plain rfl) (Ev.plain rfl) rfl optN ?_
    refine ⟨_, _, rfl, hG, ?_⟩
    refine thenA_n ?_
    refine AWP.cond rfl (fun h1 => ?_) (fun h1 => ?_)
    · skip
      try simp [-List.getD_eq_getElem?_getD] at h1
      refine AWP.region (fun _ => ?_)
      refine ARun.move (.inl rfl) rfl rfl rfl (Ev.plain rfl) optN ?_
      refine ARun.move (.inl rfl) rfl rfl rfl (Ev.plain rfl) optN ?_
      first | refine ARun.arith rfl rfl rfl rfl (Ev.plain rfl) (Ev.plain rfl) rfl (fun hg => i64w (by (try simp [-List.getD_eq_getElem?_getD] at hg); omega)) optN ?_ | refine ARun.arith rfl rfl rfl rfl (Ev.plain rfl) (Ev.plain rfl) rfl (fun _ => rfl) optN ?_
      refine ARun.move (.inr rfl) rfl rfl rfl (Ev.plain rfl) optN ?_
      refine ⟨_, _, rfl, hG, ?_⟩
      refine blockA_n ?_
      refine thenA_n ?_
      refine AWP.region (fun _ => ?_)
      refine ARun.move (.inl rfl) rfl rfl rfl (Ev.plain rfl) optN ?_
      first | refine ARun.arith rfl rfl rfl rfl (Ev.plain rfl) (Ev.plain rfl) rfl (fun hg => i64w (by (try simp [-List.getD_eq_getElem?_getD] at hg); omega)) optN ?_ | refine ARun.arith rfl rfl rfl rfl (Ev.plain rfl) (Ev.plain rfl) rfl (fun _ => rfl) optN ?_
      refine ARun.move (.inr rfl) rfl rfl rfl (Ev.plain rfl) optN ?_
      refine ⟨_, _, rfl, hG, ?_⟩
      refine thenA_n ⟨rfl, k + 1, _, ?_, ?_, rfl, ?_⟩
      · omega
      · rw [wS_take _ _ _ hk, wS_take _ _ _ hk, show one id (l.getD k default) = tot (l.getD k default) from if_pos h1]
        repeat (first | exact .nil | refine .cons rfl ?_)
      · omega
    · skip
      try simp [-List.getD_eq_getElem?_getD] at h1
      refine AWP.skip ?_
      refine blockA_n ?_
      refine thenA_n ?_
      refine AWP.region (fun _ => ?_)
      refine ARun.move (.inl rfl) rfl rfl rfl (Ev.plain rfl) optN ?_
      first | refine ARun.arith rfl rfl rfl rfl (Ev.plain rfl) (Ev.plain rfl) rfl (fun hg => i64w (by (try simp [-List.getD_eq_getElem?_getD] at hg); omega)) optN ?_ | refine ARun.arith rfl rfl rfl rfl (Ev.plain rfl) (Ev.plain rfl) rfl (fun _ => rfl) optN ?_
      refine ARun.move (.inr rfl) rfl rfl rfl (Ev.plain rfl) optN ?_
      refine ⟨_, _, rfl, hG, ?_⟩
      refine thenA_n ⟨rfl, k + 1, _, ?_, ?_, rfl, ?_⟩
      · omega
      · rw [wS_take _ _ _ hk, wS_take _ _ _ hk, show one id (l.getD k default) = 0 from if_neg h1, Int.add_zero]
        repeat (first | exact .nil | refine .cons rfl ?_)
      · omega
  · skip
    try simp [-List.getD_eq_getElem?_getD] at h0
    refine AWP.exit ?_
    refine thenA_x ?_
    refine thenA_x ?_
    refine blockA_h ?_
    refine thenA_n ?_
    refine AWP.seq ?_
    refine AWP.region (fun _ => ?_)
    refine ARun.move (.inl rfl) rfl rfl rfl (Ev.plain rfl) optN ?_
    refine ARun.move (.inl rfl) rfl rfl rfl (Ev.plain rfl) optN ?_
    refine ARun.move (.inr rfl) rfl rfl rfl (Ev.plain rfl) optN ?_
    refine ARun.move (.inr rfl) rfl rfl rfl (Ev.plain rfl) optN ?_
    refine ⟨_, _, rfl, hG, ?_⟩
    refine thenA_n ?_
    refine AWP.ret ?_
    refine endF.many (.inr rfl) (rs := [.tmp 4, .tmp 5]) rfl (.cons (.tmp rfl) (.cons (.tmp rfl) .nil)) (by simp) ?_ hN
    rw [List.take_of_length_le (by omega)]
set_option maxHeartbeats 1000000 in
theorem sums_fn (l : List It) (i j q : Int) : FnP Try.prog 4 [.sl (l.map aIt), .agg [.int .i64 i, .int .i64 j], .int .i64 q] (.bool true) := by
  refine FnP.of Try.func4 rfl rfl (by simp) (by simp [AV.cells, aIt]) (fun G hG => ?_)
  have hN : NoH G.length (.bool true) := (by simp [AV.cells, aIt])
  refine AWP.seq ?_
  refine AWP.region (fun _ => ?_)
  refine ARun.box (j := 0) hG rfl rfl rfl rfl rfl (Ev.plain rfl) rfl rfl optN ?_
  refine ARun.move (.inr rfl) rfl rfl rfl (Ev.plain rfl) optN ?_
  refine ⟨_, _, rfl, hG, ?_⟩
  refine thenA_n ?_
  refine AWP.seq ?_
  refine AWP.seq ?_
  refine AWP.frzBox 4 hG rfl rfl rfl ?_
  refine AWP.region (fun _ => ?_)
  refine ARun.move (.inl rfl) rfl rfl rfl (Ev.plain rfl) optN ?_
  refine ARun.lenSl rfl rfl rfl rfl Try.underlying22 (Ev.plain rfl) optN ?_
  refine ARun.cmp rfl rfl rfl rfl (Ev.plain rfl) (Ev.plain rfl) rfl optN ?_
  refine ARun.move (.inl rfl) rfl rfl rfl (Ev.plain rfl) optN ?_
  refine ARun.move (.inl rfl) rfl rfl rfl (Ev.plain rfl) optS ?_
  refine ARun.call rfl rfl rfl rfl cf20 (Ev.plain rfl) (.cons (Ev.opt rfl (fun h => h)) .nil) rfl (fun hg => check_fn l) optS ?_
  refine ARun.cmp rfl rfl rfl rfl (Ev.opt rfl (fun h => h)) (Ev.plain rfl) rfl optS ?_
  refine ARun.pick rfl rfl rfl rfl (Ev.plain rfl) (Ev.plain rfl) (Ev.opt rfl (by first | exact pkF | exact pkF2 | simp +contextual)) (orB _ _) optN ?_
  refine ⟨_, _, rfl, hG, ?_⟩
  refine thenA_n ?_
  refine AWP.cond rfl (fun h0 => ?_) (fun h0 => ?_)
  · skip
    try simp at h0
    refine AWP.seq ?_
    refine AWP.region (fun _ => ?_)
    refine ARun.call rfl rfl rfl rfl cf6 (Ev.plain rfl) .nil rfl (fun hg => awake_fn) optN ?_
    refine ARun.move (.inr rfl) rfl rfl rfl (Ev.plain rfl) optN ?_
    refine ⟨_, _, rfl, hG, ?_⟩
    refine thenA_n ?_
    refine AWP.ret ?_
    refine thenA_r ?_
    refine endF.one (.inr rfl) rfl (.tmp rfl) ?_ hN
    rfl
  · skip
    simp at h0
    obtain ⟨hl60, hchk⟩ := h0
    have hok := okE_ok.1 hchk
    have hb := sums_bd hok i
    refine AWP.skip ?_
    refine thenA_n ?_
    refine AWP.seq ?_
    refine AWP.region (fun _ => ?_)
    refine ARun.move (.inl rfl) rfl rfl rfl (Ev.plain rfl) optN ?_
    refine ARun.indexPe rfl rfl rfl rfl Try.underlying23 sz3 (Ev.plain rfl) (Ev.plain rfl) (j := 0) (fun _ => rfl) (fun _ => by first | decide | omega) rfl optN ?_
    refine ARun.loadPe rfl rfl rfl rfl Try.underlying3 rfl (Ev.plain rfl) rfl optN ?_
    refine ARun.call rfl rfl rfl rfl cf22 (Ev.plain rfl) (.cons (Ev.plain rfl) (.cons (Ev.plain rfl) .nil)) rfl (fun hg => sum_fn l i hok) optN ?_
    refine ARun.move (.inl rfl) rfl rfl rfl (Ev.plain rfl) optN ?_
    refine ARun.extract rfl rfl rfl rfl (Ev.plain rfl) rfl optN ?_
    refine ARun.extract rfl rfl rfl rfl (Ev.plain rfl) rfl optN ?_
    refine ARun.move (.inr rfl) rfl rfl rfl (Ev.plain rfl) optN ?_
    refine ARun.move (.inr rfl) rfl rfl rfl (Ev.plain rfl) optN ?_
    refine ⟨_, _, rfl, hG, ?_⟩
    refine thenA_n ?_
    refine AWP.seq ?_
    refine AWP.region (fun _ => ?_)
    refine ARun.alloc (j := 1) hG rfl rfl rfl rfl rfl zv42 rfl optN ?_
    refine ⟨_, _, rfl, hG, ?_⟩
    refine thenA_n ?_
    refine AWP.seq ?_
    refine AWP.region (fun _ => ?_)
    refine ARun.alloc (j := 2) hG rfl rfl rfl rfl rfl zv43 rfl optN ?_
    refine ⟨_, _, rfl, hG, ?_⟩
    refine thenA_n ?_
    refine AWP.seq ?_
    refine AWP.region (fun _ => ?_)
    refine ARun.move (.inl rfl) rfl rfl rfl (Ev.plain rfl) optN ?_
    refine ARun.indexPe rfl rfl rfl rfl Try.underlying23 sz3 (Ev.plain rfl) (Ev.plain rfl) (j := 0) (fun _ => rfl) (fun _ => by first | decide | omega) rfl optN ?_
    refine ARun.loadPe rfl rfl rfl rfl Try.underlying3 rfl (Ev.plain rfl) rfl optN ?_
    refine ARun.move (.inl rfl) rfl rfl rfl (Ev.plain rfl) optN ?_
    refine ARun.call rfl rfl rfl rfl cf12 (Ev.plain rfl) (.cons (Ev.plain rfl) (.cons (Ev.plain rfl) (.cons (Ev.plain rfl) .nil))) rfl (fun hg => reserve_fn l i q (by omega)) optN ?_
    refine ARun.move (.inl rfl) rfl rfl rfl (Ev.plain rfl) optN ?_
    refine ARun.extract rfl rfl rfl rfl (Ev.plain rfl) rfl optN ?_
    refine ARun.extract rfl rfl rfl rfl (Ev.plain rfl) rfl optN ?_
    refine ARun.indexBox (fo := 0) rfl rfl rfl rfl Try.underlying42 sz22 (Ev.plain rfl) ((hG.at _ _).trans rfl) (Ev.plain rfl) (j := 0) (fun hg => by first | rfl | omega) (fun hg => by first | decide | omega) rfl optN ?_
    refine ARun.storeL1 hG rfl rfl rfl sz22 (Ev.plain rfl) (Ev.plain rfl) rfl rfl (Nat.le_of_ble_eq_true rfl) rfl rfl ?_
    refine ARun.indexBox (fo := 0) rfl rfl rfl rfl Try.underlying43 sz25 (Ev.plain rfl) ((hG.at _ _).trans rfl) (Ev.plain rfl) (j := 0) (fun hg => by first | rfl | omega) (fun hg => by first | decide | omega) rfl optN ?_
    refine ARun.storeL1 hG rfl rfl rfl sz25 (Ev.plain rfl) (Ev.plain rfl) rfl rfl (Nat.le_of_ble_eq_true rfl) rfl rfl ?_
    refine ⟨_, _, rfl, hG, ?_⟩
    refine thenA_n ?_
    refine AWP.seq ?_
    refine AWP.region (fun _ => ?_)
    refine ARun.move (.inl rfl) rfl rfl rfl (Ev.plain rfl) optN ?_
    refine ARun.indexPe rfl rfl rfl rfl Try.underlying23 sz3 (Ev.plain rfl) (Ev.plain rfl) (j := 0) (fun _ => rfl) (fun _ => by first | decide | omega) rfl optN ?_
    refine ARun.loadPe rfl rfl rfl rfl Try.underlying3 rfl (Ev.plain rfl) rfl optN ?_
    refine ARun.move (.inl rfl) rfl rfl rfl (Ev.plain rfl) optN ?_
    refine ARun.call rfl rfl rfl rfl cf14 (Ev.plain rfl) (.cons (Ev.plain rfl) (.cons (Ev.plain rfl) (.cons (Ev.plain rfl) .nil))) rfl (fun hg => release_fn l i q (by omega)) optN ?_
    refine ARun.move (.inl rfl) rfl rfl rfl (Ev.plain rfl) optN ?_
    refine ARun.extract rfl rfl rfl rfl (Ev.plain rfl) rfl optN ?_
    refine ARun.extract rfl rfl rfl rfl (Ev.plain rfl) rfl optN ?_
    refine ARun.indexBox (fo := 1) rfl rfl rfl rfl Try.underlying42 sz22 (Ev.plain rfl) ((hG.at _ _).trans rfl) (Ev.plain rfl) (j := 1) (fun hg => by first | rfl | omega) (fun hg => by first | decide | omega) rfl optN ?_
    refine ARun.storeL1 hG rfl rfl rfl sz22 (Ev.plain rfl) (Ev.plain rfl) rfl rfl (Nat.le_of_ble_eq_true rfl) rfl rfl ?_
    refine ARun.indexBox (fo := 1) rfl rfl rfl rfl Try.underlying43 sz25 (Ev.plain rfl) ((hG.at _ _).trans rfl) (Ev.plain rfl) (j := 1) (fun hg => by first | rfl | omega) (fun hg => by first | decide | omega) rfl optN ?_
    refine ARun.storeL1 hG rfl rfl rfl sz25 (Ev.plain rfl) (Ev.plain rfl) rfl rfl (Nat.le_of_ble_eq_true rfl) rfl rfl ?_
    refine ⟨_, _, rfl, hG, ?_⟩
    refine thenA_n ?_
    refine AWP.seq ?_
    refine AWP.region (fun _ => ?_)
    refine ARun.move (.inl rfl) rfl rfl rfl (Ev.plain rfl) optN ?_
    refine ARun.indexPe rfl rfl rfl rfl Try.underlying23 sz3 (Ev.plain rfl) (Ev.plain rfl) (j := 0) (fun _ => rfl) (fun _ => by first | decide | omega) rfl optN ?_
    refine ARun.loadPe rfl rfl rfl rfl Try.underlying3 rfl (Ev.plain rfl) rfl optN ?_
    refine ARun.move (.inl rfl) rfl rfl rfl (Ev.plain rfl) optN ?_
    refine ARun.call rfl rfl rfl rfl cf15 (Ev.plain rfl) (.cons (Ev.plain rfl) (.cons (Ev.plain rfl) (.cons (Ev.plain rfl) .nil))) rfl (fun hg => ship_fn l i q (by omega)) optN ?_
    refine ARun.move (.inl rfl) rfl rfl rfl (Ev.plain rfl) optN ?_
    refine ARun.extract rfl rfl rfl rfl (Ev.plain rfl) rfl optN ?_
    refine ARun.extract rfl rfl rfl rfl (Ev.plain rfl) rfl optN ?_
    refine ARun.indexBox (fo := 2) rfl rfl rfl rfl Try.underlying42 sz22 (Ev.plain rfl) ((hG.at _ _).trans rfl) (Ev.plain rfl) (j := 2) (fun hg => by first | rfl | omega) (fun hg => by first | decide | omega) rfl optN ?_
    refine ARun.storeL1 hG rfl rfl rfl sz22 (Ev.plain rfl) (Ev.plain rfl) rfl rfl (Nat.le_of_ble_eq_true rfl) rfl rfl ?_
    refine ARun.indexBox (fo := 2) rfl rfl rfl rfl Try.underlying43 sz25 (Ev.plain rfl) ((hG.at _ _).trans rfl) (Ev.plain rfl) (j := 2) (fun hg => by first | rfl | omega) (fun hg => by first | decide | omega) rfl optN ?_
    refine ARun.storeL1 hG rfl rfl rfl sz25 (Ev.plain rfl) (Ev.plain rfl) rfl rfl (Nat.le_of_ble_eq_true rfl) rfl rfl ?_
    refine ⟨_, _, rfl, hG, ?_⟩
    refine thenA_n ?_
    refine AWP.seq ?_
    refine AWP.region (fun _ => ?_)
    refine ARun.move (.inl rfl) rfl rfl rfl (Ev.plain rfl) optN ?_
    refine ARun.indexPe rfl rfl rfl rfl Try.underlying23 sz3 (Ev.plain rfl) (Ev.plain rfl) (j := 0) (fun _ => rfl) (fun _ => by first | decide | omega) rfl optN ?_
    refine ARun.loadPe rfl rfl rfl rfl Try.underlying3 rfl (Ev.plain rfl) rfl optN ?_
    refine ARun.indexPe rfl rfl rfl rfl Try.underlying23 sz3 (Ev.plain rfl) (Ev.plain rfl) (j := 1) (fun _ => rfl) (fun _ => by first | decide | omega) rfl optN ?_
    refine ARun.loadPe rfl rfl rfl rfl Try.underlying3 rfl (Ev.plain rfl) rfl optN ?_
    refine ARun.move (.inl rfl) rfl rfl rfl (Ev.plain rfl) optN ?_
    refine ARun.call rfl rfl rfl rfl cf16 (Ev.plain rfl) (.cons (Ev.plain rfl) (.cons (Ev.plain rfl) (.cons (Ev.plain rfl) (.cons (Ev.plain rfl) .nil)))) rfl (fun hg => move_fn l i j q (by omega)) optN ?_
    refine ARun.move (.inl rfl) rfl rfl rfl (Ev.plain rfl) optN ?_
    refine ARun.extract rfl rfl rfl rfl (Ev.plain rfl) rfl optN ?_
    refine ARun.extract rfl rfl rfl rfl (Ev.plain rfl) rfl optN ?_
    refine ARun.indexBox (fo := 3) rfl rfl rfl rfl Try.underlying42 sz22 (Ev.plain rfl) ((hG.at _ _).trans rfl) (Ev.plain rfl) (j := 3) (fun hg => by first | rfl | omega) (fun hg => by first | decide | omega) rfl optN ?_
    refine ARun.storeL1 hG rfl rfl rfl sz22 (Ev.plain rfl) (Ev.plain rfl) rfl rfl (Nat.le_of_ble_eq_true rfl) rfl rfl ?_
    refine ARun.indexBox (fo := 3) rfl rfl rfl rfl Try.underlying43 sz25 (Ev.plain rfl) ((hG.at _ _).trans rfl) (Ev.plain rfl) (j := 3) (fun hg => by first | rfl | omega) (fun hg => by first | decide | omega) rfl optN ?_
    refine ARun.storeL1 hG rfl rfl rfl sz25 (Ev.plain rfl) (Ev.plain rfl) rfl rfl (Nat.le_of_ble_eq_true rfl) rfl rfl ?_
    refine ⟨_, _, rfl, hG, ?_⟩
    refine thenA_n ?_
    refine AWP.seq ?_
    refine AWP.region (fun _ => ?_)
    refine ARun.move (.inl rfl) rfl rfl rfl (Ev.plain rfl) optN ?_
    refine ARun.indexPe rfl rfl rfl rfl Try.underlying23 sz3 (Ev.plain rfl) (Ev.plain rfl) (j := 0) (fun _ => rfl) (fun _ => by first | decide | omega) rfl optN ?_
    refine ARun.loadPe rfl rfl rfl rfl Try.underlying3 rfl (Ev.plain rfl) rfl optN ?_
    refine ARun.move (.inl rfl) rfl rfl rfl (Ev.plain rfl) optN ?_
    refine ARun.call rfl rfl rfl rfl cf7 (Ev.plain rfl) (.cons (Ev.plain rfl) (.cons (Ev.plain rfl) (.cons (Ev.plain rfl) .nil))) rfl (fun hg => create_fn l i q (by omega)) optN ?_
    refine ARun.move (.inl rfl) rfl rfl rfl (Ev.plain rfl) optN ?_
    refine ARun.extract rfl rfl rfl rfl (Ev.plain rfl) rfl optN ?_
    refine ARun.extract rfl rfl rfl rfl (Ev.plain rfl) rfl optN ?_
    refine ARun.indexBox (fo := 4) rfl rfl rfl rfl Try.underlying42 sz22 (Ev.plain rfl) ((hG.at _ _).trans rfl) (Ev.plain rfl) (j := 4) (fun hg => by first | rfl | omega) (fun hg => by first | decide | omega) rfl optN ?_
    refine ARun.storeL1 hG rfl rfl rfl sz22 (Ev.plain rfl) (Ev.plain rfl) rfl rfl (Nat.le_of_ble_eq_true rfl) rfl rfl ?_
    refine ARun.indexBox (fo := 4) rfl rfl rfl rfl Try.underlying43 sz25 (Ev.plain rfl) ((hG.at _ _).trans rfl) (Ev.plain rfl) (j := 4) (fun hg => by first | rfl | omega) (fun hg => by first | decide | omega) rfl optN ?_
    refine ARun.storeL1 hG rfl rfl rfl sz25 (Ev.plain rfl) (Ev.plain rfl) rfl rfl (Nat.le_of_ble_eq_true rfl) rfl rfl ?_
    refine ⟨_, _, rfl, hG, ?_⟩
    refine thenA_n ?_
    refine AWP.seq ?_
    refine AWP.region (fun _ => ?_)
    refine ARun.move (.inl rfl) rfl rfl rfl (Ev.plain rfl) optN ?_
    refine ARun.indexPe rfl rfl rfl rfl Try.underlying23 sz3 (Ev.plain rfl) (Ev.plain rfl) (j := 0) (fun _ => rfl) (fun _ => by first | decide | omega) rfl optN ?_
    refine ARun.loadPe rfl rfl rfl rfl Try.underlying3 rfl (Ev.plain rfl) rfl optN ?_
    refine ARun.move (.inl rfl) rfl rfl rfl (Ev.plain rfl) optN ?_
    refine ARun.call rfl rfl rfl rfl cf10 (Ev.plain rfl) (.cons (Ev.plain rfl) (.cons (Ev.plain rfl) (.cons (Ev.plain rfl) .nil))) rfl (fun hg => restock_fn l i q (by omega)) optN ?_
    refine ARun.move (.inl rfl) rfl rfl rfl (Ev.plain rfl) optN ?_
    refine ARun.extract rfl rfl rfl rfl (Ev.plain rfl) rfl optN ?_
    refine ARun.extract rfl rfl rfl rfl (Ev.plain rfl) rfl optN ?_
    refine ARun.indexBox (fo := 5) rfl rfl rfl rfl Try.underlying42 sz22 (Ev.plain rfl) ((hG.at _ _).trans rfl) (Ev.plain rfl) (j := 5) (fun hg => by first | rfl | omega) (fun hg => by first | decide | omega) rfl optN ?_
    refine ARun.storeL1 hG rfl rfl rfl sz22 (Ev.plain rfl) (Ev.plain rfl) rfl rfl (Nat.le_of_ble_eq_true rfl) rfl rfl ?_
    refine ARun.indexBox (fo := 5) rfl rfl rfl rfl Try.underlying43 sz25 (Ev.plain rfl) ((hG.at _ _).trans rfl) (Ev.plain rfl) (j := 5) (fun hg => by first | rfl | omega) (fun hg => by first | decide | omega) rfl optN ?_
    refine ARun.storeL1 hG rfl rfl rfl sz25 (Ev.plain rfl) (Ev.plain rfl) rfl rfl (Nat.le_of_ble_eq_true rfl) rfl rfl ?_
    refine ⟨_, _, rfl, hG, ?_⟩
    refine thenA_n ?_
    refine AWP.seq ?_
    refine AWP.seq ?_
    refine AWP.region (fun _ => ?_)
    refine ARun.move (.inr rfl) rfl rfl rfl (Ev.plain rfl) optN ?_
    refine ⟨_, _, rfl, hG, ?_⟩
    refine thenA_n ?_
    refine AWP.block ?_
    refine AWP.rounds (fun k => k ≤ (6 : Nat)) (fun k => [(2, .int .i64 q), (4, .pe [.int .i64 i, .int .i64 j]), (7, .int .i64 (wS tot l)), (8, .int .i64 (wS (one i) l)), (9, .box (G.length + 1) 0), (10, .box (G.length + 2) 0), (11, .int .i64 (k : Int))]) (fun k => [.dead, .box (mL l i j q), .box (eL l i j q)]) (fun k => 6 - k) 3 0 (by omega) (by repeat (first | exact .nil | refine .cons rfl ?_)) rfl (fun _ => rfl) (fun _ => ⟨by simp [AV.cells], by simp [AO.conts, mL, eL, AV.cells, aIt]⟩) (fun k hI => ?_)
    refine AWP.seq ?_
    refine AWP.seq ?_
    refine AWP.region (fun _ => ?_)
    refine ARun.move (.inl rfl) rfl rfl rfl (Ev.plain rfl) optN ?_
    refine ARun.cmp rfl rfl rfl rfl (Ev.plain rfl) (Ev.plain rfl) rfl optN ?_
    refine ⟨_, _, rfl, hG, ?_⟩
    refine thenA_n ?_
    refine AWP.cond rfl (fun h1 => ?_) (fun h1 => ?_)
    · skip
      simp at h1
      have hk6 : k < 6 := by omega
      refine AWP.skip ?_
      refine thenA_n ?_
      refine AWP.seq ?_
      refine AWP.block ?_
      refine AWP.seq ?_
      refine AWP.seq ?_
      refine AWP.region (fun _ => ?_)
      refine ARun.move (.inl rfl) rfl rfl rfl (Ev.plain rfl) optN ?_
      refine ARun.indexBox (fo := 0 + k * 1) rfl rfl rfl rfl Try.underlying43 sz25 (Ev.plain rfl) ((hG.at _ _).trans rfl) (Ev.plain rfl) (j := k) (fun hg => by first | rfl | omega) (fun hg => by first | decide | omega) rfl optN ?_
      refine ARun.loadBox rfl rfl rfl rfl Try.underlying25 rfl (Ev.plain rfl) ((hG.at _ _).trans rfl) (eL_get l i j q k hk6) optN ?_
      refine ARun.cmp rfl rfl rfl rfl (Ev.plain rfl) (Ev.plain rfl) rfl optN ?_
      refine ⟨_, _, rfl, hG, ?_⟩
      refine thenA_n ?_
      refine AWP.cond rfl (fun h2 => ?_) (fun h2 => ?_)
      · skip
        have hne : (mS l i j q k).2 ≠ 0 := by simpa using h2
        refine AWP.seq ?_
        refine AWP.seq ?_
        refine AWP.region (fun _ => ?_)
        refine ARun.move (.inl rfl) rfl rfl rfl (Ev.plain rfl) optN ?_
        refine ARun.indexBox (fo := 0 + k * 1) rfl rfl rfl rfl Try.underlying42 sz22 (Ev.plain rfl) ((hG.at _ _).trans rfl) (Ev.plain rfl) (j := k) (fun hg => by first | rfl | omega) (fun hg => by first | decide | omega) rfl optN ?_
        refine ARun.loadBox rfl rfl rfl rfl Try.underlying22 rfl (Ev.plain rfl) ((hG.at _ _).trans rfl) (mL_get l i j q k hk6) optN ?_
        refine ARun.lenSl rfl rfl rfl rfl Try.underlying22 (Ev.plain rfl) optN ?_
        refine ARun.cmp rfl rfl rfl rfl (Ev.plain rfl) (Ev.plain rfl) rfl optN ?_
        refine ⟨_, _, rfl, hG, ?_⟩
        refine thenA_n ?_
        refine AWP.cond rfl (fun h3 => ?_) (fun h3 => ?_)
        · skip
          rw [mS_nil hne] at h3; simp at h3
        · skip
          try simp at h3
          refine AWP.skip ?_
          refine thenA_n ?_
          refine AWP.exit ?_
          refine thenA_x ?_
          refine blockA_h ?_
          refine thenA_n ?_
          refine AWP.region (fun _ => ?_)
          refine ARun.move (.inl rfl) rfl rfl rfl (Ev.plain rfl) optN ?_
          first | refine ARun.arith rfl rfl rfl rfl (Ev.plain rfl) (Ev.plain rfl) rfl (fun hg => i64w (by (try simp at hg); omega)) optN ?_ | refine ARun.arith rfl rfl rfl rfl (Ev.plain rfl) (Ev.plain rfl) rfl (fun _ => rfl) optN ?_
          refine ARun.move (.inr rfl) rfl rfl rfl (Ev.plain rfl) optN ?_
          refine ⟨_, _, rfl, hG, ?_⟩
          refine thenA_n ⟨rfl, k + 1, _, ?_, ?_, rfl, ?_⟩
          · omega
          · repeat (first | exact .nil | refine .cons rfl ?_)
          · omega
      · skip
        have he : (mS l i j q k).2 = 0 := by simpa using h2
        have hs := mS_sums hk6 he
        refine AWP.skip ?_
        refine thenA_n ?_
        refine AWP.seq ?_
        refine AWP.draw mixed (by kernel_rfl) (fun _ => ?_)
        refine ARun.move (.inl rfl) rfl rfl rfl (Ev.plain rfl) optN ?_
        refine ARun.indexBox (fo := 0 + k * 1) rfl rfl rfl rfl Try.underlying42 sz22 (Ev.plain rfl) ((hG.at _ _).trans rfl) (Ev.plain rfl) (j := k) (fun hg => by first | rfl | omega) (fun hg => by first | decide | omega) rfl optN ?_
        refine ARun.loadBox rfl rfl rfl rfl Try.underlying22 rfl (Ev.plain rfl) ((hG.at _ _).trans rfl) (mL_get l i j q k hk6) optN ?_
        refine ARun.indexPe rfl rfl rfl rfl Try.underlying23 sz3 (Ev.plain rfl) (Ev.plain rfl) (j := 0) (fun _ => rfl) (fun _ => by first | decide | omega) rfl optN ?_
        refine ARun.loadPe rfl rfl rfl rfl Try.underlying3 rfl (Ev.plain rfl) rfl optN ?_
        refine ARun.call rfl rfl rfl rfl cf22 (Ev.plain rfl) (.cons (Ev.plain rfl) (.cons (Ev.plain rfl) .nil)) rfl (fun hg => sum_fn (mS l i j q k).1 i hs.2.ok) optN ?_
        refine ARun.move (.inl rfl) rfl rfl rfl (Ev.plain rfl) optN ?_
        refine ARun.extract rfl rfl rfl rfl (Ev.plain rfl) rfl optN ?_
        refine ARun.extract rfl rfl rfl rfl (Ev.plain rfl) rfl optN ?_
        refine ARun.move (.inr rfl) rfl rfl rfl (Ev.plain rfl) optN ?_
        refine ARun.move (.inr rfl) rfl rfl rfl (Ev.plain rfl) optN ?_
        refine ⟨by kernel_rfl, _, _, rfl, hG, ?_⟩
        refine thenA_n ?_
        refine AWP.seq ?_
        refine AWP.region (fun _ => ?_)
        refine ARun.move (.inr rfl) rfl rfl rfl (Ev.plain rfl) optN ?_
        refine ⟨_, _, rfl, hG, ?_⟩
        refine thenA_n ?_
        refine AWP.seq ?_
        refine AWP.seq ?_
        refine AWP.region (fun _ => ?_)
        refine ARun.move (.inl rfl) rfl rfl rfl (Ev.plain rfl) optN ?_
        refine ARun.cmp rfl rfl rfl rfl (Ev.plain rfl) (Ev.plain rfl) rfl optN ?_
        refine ⟨_, _, rfl, hG, ?_⟩
        refine thenA_n ?_
        refine AWP.cond rfl (fun h4 => ?_) (fun h4 => ?_)
        · skip
          simp at h4
          have a1 := hs.2.all
          have a2 := hs.2.its
          have a3 := okE_ok.2 hs.2.ok
          rw [if_pos (by omega)] at a1 a2
          refine AWP.region (fun _ => ?_)
          refine ARun.move (.inl rfl) rfl rfl rfl (Ev.plain rfl) optN ?_
          refine ARun.move (.inr rfl) rfl rfl rfl (Ev.plain rfl) optN ?_
          refine ⟨_, _, rfl, hG, ?_⟩
          refine thenA_n ?_
          refine AWP.seq ?_
          refine AWP.region (fun _ => ?_)
          refine ARun.move (.inl rfl) rfl rfl rfl (Ev.plain rfl) optN ?_
          refine ARun.move (.inl rfl) rfl rfl rfl (Ev.plain rfl) optN ?_
          refine ARun.move (.inl rfl) rfl rfl rfl (Ev.plain rfl) optN ?_
          first | refine ARun.arith rfl rfl rfl rfl (Ev.plain rfl) (Ev.plain rfl) rfl (fun hg => i64w (by (try simp at hg); omega)) optN ?_ | refine ARun.arith rfl rfl rfl rfl (Ev.plain rfl) (Ev.plain rfl) rfl (fun _ => rfl) optN ?_
          refine ARun.cmp rfl rfl rfl rfl (Ev.plain rfl) (Ev.plain rfl) rfl optN ?_
          refine ARun.move (.inl rfl) rfl rfl rfl (Ev.plain rfl) optN ?_
          refine ARun.move (.inl rfl) rfl rfl rfl (Ev.plain rfl) optS ?_
          refine ARun.cmp rfl rfl rfl rfl (Ev.opt rfl (fun h => h)) (Ev.plain rfl) rfl optS ?_
          refine ARun.move (.inl rfl) rfl rfl rfl (Ev.opt rfl (fun h => h)) optS ?_
          refine ARun.move (.inl rfl) rfl rfl rfl (Ev.plain rfl) optS ?_
          refine ARun.move (.inl rfl) rfl rfl rfl (Ev.plain rfl) optS ?_
          refine ARun.move (.inl rfl) rfl rfl rfl (Ev.plain rfl) optS ?_
          first | refine ARun.arith rfl rfl rfl rfl (Ev.opt rfl (fun h => h)) (Ev.opt rfl (fun h => h)) rfl (fun hg => i64w (by (try simp at hg); omega)) optS ?_ | refine ARun.arith rfl rfl rfl rfl (Ev.opt rfl (fun h => h)) (Ev.opt rfl (fun h => h)) rfl (fun _ => rfl) optS ?_
          refine ARun.cmp rfl rfl rfl rfl (Ev.opt rfl (fun h => h)) (Ev.opt rfl (fun h => h)) rfl optS ?_
          refine ARun.pick rfl rfl rfl rfl (Ev.opt rfl (fun h => h)) (Ev.opt rfl (by first | exact pkT | exact pkT2 | simp +contextual)) (Ev.plain rfl) (andB _ _) optS ?_
          refine ARun.pick rfl rfl rfl rfl (Ev.plain rfl) (Ev.plain rfl) (Ev.opt rfl (by first | exact pkF | exact pkF2 | simp +contextual)) (orB _ _) optN ?_
          refine ARun.move (.inl rfl) rfl rfl rfl (Ev.plain rfl) optN ?_
          refine ARun.move (.inl rfl) rfl rfl rfl (Ev.plain rfl) optS ?_
          refine ARun.cmp rfl rfl rfl rfl (Ev.opt rfl (fun h => h)) (Ev.plain rfl) rfl optS ?_
          refine ARun.move (.inl rfl) rfl rfl rfl (Ev.opt rfl (fun h => h)) optS ?_
          refine ARun.move (.inl rfl) rfl rfl rfl (Ev.plain rfl) optS ?_
          refine ARun.move (.inl rfl) rfl rfl rfl (Ev.plain rfl) optS ?_
          refine ARun.move (.inl rfl) rfl rfl rfl (Ev.plain rfl) optS ?_
          first | refine ARun.arith rfl rfl rfl rfl (Ev.opt rfl (fun h => h)) (Ev.opt rfl (fun h => h)) rfl (fun hg => i64w (by (try simp at hg); omega)) optS ?_ | refine ARun.arith rfl rfl rfl rfl (Ev.opt rfl (fun h => h)) (Ev.opt rfl (fun h => h)) rfl (fun _ => rfl) optS ?_
          refine ARun.cmp rfl rfl rfl rfl (Ev.opt rfl (fun h => h)) (Ev.opt rfl (fun h => h)) rfl optS ?_
          refine ARun.pick rfl rfl rfl rfl (Ev.opt rfl (fun h => h)) (Ev.opt rfl (by first | exact pkT | exact pkT2 | simp +contextual)) (Ev.plain rfl) (andB _ _) optS ?_
          refine ARun.pick rfl rfl rfl rfl (Ev.plain rfl) (Ev.plain rfl) (Ev.opt rfl (by first | exact pkF | exact pkF2 | simp +contextual)) (orB _ _) optN ?_
          refine ARun.move (.inl rfl) rfl rfl rfl (Ev.plain rfl) optN ?_
          refine ARun.move (.inl rfl) rfl rfl rfl (Ev.plain rfl) optS ?_
          refine ARun.indexBox (fo := 0 + k * 1) rfl rfl rfl rfl Try.underlying42 sz22 (Ev.plain rfl) ((hG.at _ _).trans rfl) (Ev.opt rfl (fun h => h)) (j := k) (fun hg => by first | rfl | omega) (fun hg => by first | decide | omega) rfl optS ?_
          refine ARun.loadBox rfl rfl rfl rfl Try.underlying22 rfl (Ev.opt rfl (fun h => h)) ((hG.at _ _).trans rfl) (mL_get l i j q k hk6) optS ?_
          refine ARun.call rfl rfl rfl rfl cf20 (Ev.plain rfl) (.cons (Ev.opt rfl (fun h => h)) .nil) rfl (fun hg => check_fn (mS l i j q k).1) optS ?_
          refine ARun.cmp rfl rfl rfl rfl (Ev.opt rfl (fun h => h)) (Ev.plain rfl) rfl optS ?_
          refine ARun.pick rfl rfl rfl rfl (Ev.plain rfl) (Ev.plain rfl) (Ev.opt rfl (by first | exact pkF | exact pkF2 | simp +contextual)) (orB _ _) optN ?_
          refine ⟨_, _, rfl, hG, ?_⟩
          refine thenA_n ?_
          refine AWP.cond rfl (fun h5 => ?_) (fun h5 => ?_)
          · skip
            simp [a1, a2, a3] at h5
            omega
          · skip
            try simp at h5
            refine AWP.skip ?_
            refine blockA_n ?_
            refine thenA_n ?_
            refine AWP.region (fun _ => ?_)
            refine ARun.move (.inl rfl) rfl rfl rfl (Ev.plain rfl) optN ?_
            first | refine ARun.arith rfl rfl rfl rfl (Ev.plain rfl) (Ev.plain rfl) rfl (fun hg => i64w (by (try simp at hg); omega)) optN ?_ | refine ARun.arith rfl rfl rfl rfl (Ev.plain rfl) (Ev.plain rfl) rfl (fun _ => rfl) optN ?_
            refine ARun.move (.inr rfl) rfl rfl rfl (Ev.plain rfl) optN ?_
            refine ⟨_, _, rfl, hG, ?_⟩
            refine thenA_n ⟨rfl, k + 1, _, ?_, ?_, rfl, ?_⟩
            · omega
            · repeat (first | exact .nil | refine .cons rfl ?_)
            · omega
        · skip
          simp at h4
          have a1 := hs.2.all
          have a2 := hs.2.its
          have a3 := okE_ok.2 hs.2.ok
          rw [if_neg (by omega)] at a1 a2
          refine AWP.skip ?_
          refine thenA_n ?_
          refine AWP.seq ?_
          refine AWP.region (fun _ => ?_)
          refine ARun.move (.inl rfl) rfl rfl rfl (Ev.plain rfl) optN ?_
          refine ARun.move (.inl rfl) rfl rfl rfl (Ev.plain rfl) optN ?_
          refine ARun.move (.inl rfl) rfl rfl rfl (Ev.plain rfl) optN ?_
          first | refine ARun.arith rfl rfl rfl rfl (Ev.plain rfl) (Ev.plain rfl) rfl (fun hg => i64w (by (try simp at hg); omega)) optN ?_ | refine ARun.arith rfl rfl rfl rfl (Ev.plain rfl) (Ev.plain rfl) rfl (fun _ => rfl) optN ?_
          refine ARun.cmp rfl rfl rfl rfl (Ev.plain rfl) (Ev.plain rfl) rfl optN ?_
          refine ARun.move (.inl rfl) rfl rfl rfl (Ev.plain rfl) optN ?_
          refine ARun.move (.inl rfl) rfl rfl rfl (Ev.plain rfl) optS ?_
          refine ARun.cmp rfl rfl rfl rfl (Ev.opt rfl (fun h => h)) (Ev.plain rfl) rfl optS ?_
          refine ARun.move (.inl rfl) rfl rfl rfl (Ev.opt rfl (fun h => h)) optS ?_
          refine ARun.move (.inl rfl) rfl rfl rfl (Ev.plain rfl) optS ?_
          refine ARun.move (.inl rfl) rfl rfl rfl (Ev.plain rfl) optS ?_
          refine ARun.move (.inl rfl) rfl rfl rfl (Ev.plain rfl) optS ?_
          first | refine ARun.arith rfl rfl rfl rfl (Ev.opt rfl (fun h => h)) (Ev.opt rfl (fun h => h)) rfl (fun hg => i64w (by (try simp at hg); omega)) optS ?_ | refine ARun.arith rfl rfl rfl rfl (Ev.opt rfl (fun h => h)) (Ev.opt rfl (fun h => h)) rfl (fun _ => rfl) optS ?_
          refine ARun.cmp rfl rfl rfl rfl (Ev.opt rfl (fun h => h)) (Ev.opt rfl (fun h => h)) rfl optS ?_
          refine ARun.pick rfl rfl rfl rfl (Ev.opt rfl (fun h => h)) (Ev.opt rfl (by first | exact pkT | exact pkT2 | simp +contextual)) (Ev.plain rfl) (andB _ _) optS ?_
          refine ARun.pick rfl rfl rfl rfl (Ev.plain rfl) (Ev.plain rfl) (Ev.opt rfl (by first | exact pkF | exact pkF2 | simp +contextual)) (orB _ _) optN ?_
          refine ARun.move (.inl rfl) rfl rfl rfl (Ev.plain rfl) optN ?_
          refine ARun.move (.inl rfl) rfl rfl rfl (Ev.plain rfl) optS ?_
          refine ARun.cmp rfl rfl rfl rfl (Ev.opt rfl (fun h => h)) (Ev.plain rfl) rfl optS ?_
          refine ARun.move (.inl rfl) rfl rfl rfl (Ev.opt rfl (fun h => h)) optS ?_
          refine ARun.move (.inl rfl) rfl rfl rfl (Ev.plain rfl) optS ?_
          refine ARun.move (.inl rfl) rfl rfl rfl (Ev.plain rfl) optS ?_
          refine ARun.move (.inl rfl) rfl rfl rfl (Ev.plain rfl) optS ?_
          first | refine ARun.arith rfl rfl rfl rfl (Ev.opt rfl (fun h => h)) (Ev.opt rfl (fun h => h)) rfl (fun hg => i64w (by (try simp at hg); omega)) optS ?_ | refine ARun.arith rfl rfl rfl rfl (Ev.opt rfl (fun h => h)) (Ev.opt rfl (fun h => h)) rfl (fun _ => rfl) optS ?_
          refine ARun.cmp rfl rfl rfl rfl (Ev.opt rfl (fun h => h)) (Ev.opt rfl (fun h => h)) rfl optS ?_
          refine ARun.pick rfl rfl rfl rfl (Ev.opt rfl (fun h => h)) (Ev.opt rfl (by first | exact pkT | exact pkT2 | simp +contextual)) (Ev.plain rfl) (andB _ _) optS ?_
          refine ARun.pick rfl rfl rfl rfl (Ev.plain rfl) (Ev.plain rfl) (Ev.opt rfl (by first | exact pkF | exact pkF2 | simp +contextual)) (orB _ _) optN ?_
          refine ARun.move (.inl rfl) rfl rfl rfl (Ev.plain rfl) optN ?_
          refine ARun.move (.inl rfl) rfl rfl rfl (Ev.plain rfl) optS ?_
          refine ARun.indexBox (fo := 0 + k * 1) rfl rfl rfl rfl Try.underlying42 sz22 (Ev.plain rfl) ((hG.at _ _).trans rfl) (Ev.opt rfl (fun h => h)) (j := k) (fun hg => by first | rfl | omega) (fun hg => by first | decide | omega) rfl optS ?_
          refine ARun.loadBox rfl rfl rfl rfl Try.underlying22 rfl (Ev.opt rfl (fun h => h)) ((hG.at _ _).trans rfl) (mL_get l i j q k hk6) optS ?_
          refine ARun.call rfl rfl rfl rfl cf20 (Ev.plain rfl) (.cons (Ev.opt rfl (fun h => h)) .nil) rfl (fun hg => check_fn (mS l i j q k).1) optS ?_
          refine ARun.cmp rfl rfl rfl rfl (Ev.opt rfl (fun h => h)) (Ev.plain rfl) rfl optS ?_
          refine ARun.pick rfl rfl rfl rfl (Ev.plain rfl) (Ev.plain rfl) (Ev.opt rfl (by first | exact pkF | exact pkF2 | simp +contextual)) (orB _ _) optN ?_
          refine ⟨_, _, rfl, hG, ?_⟩
          refine thenA_n ?_
          refine AWP.cond rfl (fun h6 => ?_) (fun h6 => ?_)
          · skip
            simp [a1, a2, a3] at h6
            split at h6 <;> omega
          · skip
            try simp at h6
            refine AWP.skip ?_
            refine blockA_n ?_
            refine thenA_n ?_
            refine AWP.region (fun _ => ?_)
            refine ARun.move (.inl rfl) rfl rfl rfl (Ev.plain rfl) optN ?_
            first | refine ARun.arith rfl rfl rfl rfl (Ev.plain rfl) (Ev.plain rfl) rfl (fun hg => i64w (by (try simp at hg); omega)) optN ?_ | refine ARun.arith rfl rfl rfl rfl (Ev.plain rfl) (Ev.plain rfl) rfl (fun _ => rfl) optN ?_
            refine ARun.move (.inr rfl) rfl rfl rfl (Ev.plain rfl) optN ?_
            refine ⟨_, _, rfl, hG, ?_⟩
            refine thenA_n ⟨rfl, k + 1, _, ?_, ?_, rfl, ?_⟩
            · omega
            · repeat (first | exact .nil | refine .cons rfl ?_)
            · omega
    · skip
      try simp at h1
      refine AWP.exit ?_
      refine thenA_x ?_
      refine thenA_x ?_
      refine blockA_h ?_
      refine thenA_n ?_
      refine AWP.seq ?_
      refine AWP.region (fun _ => ?_)
      refine ARun.call rfl rfl rfl rfl cf6 (Ev.plain rfl) .nil rfl (fun hg => awake_fn) optN ?_
      refine ARun.move (.inr rfl) rfl rfl rfl (Ev.plain rfl) optN ?_
      refine ⟨_, _, rfl, hG, ?_⟩
      refine thenA_n ?_
      refine AWP.ret ?_
      refine endF.one (.inr rfl) rfl (.tmp rfl) ?_ hN
      rfl
end Go.Proofs.Ytfeeohbapnolcaa
