/- The laws. -/
import Derived.Test.YtffipdfcndbneaaDoorAmFail
namespace Go.Proofs.YtffipdfcndbneaaDoor
set_option linter.unusedVariables false
set_option linter.unusedSimpArgs false
open Go.RowKit
set_option maxRecDepth 100000
theorem newR_ref (op : ByteArray) (c : Int) : FnP Tryd.prog 10 [.str op, .int .i64 c] (aRE (refOf (Er.new op c))) := by
  rw [← new_ref]; exact newR_fn op c
theorem wrapR_ref (op : ByteArray) {e : Er} {c : Int} (h : Of e c) (hd : e.depth ≤ 100000) : FnP Tryd.prog 12 [.str op, aRE (refOf e)] (aRE (refOf (Er.wrap op e))) := by
  rw [← wrap_ref op h]; exact wrapR_fn op (refOf e) (by show e.ops.length ≤ 100000; rw [ops_len]; omega)
theorem of_wr {e : Er} {c : Int} (op : ByteArray) (h : Of e c) (h0 : ¬ c = 0) : Er.wrap op e = .wr op e := by
  unfold Er.wrap; rw [if_neg (by rw [of_none h]; simp [h0])]
set_option maxHeartbeats 1000000 in
theorem tells_fn (code : Int) (ops : List ByteArray) (op : ByteArray) (hc : -9223372036854775808 ≤ code ∧ code ≤ 9223372036854775807) : FnP Tryd.prog 3 [.int .i64 code, .sl (ops.map AV.str), .str op] (.bool true) := by
  refine FnP.of Tryd.func3 rfl rfl (by simp) (by simp [AV.cells]) (fun G hG => ?_)
  have hN : NoH G.length (.bool true) := (by simp [AV.cells])
  refine AWP.seq ?_
  refine AWP.region (fun _ => ?_)
  refine ARun.move (.inr rfl) rfl rfl rfl (Ev.plain rfl) optN ?_
  refine ⟨_, _, rfl, hG, ?_⟩
  refine thenA_n ?_
  refine AWP.seq ?_
  refine AWP.seq ?_
  refine AWP.region (fun _ => ?_)
  refine ARun.move (.inl rfl) rfl rfl rfl (Ev.plain rfl) optN ?_
  refine ARun.call rfl rfl rfl rfl cf7 (Ev.plain rfl) (.cons (Ev.plain rfl) .nil) rfl (fun hg => few_fn ops) optN ?_
  refine ARun.not rfl rfl rfl rfl (Ev.plain rfl) optN ?_
  refine ARun.move (.inl rfl) rfl rfl rfl (Ev.plain rfl) optN ?_
  refine ARun.move (.inl rfl) rfl rfl rfl (Ev.plain rfl) optS ?_
  refine ARun.lenStr rfl rfl rfl rfl Tryd.underlying9 (Ev.opt rfl (fun h => h)) optS ?_
  refine ARun.cmp rfl rfl rfl rfl (Ev.opt rfl (fun h => h)) (Ev.plain rfl) rfl optS ?_
  refine ARun.pick rfl rfl rfl rfl (Ev.plain rfl) (Ev.plain rfl) (Ev.opt rfl (by first | exact pkF | exact pkF2 | simp +contextual)) (orB _ _) optN ?_
  refine ⟨_, _, rfl, hG, ?_⟩
  refine thenA_n ?_
  refine AWP.cond rfl (fun h0 => ?_) (fun h0 => ?_)
  · skip
    try simp [-List.getD_eq_getElem?_getD] at h0
    refine AWP.seq ?_
    refine AWP.region (fun _ => ?_)
    refine ARun.call rfl rfl rfl rfl cf8 (Ev.plain rfl) .nil rfl (fun hg => awake_fn) optN ?_
    refine ARun.move (.inr rfl) rfl rfl rfl (Ev.plain rfl) optN ?_
    refine ⟨_, _, rfl, hG, ?_⟩
    refine thenA_n ?_
    refine AWP.ret ?_
    refine thenA_r ?_
    refine endF.one (.inr rfl) rfl (.tmp rfl) ?_ hN
    rfl
  · skip
    simp at h0
    obtain ⟨hfew, hop⟩ := h0
    have hlen := few_len hfew
    have hn1 := depth_new op code
    have hn2 := text_new op code (by omega)
    refine AWP.skip ?_
    refine thenA_n ?_
    refine AWP.seq ?_
    refine AWP.region (fun _ => ?_)
    refine ARun.move (.inl rfl) rfl rfl rfl (Ev.plain rfl) optN ?_
    refine ARun.move (.inl rfl) rfl rfl rfl (Ev.plain rfl) optN ?_
    refine ARun.call rfl rfl rfl rfl cf9 (Ev.plain rfl) (.cons (Ev.plain rfl) (.cons (Ev.plain rfl) .nil)) rfl (fun hg => new_fn op code) optN ?_
    refine ARun.move (.inl rfl) rfl rfl rfl (Ev.plain rfl) optN ?_
    refine ARun.move (.inl rfl) rfl rfl rfl (Ev.plain rfl) optN ?_
    refine ARun.call rfl rfl rfl rfl cf10 (Ev.plain rfl) (.cons (Ev.plain rfl) (.cons (Ev.plain rfl) .nil)) rfl (fun hg => newR_ref op code) optN ?_
    refine ARun.alloc (j := 0) hG rfl rfl rfl rfl rfl zv30 rfl optN ?_
    refine ARun.move (.inr rfl) rfl rfl rfl (Ev.plain rfl) optN ?_
    refine ARun.storeL hG rfl rfl rfl sz30 (Ev.plain rfl) (Ev.plain rfl) rfl rfl rfl rfl rfl (Nat.le_of_ble_eq_true rfl) rfl rfl ?_
    refine ⟨_, _, rfl, hG, ?_⟩
    refine thenA_n ?_
    refine AWP.seq ?_
    refine AWP.seq ?_
    refine AWP.region (fun _ => ?_)
    refine ARun.move (.inr rfl) rfl rfl rfl (Ev.plain rfl) optN ?_
    refine ⟨_, _, rfl, hG, ?_⟩
    refine thenA_n ?_
    refine AWP.block ?_
    refine AWP.rounds (fun s => s.1 ≤ ops.length ∧ Of s.2 code ∧ s.2.depth ≤ s.1 + 1 ∧ (opsText s.2.ops).size ≤ 102 * (s.1 + 1)) (fun s => [(0, .int .i64 code), (1, .sl (ops.map AV.str)), (2, .str op), (7, aEr s.2), (8, .box (G.length + 0) 0), (9, .int .i64 (s.1 : Int))]) (fun s => [.box [.sl ((refOf s.2).1.map AV.str), .int .i64 (refOf s.2).2]]) (fun s => ops.length - s.1) 1 ((0, Er.new op code) : Nat × Er) ⟨Nat.zero_le _, of_new op code, by dsimp only; omega, by dsimp only; omega⟩ (by repeat (first | exact .nil | refine .cons rfl ?_)) rfl (fun _ => rfl) (fun _ => ⟨by simp [AV.cells], by simp [AO.conts, AV.cells]⟩) (fun s hI => ?_)
    obtain ⟨k, e⟩ := s
    dsimp only at hI
    show AWP _ _ _ _ _ [(0, .int .i64 code), (1, .sl (ops.map AV.str)), (2, .str op), (7, aEr e), (8, .box (G.length + 0) 0), (9, .int .i64 (k : Int))] _ [.box [.sl ((refOf e).1.map AV.str), .int .i64 (refOf e).2]]
    obtain ⟨hk, hof, hdp, htx⟩ := hI
    have hfi := of_fits hof hc.2
    refine AWP.seq ?_
    refine AWP.seq ?_
    refine AWP.region (fun _ => ?_)
    refine ARun.move (.inl rfl) rfl rfl rfl (Ev.plain rfl) optN ?_
    refine ARun.move (.inl rfl) rfl rfl rfl (Ev.plain rfl) optN ?_
    refine ARun.lenSl rfl rfl rfl rfl Tryd.underlying22 (Ev.plain rfl) optN ?_
    refine ARun.cmp rfl rfl rfl rfl (Ev.plain rfl) (Ev.plain rfl) rfl optN ?_
    refine ⟨_, _, rfl, hG, ?_⟩
    refine thenA_n ?_
    refine AWP.cond rfl (fun h1 => ?_) (fun h1 => ?_)
    · skip
      try simp [-List.getD_eq_getElem?_getD] at h1
      refine AWP.skip ?_
      refine thenA_n ?_
      refine AWP.seq ?_
      refine AWP.block ?_
      refine AWP.draw mixed (by kernel_rfl) (fun _ => ?_)
      refine ARun.move (.inl rfl) rfl rfl rfl (Ev.plain rfl) optN ?_
      refine ARun.move (.inl rfl) rfl rfl rfl (Ev.plain rfl) optN ?_
      first | refine ARun.indexSl rfl rfl rfl rfl Tryd.underlying22 sz9 (Ev.plain rfl) (Ev.plain rfl) (fun _ => rfl) (fun hg => getMap _ _ _ (by (try simp at hg); omega)) rfl rfl optN ?_ | refine ARun.indexSl rfl rfl rfl rfl Tryd.underlying22 sz9 (Ev.plain rfl) (Ev.plain rfl) (fun hg => ofNonneg (by (try simp at hg); omega)) (fun hg => getMap _ _ _ (by (try simp at hg); omega)) rfl rfl optN ?_
      refine ARun.loadPe rfl rfl rfl rfl Tryd.underlying9 rfl (Ev.plain rfl) rfl optN ?_
      refine ARun.move (.inl rfl) rfl rfl rfl (Ev.plain rfl) optN ?_
      refine ARun.call rfl rfl rfl rfl cf11 (Ev.plain rfl) (.cons (Ev.plain rfl) (.cons (Ev.plain rfl) .nil)) rfl (fun hg => wrap_fn _ e) optN ?_
      refine ARun.move (.inl rfl) rfl rfl rfl (Ev.plain rfl) optN ?_
      refine ARun.move (.inl rfl) rfl rfl rfl (Ev.plain rfl) optN ?_
      first | refine ARun.indexSl rfl rfl rfl rfl Tryd.underlying22 sz9 (Ev.plain rfl) (Ev.plain rfl) (fun _ => rfl) (fun hg => getMap _ _ _ (by (try simp at hg); omega)) rfl rfl optN ?_ | refine ARun.indexSl rfl rfl rfl rfl Tryd.underlying22 sz9 (Ev.plain rfl) (Ev.plain rfl) (fun hg => ofNonneg (by (try simp at hg); omega)) (fun hg => getMap _ _ _ (by (try simp at hg); omega)) rfl rfl optN ?_
      refine ARun.loadPe rfl rfl rfl rfl Tryd.underlying9 rfl (Ev.plain rfl) rfl optN ?_
      refine ARun.loadBoxA rfl rfl rfl rfl Tryd.underlying30 rfl sz30 (Ev.plain rfl) ((hG.at _ _).trans rfl) rfl rfl optN ?_
      refine ARun.call rfl rfl rfl rfl cf12 (Ev.plain rfl) (.cons (Ev.plain rfl) (.cons (Ev.plain rfl) .nil)) rfl (fun hg => wrapR_ref (ops.getD k default) hof (by omega)) optN ?_
      refine ARun.move (.inr rfl) rfl rfl rfl (Ev.plain rfl) optN ?_
      refine ARun.storeL hG rfl rfl rfl sz30 (Ev.plain rfl) (Ev.plain rfl) rfl rfl rfl rfl rfl (Nat.le_of_ble_eq_true rfl) rfl rfl ?_
      refine ⟨by kernel_rfl, _, _, rfl, hG, ?_⟩
      refine blockA_n ?_
      refine thenA_n ?_
      refine AWP.region (fun _ => ?_)
      refine ARun.move (.inl rfl) rfl rfl rfl (Ev.plain rfl) optN ?_
      first | refine ARun.arith rfl rfl rfl rfl (Ev.plain rfl) (Ev.plain rfl) rfl (fun hg => i64w (by (try simp at hg); omega)) optN ?_ | refine ARun.arith rfl rfl rfl rfl (Ev.plain rfl) (Ev.plain rfl) rfl (fun _ => rfl) optN ?_
      refine ARun.move (.inr rfl) rfl rfl rfl (Ev.plain rfl) optN ?_
      refine ⟨_, _, rfl, hG, ?_⟩
      refine thenA_n ⟨rfl, (k + 1, Er.wrap (ops.getD k default) e), _, ?_, ?_, rfl, ?_⟩
      · have d1 := depth_wrap (ops.getD k default) e
        have d2 := text_wrap (ops.getD k default) e (few_at hfew (by omega))
        exact ⟨by dsimp only; omega, of_wrap _ hof, by dsimp only; omega, by dsimp only; omega⟩
      · repeat (first | exact .nil | refine .cons rfl ?_)
      · dsimp only; omega
    · skip
      try simp [-List.getD_eq_getElem?_getD] at h1
      refine AWP.exit ?_
      refine thenA_x ?_
      refine thenA_x ?_
      refine blockA_h ?_
      refine thenA_n ?_
      refine AWP.seq ?_
      refine AWP.region (fun _ => ?_)
      refine ARun.move (.inr rfl) rfl rfl rfl (Ev.plain rfl) optN ?_
      refine ⟨_, _, rfl, hG, ?_⟩
      refine thenA_n ?_
      refine AWP.seq ?_
      refine AWP.seq ?_
      refine AWP.region (fun _ => ?_)
      refine ARun.move (.inl rfl) rfl rfl rfl (Ev.plain rfl) optN ?_
      refine ARun.lenSl rfl rfl rfl rfl Tryd.underlying22 (Ev.plain rfl) optN ?_
      refine ARun.cmp rfl rfl rfl rfl (Ev.plain rfl) (Ev.plain rfl) rfl optN ?_
      refine ⟨_, _, rfl, hG, ?_⟩
      refine thenA_n ?_
      refine AWP.cond rfl (fun h2 => ?_) (fun h2 => ?_)
      · skip
        try simp [-List.getD_eq_getElem?_getD] at h2
        refine AWP.region (fun _ => ?_)
        refine ARun.move (.inl rfl) rfl rfl rfl (Ev.plain rfl) optN ?_
        first | refine ARun.indexSl rfl rfl rfl rfl Tryd.underlying22 sz9 (Ev.plain rfl) (Ev.plain rfl) (fun _ => rfl) (fun hg => getMap _ _ _ (by (try simp at hg); omega)) rfl rfl optN ?_ | refine ARun.indexSl rfl rfl rfl rfl Tryd.underlying22 sz9 (Ev.plain rfl) (Ev.plain rfl) (fun hg => ofNonneg (by (try simp at hg); omega)) (fun hg => getMap _ _ _ (by (try simp at hg); omega)) rfl rfl optN ?_
        refine ARun.loadPe rfl rfl rfl rfl Tryd.underlying9 rfl (Ev.plain rfl) rfl optN ?_
        refine ARun.move (.inr rfl) rfl rfl rfl (Ev.plain rfl) optN ?_
        refine ⟨_, _, rfl, hG, ?_⟩
        refine thenA_n ?_
        refine AWP.seq ?_
        refine AWP.draw mixed (by kernel_rfl) (fun _ => ?_)
        refine ARun.move (.inl rfl) rfl rfl rfl (Ev.plain rfl) optN ?_
        refine ARun.isNil rfl rfl rfl rfl Tryd.underlying26 (Ev.plain rfl) (fun hg => by first | rfl | exact nilA_aEr _) (.inl ⟨rfl, rfl⟩) optN ?_
        refine ARun.fieldBox rfl rfl rfl rfl Tryd.underlying30 rfl rfl sz3 (by decide) (Ev.plain rfl) ((hG.at _ _).trans rfl) optN ?_
        refine ARun.loadBox rfl rfl rfl rfl Tryd.underlying3 rfl (Ev.plain rfl) ((hG.at _ _).trans rfl) rfl optN ?_
        refine ARun.cmp rfl rfl rfl rfl (Ev.plain rfl) (Ev.plain rfl) rfl optN ?_
        refine ARun.cmpB rfl rfl rfl rfl Tryd.underlying4 (Ev.plain rfl) (Ev.plain rfl) rfl optN ?_
        refine ARun.move (.inl rfl) rfl rfl rfl (Ev.plain rfl) optN ?_
        refine ARun.move (.inl rfl) rfl rfl rfl (Ev.plain rfl) optS ?_
        refine ARun.call rfl rfl rfl rfl cf13 (Ev.plain rfl) (.cons (Ev.opt rfl (fun h => h)) .nil) rfl (fun hg => code_fn e) optS ?_
        refine ARun.fieldBox rfl rfl rfl rfl Tryd.underlying30 rfl rfl sz3 (by decide) (Ev.plain rfl) ((hG.at _ _).trans rfl) optS ?_
        refine ARun.loadBox rfl rfl rfl rfl Tryd.underlying3 rfl (Ev.opt rfl (fun h => h)) ((hG.at _ _).trans rfl) rfl optS ?_
        refine ARun.cmp rfl rfl rfl rfl (Ev.opt rfl (fun h => h)) (Ev.opt rfl (fun h => h)) rfl optS ?_
        refine ARun.pick rfl rfl rfl rfl (Ev.plain rfl) (Ev.opt rfl (by first | exact pkT | exact pkT2 | simp +contextual)) (Ev.plain rfl) (andB _ _) optN ?_
        refine ARun.move (.inl rfl) rfl rfl rfl (Ev.plain rfl) optN ?_
        refine ARun.move (.inl rfl) rfl rfl rfl (Ev.plain rfl) optS ?_
        refine ARun.call rfl rfl rfl rfl cf15 (Ev.plain rfl) (.cons (Ev.opt rfl (fun h => h)) .nil) rfl (fun hg => trace_fn e (by omega)) optS ?_
        refine ARun.fieldBox rfl rfl rfl rfl Tryd.underlying30 rfl rfl sz22 (by decide) (Ev.plain rfl) ((hG.at _ _).trans rfl) optS ?_
        refine ARun.loadBox rfl rfl rfl rfl Tryd.underlying22 rfl (Ev.opt rfl (fun h => h)) ((hG.at _ _).trans rfl) rfl optS ?_
        refine ARun.call rfl rfl rfl rfl cf14 (Ev.plain rfl) (.cons (Ev.opt rfl (fun h => h)) (.cons (Ev.opt rfl (fun h => h)) .nil)) rfl (fun hg => same_fn e.ops e.ops (by rw [ops_len]; omega)) optS ?_
        refine ARun.pick rfl rfl rfl rfl (Ev.plain rfl) (Ev.opt rfl (by first | exact pkT | exact pkT2 | simp +contextual)) (Ev.plain rfl) (andB _ _) optN ?_
        refine ARun.move (.inl rfl) rfl rfl rfl (Ev.plain rfl) optN ?_
        refine ARun.move (.inl rfl) rfl rfl rfl (Ev.plain rfl) optS ?_
        refine ARun.call rfl rfl rfl rfl cf16 (Ev.plain rfl) (.cons (Ev.opt rfl (fun h => h)) .nil) rfl (fun hg => text_fn e (by omega) hfi (by omega)) optS ?_
        refine ARun.loadBoxA rfl rfl rfl rfl Tryd.underlying30 rfl sz30 (Ev.plain rfl) ((hG.at _ _).trans rfl) rfl rfl optS ?_
        refine ARun.call rfl rfl rfl rfl cf17 (Ev.plain rfl) (.cons (Ev.opt rfl (fun h => h)) .nil) rfl (fun hg => textR_fn (refOf e) (by show e.ops.length ≤ 100000; rw [ops_len]; omega) (by show e.codeI ≤ _; rw [of_codeI hof]; omega) (by show (opsText e.ops).size ≤ 1000000; omega)) optS ?_
        refine ARun.cmpS rfl rfl rfl rfl (Ev.opt rfl (fun h => h)) (Ev.opt rfl (fun h => h)) rfl optS ?_
        refine ARun.pick rfl rfl rfl rfl (Ev.plain rfl) (Ev.opt rfl (by first | exact pkT | exact pkT2 | simp +contextual)) (Ev.plain rfl) (andB _ _) optN ?_
        refine ARun.move (.inl rfl) rfl rfl rfl (Ev.plain rfl) optN ?_
        refine ARun.move (.inl rfl) rfl rfl rfl (Ev.plain rfl) optS ?_
        refine ARun.call rfl rfl rfl rfl cf18 (Ev.plain rfl) (.cons (Ev.opt rfl (fun h => h)) .nil) rfl (fun hg => deep_fn e (by omega)) optS ?_
        refine ARun.fieldBox rfl rfl rfl rfl Tryd.underlying30 rfl rfl sz22 (by decide) (Ev.plain rfl) ((hG.at _ _).trans rfl) optS ?_
        refine ARun.loadBox rfl rfl rfl rfl Tryd.underlying22 rfl (Ev.opt rfl (fun h => h)) ((hG.at _ _).trans rfl) rfl optS ?_
        refine ARun.lenSl rfl rfl rfl rfl Tryd.underlying22 (Ev.opt rfl (fun h => h)) optS ?_
        refine ARun.cmp rfl rfl rfl rfl (Ev.opt rfl (fun h => h)) (Ev.opt rfl (fun h => h)) rfl optS ?_
        refine ARun.pick rfl rfl rfl rfl (Ev.plain rfl) (Ev.opt rfl (by first | exact pkT | exact pkT2 | simp +contextual)) (Ev.plain rfl) (andB _ _) optN ?_
        refine ARun.move (.inl rfl) rfl rfl rfl (Ev.plain rfl) optN ?_
        refine ARun.move (.inl rfl) rfl rfl rfl (Ev.plain rfl) optS ?_
        refine ARun.move (.inl rfl) rfl rfl rfl (Ev.plain rfl) optS ?_
        refine ARun.call rfl rfl rfl rfl cf19 (Ev.plain rfl) (.cons (Ev.opt rfl (fun h => h)) (.cons (Ev.opt rfl (fun h => h)) .nil)) rfl (fun hg => at_fn e _ (by omega)) optS ?_
        refine ARun.loadBoxA rfl rfl rfl rfl Tryd.underlying30 rfl sz30 (Ev.plain rfl) ((hG.at _ _).trans rfl) rfl rfl optS ?_
        refine ARun.move (.inl rfl) rfl rfl rfl (Ev.plain rfl) optS ?_
        refine ARun.call rfl rfl rfl rfl cf20 (Ev.plain rfl) (.cons (Ev.opt rfl (fun h => h)) (.cons (Ev.opt rfl (fun h => h)) .nil)) rfl (fun hg => atR_fn (refOf e) _ (by show e.ops.length ≤ 100000; rw [ops_len]; omega)) optS ?_
        refine ARun.cmpB rfl rfl rfl rfl Tryd.underlying4 (Ev.opt rfl (fun h => h)) (Ev.opt rfl (fun h => h)) rfl optS ?_
        refine ARun.pick rfl rfl rfl rfl (Ev.plain rfl) (Ev.opt rfl (by first | exact pkT | exact pkT2 | simp +contextual)) (Ev.plain rfl) (andB _ _) optN ?_
        refine ARun.move (.inl rfl) rfl rfl rfl (Ev.plain rfl) optN ?_
        refine ARun.move (.inl rfl) rfl rfl rfl (Ev.plain rfl) optS ?_
        refine ARun.move (.inl rfl) rfl rfl rfl (Ev.plain rfl) optS ?_
        refine ARun.call rfl rfl rfl rfl cf19 (Ev.plain rfl) (.cons (Ev.opt rfl (fun h => h)) (.cons (Ev.opt rfl (fun h => h)) .nil)) rfl (fun hg => at_fn e _ (by omega)) optS ?_
        refine ARun.loadBoxA rfl rfl rfl rfl Tryd.underlying30 rfl sz30 (Ev.plain rfl) ((hG.at _ _).trans rfl) rfl rfl optS ?_
        refine ARun.move (.inl rfl) rfl rfl rfl (Ev.plain rfl) optS ?_
        refine ARun.call rfl rfl rfl rfl cf20 (Ev.plain rfl) (.cons (Ev.opt rfl (fun h => h)) (.cons (Ev.opt rfl (fun h => h)) .nil)) rfl (fun hg => atR_fn (refOf e) _ (by show e.ops.length ≤ 100000; rw [ops_len]; omega)) optS ?_
        refine ARun.cmpB rfl rfl rfl rfl Tryd.underlying4 (Ev.opt rfl (fun h => h)) (Ev.opt rfl (fun h => h)) rfl optS ?_
        refine ARun.pick rfl rfl rfl rfl (Ev.plain rfl) (Ev.opt rfl (by first | exact pkT | exact pkT2 | simp +contextual)) (Ev.plain rfl) (andB _ _) optN ?_
        refine ARun.move (.inl rfl) rfl rfl rfl (Ev.plain rfl) optN ?_
        refine ARun.call rfl rfl rfl rfl cf8 (Ev.plain rfl) .nil rfl (fun hg => awake_fn) optS ?_
        refine ARun.pick rfl rfl rfl rfl (Ev.plain rfl) (Ev.opt rfl (by first | exact pkT | exact pkT2 | simp +contextual)) (Ev.plain rfl) (andB _ _) optN ?_
        refine ARun.move (.inr rfl) rfl rfl rfl (Ev.plain rfl) optN ?_
        refine ⟨by kernel_rfl, _, _, rfl, hG, ?_⟩
        refine thenA_n ?_
        refine AWP.ret ?_
        refine endF.one (.inr rfl) rfl (.tmp rfl) ?_ hN
        rw [text_ref hof]; simp [of_none hof, of_code hof, of_codeI hof, refOf, ops_len]
      · skip
        try simp [-List.getD_eq_getElem?_getD] at h2
        refine AWP.skip ?_
        refine thenA_n ?_
        refine AWP.seq ?_
        refine AWP.draw mixed (by kernel_rfl) (fun _ => ?_)
        refine ARun.move (.inl rfl) rfl rfl rfl (Ev.plain rfl) optN ?_
        refine ARun.isNil rfl rfl rfl rfl Tryd.underlying26 (Ev.plain rfl) (fun hg => by first | rfl | exact nilA_aEr _) (.inl ⟨rfl, rfl⟩) optN ?_
        refine ARun.fieldBox rfl rfl rfl rfl Tryd.underlying30 rfl rfl sz3 (by decide) (Ev.plain rfl) ((hG.at _ _).trans rfl) optN ?_
        refine ARun.loadBox rfl rfl rfl rfl Tryd.underlying3 rfl (Ev.plain rfl) ((hG.at _ _).trans rfl) rfl optN ?_
        refine ARun.cmp rfl rfl rfl rfl (Ev.plain rfl) (Ev.plain rfl) rfl optN ?_
        refine ARun.cmpB rfl rfl rfl rfl Tryd.underlying4 (Ev.plain rfl) (Ev.plain rfl) rfl optN ?_
        refine ARun.move (.inl rfl) rfl rfl rfl (Ev.plain rfl) optN ?_
        refine ARun.move (.inl rfl) rfl rfl rfl (Ev.plain rfl) optS ?_
        refine ARun.call rfl rfl rfl rfl cf13 (Ev.plain rfl) (.cons (Ev.opt rfl (fun h => h)) .nil) rfl (fun hg => code_fn e) optS ?_
        refine ARun.fieldBox rfl rfl rfl rfl Tryd.underlying30 rfl rfl sz3 (by decide) (Ev.plain rfl) ((hG.at _ _).trans rfl) optS ?_
        refine ARun.loadBox rfl rfl rfl rfl Tryd.underlying3 rfl (Ev.opt rfl (fun h => h)) ((hG.at _ _).trans rfl) rfl optS ?_
        refine ARun.cmp rfl rfl rfl rfl (Ev.opt rfl (fun h => h)) (Ev.opt rfl (fun h => h)) rfl optS ?_
        refine ARun.pick rfl rfl rfl rfl (Ev.plain rfl) (Ev.opt rfl (by first | exact pkT | exact pkT2 | simp +contextual)) (Ev.plain rfl) (andB _ _) optN ?_
        refine ARun.move (.inl rfl) rfl rfl rfl (Ev.plain rfl) optN ?_
        refine ARun.move (.inl rfl) rfl rfl rfl (Ev.plain rfl) optS ?_
        refine ARun.call rfl rfl rfl rfl cf15 (Ev.plain rfl) (.cons (Ev.opt rfl (fun h => h)) .nil) rfl (fun hg => trace_fn e (by omega)) optS ?_
        refine ARun.fieldBox rfl rfl rfl rfl Tryd.underlying30 rfl rfl sz22 (by decide) (Ev.plain rfl) ((hG.at _ _).trans rfl) optS ?_
        refine ARun.loadBox rfl rfl rfl rfl Tryd.underlying22 rfl (Ev.opt rfl (fun h => h)) ((hG.at _ _).trans rfl) rfl optS ?_
        refine ARun.call rfl rfl rfl rfl cf14 (Ev.plain rfl) (.cons (Ev.opt rfl (fun h => h)) (.cons (Ev.opt rfl (fun h => h)) .nil)) rfl (fun hg => same_fn e.ops e.ops (by rw [ops_len]; omega)) optS ?_
        refine ARun.pick rfl rfl rfl rfl (Ev.plain rfl) (Ev.opt rfl (by first | exact pkT | exact pkT2 | simp +contextual)) (Ev.plain rfl) (andB _ _) optN ?_
        refine ARun.move (.inl rfl) rfl rfl rfl (Ev.plain rfl) optN ?_
        refine ARun.move (.inl rfl) rfl rfl rfl (Ev.plain rfl) optS ?_
        refine ARun.call rfl rfl rfl rfl cf16 (Ev.plain rfl) (.cons (Ev.opt rfl (fun h => h)) .nil) rfl (fun hg => text_fn e (by omega) hfi (by omega)) optS ?_
        refine ARun.loadBoxA rfl rfl rfl rfl Tryd.underlying30 rfl sz30 (Ev.plain rfl) ((hG.at _ _).trans rfl) rfl rfl optS ?_
        refine ARun.call rfl rfl rfl rfl cf17 (Ev.plain rfl) (.cons (Ev.opt rfl (fun h => h)) .nil) rfl (fun hg => textR_fn (refOf e) (by show e.ops.length ≤ 100000; rw [ops_len]; omega) (by show e.codeI ≤ _; rw [of_codeI hof]; omega) (by show (opsText e.ops).size ≤ 1000000; omega)) optS ?_
        refine ARun.cmpS rfl rfl rfl rfl (Ev.opt rfl (fun h => h)) (Ev.opt rfl (fun h => h)) rfl optS ?_
        refine ARun.pick rfl rfl rfl rfl (Ev.plain rfl) (Ev.opt rfl (by first | exact pkT | exact pkT2 | simp +contextual)) (Ev.plain rfl) (andB _ _) optN ?_
        refine ARun.move (.inl rfl) rfl rfl rfl (Ev.plain rfl) optN ?_
        refine ARun.move (.inl rfl) rfl rfl rfl (Ev.plain rfl) optS ?_
        refine ARun.call rfl rfl rfl rfl cf18 (Ev.plain rfl) (.cons (Ev.opt rfl (fun h => h)) .nil) rfl (fun hg => deep_fn e (by omega)) optS ?_
        refine ARun.fieldBox rfl rfl rfl rfl Tryd.underlying30 rfl rfl sz22 (by decide) (Ev.plain rfl) ((hG.at _ _).trans rfl) optS ?_
        refine ARun.loadBox rfl rfl rfl rfl Tryd.underlying22 rfl (Ev.opt rfl (fun h => h)) ((hG.at _ _).trans rfl) rfl optS ?_
        refine ARun.lenSl rfl rfl rfl rfl Tryd.underlying22 (Ev.opt rfl (fun h => h)) optS ?_
        refine ARun.cmp rfl rfl rfl rfl (Ev.opt rfl (fun h => h)) (Ev.opt rfl (fun h => h)) rfl optS ?_
        refine ARun.pick rfl rfl rfl rfl (Ev.plain rfl) (Ev.opt rfl (by first | exact pkT | exact pkT2 | simp +contextual)) (Ev.plain rfl) (andB _ _) optN ?_
        refine ARun.move (.inl rfl) rfl rfl rfl (Ev.plain rfl) optN ?_
        refine ARun.move (.inl rfl) rfl rfl rfl (Ev.plain rfl) optS ?_
        refine ARun.move (.inl rfl) rfl rfl rfl (Ev.plain rfl) optS ?_
        refine ARun.call rfl rfl rfl rfl cf19 (Ev.plain rfl) (.cons (Ev.opt rfl (fun h => h)) (.cons (Ev.opt rfl (fun h => h)) .nil)) rfl (fun hg => at_fn e _ (by omega)) optS ?_
        refine ARun.loadBoxA rfl rfl rfl rfl Tryd.underlying30 rfl sz30 (Ev.plain rfl) ((hG.at _ _).trans rfl) rfl rfl optS ?_
        refine ARun.move (.inl rfl) rfl rfl rfl (Ev.plain rfl) optS ?_
        refine ARun.call rfl rfl rfl rfl cf20 (Ev.plain rfl) (.cons (Ev.opt rfl (fun h => h)) (.cons (Ev.opt rfl (fun h => h)) .nil)) rfl (fun hg => atR_fn (refOf e) _ (by show e.ops.length ≤ 100000; rw [ops_len]; omega)) optS ?_
        refine ARun.cmpB rfl rfl rfl rfl Tryd.underlying4 (Ev.opt rfl (fun h => h)) (Ev.opt rfl (fun h => h)) rfl optS ?_
        refine ARun.pick rfl rfl rfl rfl (Ev.plain rfl) (Ev.opt rfl (by first | exact pkT | exact pkT2 | simp +contextual)) (Ev.plain rfl) (andB _ _) optN ?_
        refine ARun.move (.inl rfl) rfl rfl rfl (Ev.plain rfl) optN ?_
        refine ARun.move (.inl rfl) rfl rfl rfl (Ev.plain rfl) optS ?_
        refine ARun.move (.inl rfl) rfl rfl rfl (Ev.plain rfl) optS ?_
        refine ARun.call rfl rfl rfl rfl cf19 (Ev.plain rfl) (.cons (Ev.opt rfl (fun h => h)) (.cons (Ev.opt rfl (fun h => h)) .nil)) rfl (fun hg => at_fn e _ (by omega)) optS ?_
        refine ARun.loadBoxA rfl rfl rfl rfl Tryd.underlying30 rfl sz30 (Ev.plain rfl) ((hG.at _ _).trans rfl) rfl rfl optS ?_
        refine ARun.move (.inl rfl) rfl rfl rfl (Ev.plain rfl) optS ?_
        refine ARun.call rfl rfl rfl rfl cf20 (Ev.plain rfl) (.cons (Ev.opt rfl (fun h => h)) (.cons (Ev.opt rfl (fun h => h)) .nil)) rfl (fun hg => atR_fn (refOf e) _ (by show e.ops.length ≤ 100000; rw [ops_len]; omega)) optS ?_
        refine ARun.cmpB rfl rfl rfl rfl Tryd.underlying4 (Ev.opt rfl (fun h => h)) (Ev.opt rfl (fun h => h)) rfl optS ?_
        refine ARun.pick rfl rfl rfl rfl (Ev.plain rfl) (Ev.opt rfl (by first | exact pkT | exact pkT2 | simp +contextual)) (Ev.plain rfl) (andB _ _) optN ?_
        refine ARun.move (.inl rfl) rfl rfl rfl (Ev.plain rfl) optN ?_
        refine ARun.call rfl rfl rfl rfl cf8 (Ev.plain rfl) .nil rfl (fun hg => awake_fn) optS ?_
        refine ARun.pick rfl rfl rfl rfl (Ev.plain rfl) (Ev.opt rfl (by first | exact pkT | exact pkT2 | simp +contextual)) (Ev.plain rfl) (andB _ _) optN ?_
        refine ARun.move (.inr rfl) rfl rfl rfl (Ev.plain rfl) optN ?_
        refine ⟨by kernel_rfl, _, _, rfl, hG, ?_⟩
        refine thenA_n ?_
        refine AWP.ret ?_
        refine endF.one (.inr rfl) rfl (.tmp rfl) ?_ hN
        rw [text_ref hof]; simp [of_none hof, of_code hof, of_codeI hof, refOf, ops_len]
set_option maxHeartbeats 1000000 in
theorem codes_fn (code other : Int) (ops : List ByteArray) (hc : -9223372036854775808 ≤ code ∧ code ≤ 9223372036854775807) : FnP Tryd.prog 4 [.int .i64 code, .int .i64 other, .sl (ops.map AV.str)] (.bool true) := by
  refine FnP.of Tryd.func4 rfl rfl (by simp) (by simp [AV.cells]) (fun G hG => ?_)
  have hN : NoH G.length (.bool true) := (by simp [AV.cells])
  refine AWP.seq ?_
  refine AWP.region (fun _ => ?_)
  refine ARun.move (.inr rfl) rfl rfl rfl (Ev.plain rfl) optN ?_
  refine ⟨_, _, rfl, hG, ?_⟩
  refine thenA_n ?_
  refine AWP.seq ?_
  refine AWP.seq ?_
  refine AWP.region (fun _ => ?_)
  refine ARun.move (.inl rfl) rfl rfl rfl (Ev.plain rfl) optN ?_
  refine ARun.call rfl rfl rfl rfl cf7 (Ev.plain rfl) (.cons (Ev.plain rfl) .nil) rfl (fun hg => few_fn ops) optN ?_
  refine ARun.not rfl rfl rfl rfl (Ev.plain rfl) optN ?_
  refine ⟨_, _, rfl, hG, ?_⟩
  refine thenA_n ?_
  refine AWP.cond rfl (fun h0 => ?_) (fun h0 => ?_)
  · skip
    try simp [-List.getD_eq_getElem?_getD] at h0
    refine AWP.seq ?_
    refine AWP.region (fun _ => ?_)
    refine ARun.call rfl rfl rfl rfl cf8 (Ev.plain rfl) .nil rfl (fun hg => awake_fn) optN ?_
    refine ARun.move (.inr rfl) rfl rfl rfl (Ev.plain rfl) optN ?_
    refine ⟨_, _, rfl, hG, ?_⟩
    refine thenA_n ?_
    refine AWP.ret ?_
    refine thenA_r ?_
    refine endF.one (.inr rfl) rfl (.tmp rfl) ?_ hN
    rfl
  · skip
    simp at h0
    have hfew := h0
    have hlen := few_len hfew
    refine AWP.skip ?_
    refine thenA_n ?_
    refine AWP.seq ?_
    refine AWP.region (fun _ => ?_)
    refine ARun.move (.inl rfl) rfl rfl rfl (Ev.plain rfl) optN ?_
    refine ARun.call rfl rfl rfl rfl cf9 (Ev.plain rfl) (.cons (Ev.plain rfl) (.cons (Ev.plain rfl) .nil)) rfl (fun hg => new_fn ⟨#[120]⟩ code) optN ?_
    refine ARun.move (.inr rfl) rfl rfl rfl (Ev.plain rfl) optN ?_
    refine ⟨_, _, rfl, hG, ?_⟩
    refine thenA_n ?_
    refine AWP.seq ?_
    refine AWP.seq ?_
    refine AWP.region (fun _ => ?_)
    refine ARun.move (.inr rfl) rfl rfl rfl (Ev.plain rfl) optN ?_
    refine ⟨_, _, rfl, hG, ?_⟩
    refine thenA_n ?_
    refine AWP.block ?_
    refine AWP.rounds (fun s => s.1 ≤ ops.length ∧ Of s.2 code ∧ s.2.depth ≤ s.1 + 1 ∧ (opsText s.2.ops).size ≤ 102 * (s.1 + 1)) (fun s => [(0, .int .i64 code), (1, .int .i64 other), (2, .sl (ops.map AV.str)), (7, aEr s.2), (8, .int .i64 (s.1 : Int))]) (fun s => []) (fun s => ops.length - s.1) 0 ((0, Er.new ⟨#[120]⟩ code) : Nat × Er) ⟨Nat.zero_le _, of_new _ code, by have := depth_new ⟨#[120]⟩ code; dsimp only; omega, by have := text_new ⟨#[120]⟩ code (by decide); dsimp only; omega⟩ (by repeat (first | exact .nil | refine .cons rfl ?_)) rfl (fun _ => rfl) (fun _ => ⟨by simp [AV.cells], by simp⟩) (fun s hI => ?_)
    obtain ⟨k, e⟩ := s
    dsimp only at hI
    show AWP _ _ _ _ _ [(0, .int .i64 code), (1, .int .i64 other), (2, .sl (ops.map AV.str)), (7, aEr e), (8, .int .i64 (k : Int))] _ []
    obtain ⟨hk, hof, hdp, htx⟩ := hI
    have hfi := of_fits hof hc.2
    refine AWP.seq ?_
    refine AWP.seq ?_
    refine AWP.region (fun _ => ?_)
    refine ARun.move (.inl rfl) rfl rfl rfl (Ev.plain rfl) optN ?_
    refine ARun.move (.inl rfl) rfl rfl rfl (Ev.plain rfl) optN ?_
    refine ARun.lenSl rfl rfl rfl rfl Tryd.underlying22 (Ev.plain rfl) optN ?_
    refine ARun.cmp rfl rfl rfl rfl (Ev.plain rfl) (Ev.plain rfl) rfl optN ?_
    refine ⟨_, _, rfl, hG, ?_⟩
    refine thenA_n ?_
    refine AWP.cond rfl (fun h1 => ?_) (fun h1 => ?_)
    · skip
      try simp [-List.getD_eq_getElem?_getD] at h1
      refine AWP.skip ?_
      refine thenA_n ?_
      refine AWP.seq ?_
      refine AWP.block ?_
      refine AWP.seq ?_
      refine AWP.region (fun _ => ?_)
      refine ARun.move (.inl rfl) rfl rfl rfl (Ev.plain rfl) optN ?_
      refine ARun.move (.inl rfl) rfl rfl rfl (Ev.plain rfl) optN ?_
      first | refine ARun.indexSl rfl rfl rfl rfl Tryd.underlying22 sz9 (Ev.plain rfl) (Ev.plain rfl) (fun _ => rfl) (fun hg => getMap _ _ _ (by (try simp at hg); omega)) rfl rfl optN ?_ | refine ARun.indexSl rfl rfl rfl rfl Tryd.underlying22 sz9 (Ev.plain rfl) (Ev.plain rfl) (fun hg => ofNonneg (by (try simp at hg); omega)) (fun hg => getMap _ _ _ (by (try simp at hg); omega)) rfl rfl optN ?_
      refine ARun.loadPe rfl rfl rfl rfl Tryd.underlying9 rfl (Ev.plain rfl) rfl optN ?_
      refine ARun.move (.inl rfl) rfl rfl rfl (Ev.plain rfl) optN ?_
      refine ARun.call rfl rfl rfl rfl cf11 (Ev.plain rfl) (.cons (Ev.plain rfl) (.cons (Ev.plain rfl) .nil)) rfl (fun hg => wrap_fn _ e) optN ?_
      refine ARun.move (.inr rfl) rfl rfl rfl (Ev.plain rfl) optN ?_
      refine ⟨_, _, rfl, hG, ?_⟩
      refine thenA_n ?_
      refine AWP.seq ?_
      refine AWP.region (fun _ => ?_)
      refine ARun.move (.inl rfl) rfl rfl rfl (Ev.plain rfl) optN ?_
      refine ARun.call rfl rfl rfl rfl cf13 (Ev.plain rfl) (.cons (Ev.plain rfl) .nil) rfl (fun hg => code_fn _) optN ?_
      refine ARun.move (.inl rfl) rfl rfl rfl (Ev.plain rfl) optN ?_
      refine ARun.cmp rfl rfl rfl rfl (Ev.plain rfl) (Ev.plain rfl) rfl optN ?_
      refine ⟨_, _, rfl, hG, ?_⟩
      refine thenA_n ?_
      refine AWP.cond rfl (fun h2 => ?_) (fun h2 => ?_)
      · skip
        rw [of_code (of_wrap (ops.getD k default) hof)] at h2; simp at h2
      · skip
        try simp [-List.getD_eq_getElem?_getD] at h2
        refine AWP.skip ?_
        refine blockA_n ?_
        refine thenA_n ?_
        refine AWP.region (fun _ => ?_)
        refine ARun.move (.inl rfl) rfl rfl rfl (Ev.plain rfl) optN ?_
        first | refine ARun.arith rfl rfl rfl rfl (Ev.plain rfl) (Ev.plain rfl) rfl (fun hg => i64w (by (try simp at hg); omega)) optN ?_ | refine ARun.arith rfl rfl rfl rfl (Ev.plain rfl) (Ev.plain rfl) rfl (fun _ => rfl) optN ?_
        refine ARun.move (.inr rfl) rfl rfl rfl (Ev.plain rfl) optN ?_
        refine ⟨_, _, rfl, hG, ?_⟩
        refine thenA_n ⟨rfl, (k + 1, Er.wrap (ops.getD k default) e), _, ?_, ?_, rfl, ?_⟩
        · have d1 := depth_wrap (ops.getD k default) e
          have d2 := text_wrap (ops.getD k default) e (few_at hfew (by omega))
          exact ⟨by dsimp only; omega, of_wrap _ hof, by dsimp only; omega, by dsimp only; omega⟩
        · repeat (first | exact .nil | refine .cons rfl ?_)
        · dsimp only; omega
    · skip
      try simp [-List.getD_eq_getElem?_getD] at h1
      refine AWP.exit ?_
      refine thenA_x ?_
      refine thenA_x ?_
      refine blockA_h ?_
      refine thenA_n ?_
      refine AWP.seq ?_
      refine AWP.region (fun _ => ?_)
      refine ARun.move (.inl rfl) rfl rfl rfl (Ev.plain rfl) optN ?_
      refine ARun.move (.inl rfl) rfl rfl rfl (Ev.plain rfl) optN ?_
      refine ARun.call rfl rfl rfl rfl cf21 (Ev.plain rfl) (.cons (Ev.plain rfl) (.cons (Ev.plain rfl) .nil)) rfl (fun hg => isP_fn e code) optN ?_
      refine ARun.move (.inl rfl) rfl rfl rfl (Ev.plain rfl) optN ?_
      refine ARun.move (.inl rfl) rfl rfl rfl (Ev.plain rfl) optS ?_
      refine ARun.move (.inl rfl) rfl rfl rfl (Ev.plain rfl) optS ?_
      refine ARun.call rfl rfl rfl rfl cf21 (Ev.plain rfl) (.cons (Ev.opt rfl (fun h => h)) (.cons (Ev.opt rfl (fun h => h)) .nil)) rfl (fun hg => isP_fn e other) optS ?_
      refine ARun.move (.inl rfl) rfl rfl rfl (Ev.plain rfl) optS ?_
      refine ARun.move (.inl rfl) rfl rfl rfl (Ev.plain rfl) optS ?_
      refine ARun.cmp rfl rfl rfl rfl (Ev.opt rfl (fun h => h)) (Ev.opt rfl (fun h => h)) rfl optS ?_
      refine ARun.cmpB rfl rfl rfl rfl Tryd.underlying4 (Ev.opt rfl (fun h => h)) (Ev.opt rfl (fun h => h)) rfl optS ?_
      refine ARun.pick rfl rfl rfl rfl (Ev.plain rfl) (Ev.opt rfl (by first | exact pkT | exact pkT2 | simp +contextual)) (Ev.plain rfl) (andB _ _) optN ?_
      refine ARun.move (.inl rfl) rfl rfl rfl (Ev.plain rfl) optN ?_
      refine ARun.call rfl rfl rfl rfl cf8 (Ev.plain rfl) .nil rfl (fun hg => awake_fn) optS ?_
      refine ARun.pick rfl rfl rfl rfl (Ev.plain rfl) (Ev.opt rfl (by first | exact pkT | exact pkT2 | simp +contextual)) (Ev.plain rfl) (andB _ _) optN ?_
      refine ARun.move (.inr rfl) rfl rfl rfl (Ev.plain rfl) optN ?_
      refine ⟨_, _, rfl, hG, ?_⟩
      refine thenA_n ?_
      refine AWP.ret ?_
      refine endF.one (.inr rfl) rfl (.tmp rfl) ?_ hN
      simp [of_isP hof]
set_option maxHeartbeats 1000000 in
theorem trace_law_fn (code : Int) (ops : List ByteArray) (hc : -9223372036854775808 ≤ code ∧ code ≤ 9223372036854775807) : FnP Tryd.prog 5 [.int .i64 code, .sl (ops.map AV.str)] (.bool true) := by
  refine FnP.of Tryd.func5 rfl rfl (by simp) (by simp [AV.cells]) (fun G hG => ?_)
  have hN : NoH G.length (.bool true) := (by simp [AV.cells])
  refine AWP.seq ?_
  refine AWP.region (fun _ => ?_)
  refine ARun.move (.inr rfl) rfl rfl rfl (Ev.plain rfl) optN ?_
  refine ⟨_, _, rfl, hG, ?_⟩
  refine thenA_n ?_
  refine AWP.seq ?_
  refine AWP.seq ?_
  refine AWP.region (fun _ => ?_)
  refine ARun.move (.inl rfl) rfl rfl rfl (Ev.plain rfl) optN ?_
  refine ARun.call rfl rfl rfl rfl cf7 (Ev.plain rfl) (.cons (Ev.plain rfl) .nil) rfl (fun hg => few_fn ops) optN ?_
  refine ARun.not rfl rfl rfl rfl (Ev.plain rfl) optN ?_
  refine ⟨_, _, rfl, hG, ?_⟩
  refine thenA_n ?_
  refine AWP.cond rfl (fun h0 => ?_) (fun h0 => ?_)
  · skip
    try simp [-List.getD_eq_getElem?_getD] at h0
    refine AWP.seq ?_
    refine AWP.region (fun _ => ?_)
    refine ARun.call rfl rfl rfl rfl cf8 (Ev.plain rfl) .nil rfl (fun hg => awake_fn) optN ?_
    refine ARun.move (.inr rfl) rfl rfl rfl (Ev.plain rfl) optN ?_
    refine ⟨_, _, rfl, hG, ?_⟩
    refine thenA_n ?_
    refine AWP.ret ?_
    refine thenA_r ?_
    refine endF.one (.inr rfl) rfl (.tmp rfl) ?_ hN
    rfl
  · skip
    simp at h0
    have hfew := h0
    have hlen := few_len hfew
    refine AWP.skip ?_
    refine thenA_n ?_
    refine AWP.seq ?_
    refine AWP.region (fun _ => ?_)
    refine ARun.move (.inl rfl) rfl rfl rfl (Ev.plain rfl) optN ?_
    refine ARun.call rfl rfl rfl rfl cf9 (Ev.plain rfl) (.cons (Ev.plain rfl) (.cons (Ev.plain rfl) .nil)) rfl (fun hg => new_fn ⟨#[120]⟩ code) optN ?_
    refine ARun.move (.inr rfl) rfl rfl rfl (Ev.plain rfl) optN ?_
    refine ⟨_, _, rfl, hG, ?_⟩
    refine thenA_n ?_
    refine AWP.seq ?_
    refine AWP.seq ?_
    refine AWP.region (fun _ => ?_)
    refine ARun.move (.inr rfl) rfl rfl rfl (Ev.plain rfl) optN ?_
    refine ⟨_, _, rfl, hG, ?_⟩
    refine thenA_n ?_
    refine AWP.block ?_
    refine AWP.rounds (fun s => s.1 ≤ ops.length ∧ Of s.2 code ∧ s.2.depth ≤ s.1 + 1 ∧ (opsText s.2.ops).size ≤ 102 * (s.1 + 1)) (fun s => [(0, .int .i64 code), (1, .sl (ops.map AV.str)), (5, aEr s.2), (6, .int .i64 (s.1 : Int))]) (fun s => []) (fun s => ops.length - s.1) 0 ((0, Er.new ⟨#[120]⟩ code) : Nat × Er) ⟨Nat.zero_le _, of_new _ code, by have := depth_new ⟨#[120]⟩ code; dsimp only; omega, by have := text_new ⟨#[120]⟩ code (by decide); dsimp only; omega⟩ (by repeat (first | exact .nil | refine .cons rfl ?_)) rfl (fun _ => rfl) (fun _ => ⟨by simp [AV.cells], by simp⟩) (fun s hI => ?_)
    obtain ⟨k, e⟩ := s
    dsimp only at hI
    show AWP _ _ _ _ _ [(0, .int .i64 code), (1, .sl (ops.map AV.str)), (5, aEr e), (6, .int .i64 (k : Int))] _ []
    obtain ⟨hk, hof, hdp, htx⟩ := hI
    have hfi := of_fits hof hc.2
    refine AWP.seq ?_
    refine AWP.seq ?_
    refine AWP.region (fun _ => ?_)
    refine ARun.move (.inl rfl) rfl rfl rfl (Ev.plain rfl) optN ?_
    refine ARun.move (.inl rfl) rfl rfl rfl (Ev.plain rfl) optN ?_
    refine ARun.lenSl rfl rfl rfl rfl Tryd.underlying22 (Ev.plain rfl) optN ?_
    refine ARun.cmp rfl rfl rfl rfl (Ev.plain rfl) (Ev.plain rfl) rfl optN ?_
    refine ⟨_, _, rfl, hG, ?_⟩
    refine thenA_n ?_
    refine AWP.cond rfl (fun h1 => ?_) (fun h1 => ?_)
    · skip
      try simp [-List.getD_eq_getElem?_getD] at h1
      refine AWP.skip ?_
      refine thenA_n ?_
      refine AWP.seq ?_
      refine AWP.block ?_
      refine AWP.seq ?_
      refine AWP.region (fun _ => ?_)
      refine ARun.move (.inl rfl) rfl rfl rfl (Ev.plain rfl) optN ?_
      refine ARun.move (.inl rfl) rfl rfl rfl (Ev.plain rfl) optN ?_
      first | refine ARun.indexSl rfl rfl rfl rfl Tryd.underlying22 sz9 (Ev.plain rfl) (Ev.plain rfl) (fun _ => rfl) (fun hg => getMap _ _ _ (by (try simp at hg); omega)) rfl rfl optN ?_ | refine ARun.indexSl rfl rfl rfl rfl Tryd.underlying22 sz9 (Ev.plain rfl) (Ev.plain rfl) (fun hg => ofNonneg (by (try simp at hg); omega)) (fun hg => getMap _ _ _ (by (try simp at hg); omega)) rfl rfl optN ?_
      refine ARun.loadPe rfl rfl rfl rfl Tryd.underlying9 rfl (Ev.plain rfl) rfl optN ?_
      refine ARun.move (.inl rfl) rfl rfl rfl (Ev.plain rfl) optN ?_
      refine ARun.call rfl rfl rfl rfl cf11 (Ev.plain rfl) (.cons (Ev.plain rfl) (.cons (Ev.plain rfl) .nil)) rfl (fun hg => wrap_fn _ e) optN ?_
      refine ARun.move (.inr rfl) rfl rfl rfl (Ev.plain rfl) optN ?_
      refine ⟨_, _, rfl, hG, ?_⟩
      refine thenA_n ?_
      refine AWP.seq ?_
      refine AWP.seq ?_
      refine AWP.region (fun _ => ?_)
      refine ARun.move (.inl rfl) rfl rfl rfl (Ev.plain rfl) optN ?_
      refine ARun.cmp rfl rfl rfl rfl (Ev.plain rfl) (Ev.plain rfl) rfl optN ?_
      refine ⟨_, _, rfl, hG, ?_⟩
      refine thenA_n ?_
      refine AWP.cond rfl (fun h2 => ?_) (fun h2 => ?_)
      · skip
        try simp [-List.getD_eq_getElem?_getD] at h2
        refine AWP.seq ?_
        refine AWP.seq ?_
        refine AWP.region (fun _ => ?_)
        refine ARun.move (.inl rfl) rfl rfl rfl (Ev.plain rfl) optN ?_
        refine ARun.isNil rfl rfl rfl rfl Tryd.underlying26 (Ev.plain rfl) (fun hg => by first | rfl | exact nilA_aEr _) (.inr ⟨rfl, rfl⟩) optN ?_
        refine ⟨_, _, rfl, hG, ?_⟩
        refine thenA_n ?_
        refine AWP.cond rfl (fun h3 => ?_) (fun h3 => ?_)
        · skip
          rw [of_none (of_wrap _ hof)] at h3; simp [h2] at h3
        · skip
          try simp [-List.getD_eq_getElem?_getD] at h3
          refine AWP.skip ?_
          refine thenA_n ?_
          refine AWP.exit ?_
          refine thenA_x ?_
          refine blockA_h ?_
          refine thenA_n ?_
          refine AWP.region (fun _ => ?_)
          refine ARun.move (.inl rfl) rfl rfl rfl (Ev.plain rfl) optN ?_
          first | refine ARun.arith rfl rfl rfl rfl (Ev.plain rfl) (Ev.plain rfl) rfl (fun hg => i64w (by (try simp at hg); omega)) optN ?_ | refine ARun.arith rfl rfl rfl rfl (Ev.plain rfl) (Ev.plain rfl) rfl (fun _ => rfl) optN ?_
          refine ARun.move (.inr rfl) rfl rfl rfl (Ev.plain rfl) optN ?_
          refine ⟨_, _, rfl, hG, ?_⟩
          refine thenA_n ⟨rfl, (k + 1, e), _, ?_, ?_, rfl, ?_⟩
          · exact ⟨by dsimp only; omega, hof, by dsimp only; omega, by dsimp only; omega⟩
          · repeat (first | exact .nil | refine .cons rfl ?_)
          · dsimp only; omega
      · skip
        try simp [-List.getD_eq_getElem?_getD] at h2
        refine AWP.skip ?_
        refine thenA_n ?_
        refine AWP.seq ?_
        refine AWP.seq ?_
        refine AWP.draw mixed (by kernel_rfl) (fun _ => ?_)
        refine ARun.move (.inl rfl) rfl rfl rfl (Ev.plain rfl) optN ?_
        refine ARun.isNil rfl rfl rfl rfl Tryd.underlying26 (Ev.plain rfl) (fun hg => by first | rfl | exact nilA_aEr _) (.inl ⟨rfl, rfl⟩) optN ?_
        refine ARun.move (.inl rfl) rfl rfl rfl (Ev.plain rfl) optN ?_
        refine ARun.move (.inl rfl) rfl rfl rfl (Ev.plain rfl) optS ?_
        refine ARun.call rfl rfl rfl rfl cf18 (Ev.plain rfl) (.cons (Ev.opt rfl (fun h => h)) .nil) rfl (fun hg => deep_fn (Er.wrap (ops.getD k default) e) (by have := depth_wrap (ops.getD k default) e; omega)) optS ?_
        refine ARun.move (.inl rfl) rfl rfl rfl (Ev.plain rfl) optS ?_
        refine ARun.call rfl rfl rfl rfl cf18 (Ev.plain rfl) (.cons (Ev.opt rfl (fun h => h)) .nil) rfl (fun hg => deep_fn e (by omega)) optS ?_
        first | refine ARun.arith rfl rfl rfl rfl (Ev.opt rfl (fun h => h)) (Ev.plain rfl) rfl (fun hg => i64w (by (try simp at hg); omega)) optS ?_ | refine ARun.arith rfl rfl rfl rfl (Ev.opt rfl (fun h => h)) (Ev.plain rfl) rfl (fun _ => rfl) optS ?_
        refine ARun.cmp rfl rfl rfl rfl (Ev.opt rfl (fun h => h)) (Ev.opt rfl (fun h => h)) rfl optS ?_
        refine ARun.pick rfl rfl rfl rfl (Ev.plain rfl) (Ev.plain rfl) (Ev.opt rfl (by first | exact pkF | exact pkF2 | simp +contextual)) (orB _ _) optN ?_
        refine ARun.move (.inl rfl) rfl rfl rfl (Ev.plain rfl) optN ?_
        refine ARun.move (.inl rfl) rfl rfl rfl (Ev.plain rfl) optS ?_
        refine ARun.call rfl rfl rfl rfl cf15 (Ev.plain rfl) (.cons (Ev.opt rfl (fun h => h)) .nil) rfl (fun hg => trace_fn (Er.wrap (ops.getD k default) e) (by have := depth_wrap (ops.getD k default) e; omega)) optS ?_
        refine ARun.move (.inl rfl) rfl rfl rfl (Ev.plain rfl) optS ?_
        refine ARun.move (.inl rfl) rfl rfl rfl (Ev.plain rfl) optS ?_
        first | refine ARun.indexSl rfl rfl rfl rfl Tryd.underlying22 sz9 (Ev.opt rfl (fun h => h)) (Ev.opt rfl (fun h => h)) (fun _ => rfl) (fun hg => getMap _ _ _ (by (try simp at hg); omega)) rfl rfl optS ?_ | refine ARun.indexSl rfl rfl rfl rfl Tryd.underlying22 sz9 (Ev.opt rfl (fun h => h)) (Ev.opt rfl (fun h => h)) (fun hg => ofNonneg (by (try simp at hg); omega)) (fun hg => getMap _ _ _ (by (try simp at hg); omega)) rfl rfl optS ?_
        refine ARun.loadPe rfl rfl rfl rfl Tryd.underlying9 rfl (Ev.opt rfl (fun h => h)) rfl optS ?_
        refine ARun.buildLit rfl rfl rfl rfl Tryd.underlying22 sz9 zv9 (by decide) (.cons (Ev.opt rfl (fun h => h)) .nil) rfl rfl rfl rfl rfl rfl optS ?_
        refine ARun.move (.inl rfl) rfl rfl rfl (Ev.plain rfl) optS ?_
        refine ARun.call rfl rfl rfl rfl cf15 (Ev.plain rfl) (.cons (Ev.opt rfl (fun h => h)) .nil) rfl (fun hg => trace_fn e (by omega)) optS ?_
        refine ARun.appendLit1 rfl rfl rfl rfl Tryd.underlying22 ti9 rfl (Ev.opt rfl (fun h => h)) (Ev.opt rfl (fun h => h)) (by decide) rfl rfl (fun hg => strs_ok _) (fun hg => (by simp [maxLen, ops_len]; omega)) (fun hg => (by simp [ops_len]; omega)) rfl optS ?_
        refine ARun.call rfl rfl rfl rfl cf14 (Ev.plain rfl) (.cons (Ev.opt rfl (fun h => h)) (.cons (Ev.opt rfl (fun h => h)) .nil)) rfl (fun hg => same_fn (Er.wrap (ops.getD k default) e).ops ((ops.getD k default) :: e.ops) (by rw [ops_len]; have := depth_wrap (ops.getD k default) e; omega)) optS ?_
        refine ARun.not rfl rfl rfl rfl (Ev.opt rfl (fun h => h)) optS ?_
        refine ARun.pick rfl rfl rfl rfl (Ev.plain rfl) (Ev.plain rfl) (Ev.opt rfl (by first | exact pkF | exact pkF2 | simp +contextual)) (orB _ _) optN ?_
        refine ARun.move (.inl rfl) rfl rfl rfl (Ev.plain rfl) optN ?_
        refine ARun.move (.inl rfl) rfl rfl rfl (Ev.plain rfl) optS ?_
        refine ARun.call rfl rfl rfl rfl cf16 (Ev.plain rfl) (.cons (Ev.opt rfl (fun h => h)) .nil) rfl (fun hg => text_fn (Er.wrap (ops.getD k default) e) (by have := depth_wrap (ops.getD k default) e; omega) (of_fits (of_wrap _ hof) hc.2) (by have := text_wrap (ops.getD k default) e (few_at hfew (by omega)); omega)) optS ?_
        refine ARun.move (.inl rfl) rfl rfl rfl (Ev.plain rfl) optS ?_
        refine ARun.move (.inl rfl) rfl rfl rfl (Ev.plain rfl) optS ?_
        first | refine ARun.indexSl rfl rfl rfl rfl Tryd.underlying22 sz9 (Ev.opt rfl (fun h => h)) (Ev.opt rfl (fun h => h)) (fun _ => rfl) (fun hg => getMap _ _ _ (by (try simp at hg); omega)) rfl rfl optS ?_ | refine ARun.indexSl rfl rfl rfl rfl Tryd.underlying22 sz9 (Ev.opt rfl (fun h => h)) (Ev.opt rfl (fun h => h)) (fun hg => ofNonneg (by (try simp at hg); omega)) (fun hg => getMap _ _ _ (by (try simp at hg); omega)) rfl rfl optS ?_
        refine ARun.loadPe rfl rfl rfl rfl Tryd.underlying9 rfl (Ev.opt rfl (fun h => h)) rfl optS ?_
        refine ARun.cat rfl rfl rfl rfl (Ev.opt rfl (fun h => h)) (Ev.plain rfl) (fun hg => (by have h9 := few_at hfew (k := k) (by omega); have h2s : (⟨#[58, 32]⟩ : ByteArray).size = 2 := rfl; have h8 := innerText_le e hfi; first | omega | (simp only [ByteArray.size_append, textB]; omega))) optS ?_
        refine ARun.move (.inl rfl) rfl rfl rfl (Ev.plain rfl) optS ?_
        refine ARun.call rfl rfl rfl rfl cf16 (Ev.plain rfl) (.cons (Ev.opt rfl (fun h => h)) .nil) rfl (fun hg => text_fn e (by omega) hfi (by omega)) optS ?_
        refine ARun.cat rfl rfl rfl rfl (Ev.opt rfl (fun h => h)) (Ev.opt rfl (fun h => h)) (fun hg => (by have h9 := few_at hfew (k := k) (by omega); have h2s : (⟨#[58, 32]⟩ : ByteArray).size = 2 := rfl; have h8 := innerText_le e hfi; first | omega | (simp only [ByteArray.size_append, textB]; omega))) optS ?_
        refine ARun.cmpS rfl rfl rfl rfl (Ev.opt rfl (fun h => h)) (Ev.opt rfl (fun h => h)) rfl optS ?_
        refine ARun.pick rfl rfl rfl rfl (Ev.plain rfl) (Ev.plain rfl) (Ev.opt rfl (by first | exact pkF | exact pkF2 | simp +contextual)) (orB _ _) optN ?_
        refine ⟨by kernel_rfl, _, _, rfl, hG, ?_⟩
        refine thenA_n ?_
        refine AWP.cond rfl (fun h4 => ?_) (fun h4 => ?_)
        · skip
          rw [of_wr _ hof h2] at h4
          simp [Er.isNone, Er.depth, Er.ops, textB, innerText, Er.inner, opsText, app_assoc, -List.getD_eq_getElem?_getD] at h4
        · skip
          try simp [-List.getD_eq_getElem?_getD] at h4
          refine AWP.skip ?_
          refine thenA_n ?_
          refine AWP.region (fun _ => ?_)
          refine ARun.move (.inl rfl) rfl rfl rfl (Ev.plain rfl) optN ?_
          refine ARun.move (.inr rfl) rfl rfl rfl (Ev.plain rfl) optN ?_
          refine ⟨_, _, rfl, hG, ?_⟩
          refine blockA_n ?_
          refine thenA_n ?_
          refine AWP.region (fun _ => ?_)
          refine ARun.move (.inl rfl) rfl rfl rfl (Ev.plain rfl) optN ?_
          first | refine ARun.arith rfl rfl rfl rfl (Ev.plain rfl) (Ev.plain rfl) rfl (fun hg => i64w (by (try simp at hg); omega)) optN ?_ | refine ARun.arith rfl rfl rfl rfl (Ev.plain rfl) (Ev.plain rfl) rfl (fun _ => rfl) optN ?_
          refine ARun.move (.inr rfl) rfl rfl rfl (Ev.plain rfl) optN ?_
          refine ⟨_, _, rfl, hG, ?_⟩
          refine thenA_n ⟨rfl, (k + 1, Er.wrap (ops.getD k default) e), _, ?_, ?_, rfl, ?_⟩
          · have d1 := depth_wrap (ops.getD k default) e
            have d2 := text_wrap (ops.getD k default) e (few_at hfew (by omega))
            exact ⟨by dsimp only; omega, of_wrap _ hof, by dsimp only; omega, by dsimp only; omega⟩
          · repeat (first | exact .nil | refine .cons rfl ?_)
          · dsimp only; omega
    · skip
      try simp [-List.getD_eq_getElem?_getD] at h1
      refine AWP.exit ?_
      refine thenA_x ?_
      refine thenA_x ?_
      refine blockA_h ?_
      refine thenA_n ?_
      refine AWP.seq ?_
      refine AWP.region (fun _ => ?_)
      refine ARun.call rfl rfl rfl rfl cf8 (Ev.plain rfl) .nil rfl (fun hg => awake_fn) optN ?_
      refine ARun.move (.inr rfl) rfl rfl rfl (Ev.plain rfl) optN ?_
      refine ⟨_, _, rfl, hG, ?_⟩
      refine thenA_n ?_
      refine AWP.ret ?_
      refine endF.one (.inr rfl) rfl (.tmp rfl) ?_ hN
      rfl
set_option maxHeartbeats 1000000 in
theorem nobody_fn (code : Int) (hc : -9223372036854775808 ≤ code ∧ code ≤ 9223372036854775807) : FnP Tryd.prog 6 [.int .i64 code] (.bool true) := by
  refine FnP.of Tryd.func6 rfl rfl (by simp) (by simp [AV.cells]) (fun G hG => ?_)
  have hN : NoH G.length (.bool true) := (by simp [AV.cells])
  refine AWP.seq ?_
  refine AWP.region (fun _ => ?_)
  refine ARun.move (.inr rfl) rfl rfl rfl (Ev.plain rfl) optN ?_
  refine ⟨_, _, rfl, hG, ?_⟩
  refine thenA_n ?_
  refine AWP.seq ?_
  refine AWP.seq ?_
  refine AWP.region (fun _ => ?_)
  refine ARun.move (.inl rfl) rfl rfl rfl (Ev.plain rfl) optN ?_
  refine ARun.cmp rfl rfl rfl rfl (Ev.plain rfl) (Ev.plain rfl) rfl optN ?_
  refine ⟨_, _, rfl, hG, ?_⟩
  refine thenA_n ?_
  refine AWP.cond rfl (fun h0 => ?_) (fun h0 => ?_)
  · skip
    try simp [-List.getD_eq_getElem?_getD] at h0
    refine AWP.seq ?_
    refine AWP.region (fun _ => ?_)
    refine ARun.call rfl rfl rfl rfl cf13 (Ev.plain rfl) (.cons (Ev.plain rfl) .nil) rfl (fun hg => code_fn .none) optN ?_
    refine ARun.cmp rfl rfl rfl rfl (Ev.plain rfl) (Ev.plain rfl) rfl optN ?_
    refine ARun.move (.inl rfl) rfl rfl rfl (Ev.plain rfl) optN ?_
    refine ARun.call rfl rfl rfl rfl cf21 (Ev.plain rfl) (.cons (Ev.plain rfl) (.cons (Ev.plain rfl) .nil)) rfl (fun hg => isP_fn .none 0) optS ?_
    refine ARun.pick rfl rfl rfl rfl (Ev.plain rfl) (Ev.opt rfl (by first | exact pkT | exact pkT2 | simp +contextual)) (Ev.plain rfl) (andB _ _) optN ?_
    refine ARun.move (.inl rfl) rfl rfl rfl (Ev.plain rfl) optN ?_
    refine ARun.call rfl rfl rfl rfl cf21 (Ev.plain rfl) (.cons (Ev.plain rfl) (.cons (Ev.plain rfl) .nil)) rfl (fun hg => isP_fn .none 3) optS ?_
    refine ARun.not rfl rfl rfl rfl (Ev.opt rfl (fun h => h)) optS ?_
    refine ARun.pick rfl rfl rfl rfl (Ev.plain rfl) (Ev.opt rfl (by first | exact pkT | exact pkT2 | simp +contextual)) (Ev.plain rfl) (andB _ _) optN ?_
    refine ARun.move (.inl rfl) rfl rfl rfl (Ev.plain rfl) optN ?_
    refine ARun.call rfl rfl rfl rfl cf15 (Ev.plain rfl) (.cons (Ev.plain rfl) .nil) rfl (fun hg => trace_fn .none (by decide)) optS ?_
    refine ARun.lenSl rfl rfl rfl rfl Tryd.underlying22 (Ev.opt rfl (fun h => h)) optS ?_
    refine ARun.cmp rfl rfl rfl rfl (Ev.opt rfl (fun h => h)) (Ev.plain rfl) rfl optS ?_
    refine ARun.pick rfl rfl rfl rfl (Ev.plain rfl) (Ev.opt rfl (by first | exact pkT | exact pkT2 | simp +contextual)) (Ev.plain rfl) (andB _ _) optN ?_
    refine ARun.move (.inl rfl) rfl rfl rfl (Ev.plain rfl) optN ?_
    refine ARun.call rfl rfl rfl rfl cf8 (Ev.plain rfl) .nil rfl (fun hg => awake_fn) optS ?_
    refine ARun.pick rfl rfl rfl rfl (Ev.plain rfl) (Ev.opt rfl (by first | exact pkT | exact pkT2 | simp +contextual)) (Ev.plain rfl) (andB _ _) optN ?_
    refine ARun.move (.inr rfl) rfl rfl rfl (Ev.plain rfl) optN ?_
    refine ⟨_, _, rfl, hG, ?_⟩
    refine thenA_n ?_
    refine AWP.ret ?_
    refine thenA_r ?_
    refine endF.one (.inr rfl) rfl (.tmp rfl) ?_ hN
    refine congrArg AV.bool ?_
    decide +kernel
  · skip
    try simp [-List.getD_eq_getElem?_getD] at h0
    refine AWP.skip ?_
    refine thenA_n ?_
    refine AWP.seq ?_
    refine AWP.region (fun _ => ?_)
    refine ARun.move (.inl rfl) rfl rfl rfl (Ev.plain rfl) optN ?_
    refine ARun.move (.inr rfl) rfl rfl rfl (Ev.plain rfl) optN ?_
    refine ⟨_, _, rfl, hG, ?_⟩
    refine thenA_n ?_
    refine AWP.seq ?_
    refine AWP.region (fun _ => ?_)
    refine ARun.build rfl rfl rfl rfl so48 (.cons (Ev.plain rfl) .nil) rfl rfl optN ?_
    refine ARun.boxPe rfl rfl rfl rfl (Ev.plain rfl) rfl rfl optN ?_
    refine ARun.move (.inr rfl) rfl rfl rfl (Ev.plain rfl) optN ?_
    refine ⟨_, _, rfl, hG, ?_⟩
    refine thenA_n ?_
    refine AWP.seq ?_
    refine AWP.region (fun _ => ?_)
    refine ARun.move (.inl rfl) rfl rfl rfl (Ev.plain rfl) optN ?_
    refine ARun.iface rfl rfl rfl rfl (by kernel_rfl) (Ev.plain rfl) optN ?_
    refine ARun.call rfl rfl rfl rfl cf13 (Ev.plain rfl) (.cons (Ev.plain rfl) .nil) rfl (fun hg => code_fn (.no code)) optN ?_
    refine ARun.move (.inl rfl) rfl rfl rfl (Ev.plain rfl) optN ?_
    refine ARun.cmp rfl rfl rfl rfl (Ev.plain rfl) (Ev.plain rfl) rfl optN ?_
    refine ARun.move (.inl rfl) rfl rfl rfl (Ev.plain rfl) optN ?_
    refine ARun.move (.inl rfl) rfl rfl rfl (Ev.plain rfl) optS ?_
    refine ARun.iface rfl rfl rfl rfl (by kernel_rfl) (Ev.opt rfl (fun h => h)) optS ?_
    refine ARun.call rfl rfl rfl rfl cf15 (Ev.plain rfl) (.cons (Ev.opt rfl (fun h => h)) .nil) rfl (fun hg => trace_fn (.no code) (Nat.zero_le _)) optS ?_
    refine ARun.lenSl rfl rfl rfl rfl Tryd.underlying22 (Ev.opt rfl (fun h => h)) optS ?_
    refine ARun.cmp rfl rfl rfl rfl (Ev.opt rfl (fun h => h)) (Ev.plain rfl) rfl optS ?_
    refine ARun.pick rfl rfl rfl rfl (Ev.plain rfl) (Ev.opt rfl (by first | exact pkT | exact pkT2 | simp +contextual)) (Ev.plain rfl) (andB _ _) optN ?_
    refine ARun.move (.inl rfl) rfl rfl rfl (Ev.plain rfl) optN ?_
    refine ARun.move (.inl rfl) rfl rfl rfl (Ev.plain rfl) optS ?_
    refine ARun.iface rfl rfl rfl rfl (by kernel_rfl) (Ev.opt rfl (fun h => h)) optS ?_
    refine ARun.call rfl rfl rfl rfl cf18 (Ev.plain rfl) (.cons (Ev.opt rfl (fun h => h)) .nil) rfl (fun hg => deep_fn (.no code) (Nat.zero_le _)) optS ?_
    refine ARun.cmp rfl rfl rfl rfl (Ev.opt rfl (fun h => h)) (Ev.plain rfl) rfl optS ?_
    refine ARun.pick rfl rfl rfl rfl (Ev.plain rfl) (Ev.opt rfl (by first | exact pkT | exact pkT2 | simp +contextual)) (Ev.plain rfl) (andB _ _) optN ?_
    refine ARun.move (.inl rfl) rfl rfl rfl (Ev.plain rfl) optN ?_
    refine ARun.move (.inl rfl) rfl rfl rfl (Ev.plain rfl) optS ?_
    refine ARun.iface rfl rfl rfl rfl (by kernel_rfl) (Ev.opt rfl (fun h => h)) optS ?_
    refine ARun.call rfl rfl rfl rfl cf13 (Ev.plain rfl) (.cons (Ev.opt rfl (fun h => h)) .nil) rfl (fun hg => code_fn (Er.wr ⟨#[121]⟩ .none)) optS ?_
    refine ARun.cmp rfl rfl rfl rfl (Ev.opt rfl (fun h => h)) (Ev.plain rfl) rfl optS ?_
    refine ARun.pick rfl rfl rfl rfl (Ev.plain rfl) (Ev.opt rfl (by first | exact pkT | exact pkT2 | simp +contextual)) (Ev.plain rfl) (andB _ _) optN ?_
    refine ARun.move (.inl rfl) rfl rfl rfl (Ev.plain rfl) optN ?_
    refine ARun.move (.inl rfl) rfl rfl rfl (Ev.plain rfl) optS ?_
    refine ARun.iface rfl rfl rfl rfl (by kernel_rfl) (Ev.opt rfl (fun h => h)) optS ?_
    refine ARun.call rfl rfl rfl rfl cf15 (Ev.plain rfl) (.cons (Ev.opt rfl (fun h => h)) .nil) rfl (fun hg => trace_fn (Er.wr ⟨#[121]⟩ .none) (by decide)) optS ?_
    refine ARun.buildSl rfl rfl rfl rfl Tryd.underlying22 sz9 zv9 rfl (by decide) (.cons (Ev.plain rfl) .nil) rfl rfl rfl rfl (by decide) rfl rfl optS ?_
    refine ARun.call rfl rfl rfl rfl cf14 (Ev.plain rfl) (.cons (Ev.opt rfl (fun h => h)) (.cons (Ev.opt rfl (fun h => h)) .nil)) rfl (fun hg => same_fn (Er.wr ⟨#[121]⟩ .none).ops [⟨#[121]⟩] (by decide)) optS ?_
    refine ARun.pick rfl rfl rfl rfl (Ev.plain rfl) (Ev.opt rfl (by first | exact pkT | exact pkT2 | simp +contextual)) (Ev.plain rfl) (andB _ _) optN ?_
    refine ARun.move (.inl rfl) rfl rfl rfl (Ev.plain rfl) optN ?_
    refine ARun.move (.inl rfl) rfl rfl rfl (Ev.plain rfl) optS ?_
    refine ARun.iface rfl rfl rfl rfl (by kernel_rfl) (Ev.opt rfl (fun h => h)) optS ?_
    refine ARun.call rfl rfl rfl rfl cf16 (Ev.plain rfl) (.cons (Ev.opt rfl (fun h => h)) .nil) rfl (fun hg => text_fn (Er.wr ⟨#[121]⟩ .none) (by decide) trivial (by decide)) optS ?_
    refine ARun.cmpS rfl rfl rfl rfl (Ev.opt rfl (fun h => h)) (Ev.plain rfl) rfl optS ?_
    refine ARun.pick rfl rfl rfl rfl (Ev.plain rfl) (Ev.opt rfl (by first | exact pkT | exact pkT2 | simp +contextual)) (Ev.plain rfl) (andB _ _) optN ?_
    refine ARun.move (.inl rfl) rfl rfl rfl (Ev.plain rfl) optN ?_
    refine ARun.call rfl rfl rfl rfl cf8 (Ev.plain rfl) .nil rfl (fun hg => awake_fn) optS ?_
    refine ARun.pick rfl rfl rfl rfl (Ev.plain rfl) (Ev.opt rfl (by first | exact pkT | exact pkT2 | simp +contextual)) (Ev.plain rfl) (andB _ _) optN ?_
    refine ARun.move (.inr rfl) rfl rfl rfl (Ev.plain rfl) optN ?_
    refine ⟨_, _, rfl, hG, ?_⟩
    refine thenA_n ?_
    refine AWP.ret ?_
    refine endF.one (.inr rfl) rfl (.tmp rfl) ?_ hN
    refine congrArg AV.bool ?_
    have e1 : Er.code (.no code) = code := by simp [Er.code, Er.found, Er.inner, h0]
    rw [e1]
    simp only [decide_true, Bool.true_and]
    first | rfl | kernel_rfl
end Go.Proofs.YtffipdfcndbneaaDoor
