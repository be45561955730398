/- Nobody, New, Few, Same, awake. -/
import Derived.Test.YtfjmmebjfllciaaDoorAmDiskB
import Derived.Test.YtfjmmebjfllciaaDoorDiskLaw2
namespace Go.Proofs.YtfjmmebjfllciaaDoor
set_option linter.unusedVariables false
set_option linter.unusedSimpArgs false
open Go.RowKit
set_option maxRecDepth 100000
set_option maxHeartbeats 1000000 in
theorem append_nil (a : Int) (s : ByteArray) : FnP Tryd.prog 9 [.raw (.pointer none), .int .i64 a, .str s] (aEr (Er.new ⟨#[100, 105, 115, 107]⟩ 1)) := by
  refine FnP.of Tryd.func9 rfl rfl (by simp) (by simp [AV.cells, aDk, aRD, rdc, aCh]) (fun G hG => ?_)
  have hN : NoH G.length (aEr (Er.new ⟨#[100, 105, 115, 107]⟩ 1)) := (by simp [AV.cells, aDk, aRD, rdc, aCh])
  refine AWP.seq ?_
  refine AWP.region (fun _ => ?_)
  refine ARun.boxPe1 rfl rfl rfl rfl (Ev.plain rfl) (by first | rfl | exact aEr_one _ | exact aFl_one _) optN ?_
  refine ARun.boxPe1 rfl rfl rfl rfl (Ev.plain rfl) (by first | rfl | exact aEr_one _ | exact aFl_one _) optN ?_
  refine ARun.boxPe1 rfl rfl rfl rfl (Ev.plain rfl) (by first | rfl | exact aEr_one _ | exact aFl_one _) optN ?_
  refine ARun.move (.inr rfl) rfl rfl rfl (Ev.plain rfl) optN ?_
  refine ⟨_, _, rfl, hG, ?_⟩
  refine thenA_n ?_
  refine AWP.seq ?_
  refine AWP.seq ?_
  refine AWP.region (fun _ => ?_)
  refine ARun.loadPe rfl rfl rfl rfl Tryd.underlying25 rfl (Ev.plain rfl) rfl optN ?_
  refine ARun.loadPe rfl rfl rfl rfl Tryd.underlying3 rfl (Ev.plain rfl) rfl optN ?_
  refine ARun.call rfl rfl rfl rfl cf24 (Ev.plain rfl) (.cons (Ev.plain rfl) (.cons (Ev.plain rfl) .nil)) rfl (fun hg => up_nil a) optN ?_
  refine ARun.move (.inr rfl) rfl rfl rfl (Ev.plain rfl) optN ?_
  refine ⟨_, _, rfl, hG, ?_⟩
  refine thenA_n ?_
  refine AWP.seq ?_
  refine AWP.region (fun _ => ?_)
  refine ARun.move (.inl rfl) rfl rfl rfl (Ev.plain rfl) optN ?_
  refine ARun.cmp rfl rfl rfl rfl (Ev.plain rfl) (Ev.plain rfl) rfl optN ?_
  refine ⟨_, _, rfl, hG, ?_⟩
  refine thenA_n ?_
  refine AWP.cond rfl (fun h0 => ?_) (fun h0 => ?_)
  · skip
    refine AWP.seq ?_
    refine AWP.region (fun _ => ?_)
    refine ARun.move (.inl rfl) rfl rfl rfl (Ev.plain rfl) optN ?_
    refine ARun.call rfl rfl rfl rfl cf23 (Ev.plain rfl) (.cons (Ev.plain rfl) .nil) rfl (fun hg => told_fn 1) optN ?_
    refine ARun.move (.inr rfl) rfl rfl rfl (Ev.plain rfl) optN ?_
    refine ⟨_, _, rfl, hG, ?_⟩
    refine thenA_n ?_
    refine AWP.ret ?_
    refine thenA_r ?_
    refine endF.one (.inr rfl) rfl (.tmp rfl) ?_ hN
    rfl
  · skip
    simp at h0
set_option maxHeartbeats 1000000 in
theorem sync_nil (a : Int) : FnP Tryd.prog 10 [.raw (.pointer none), .int .i64 a] (aEr (Er.new ⟨#[100, 105, 115, 107]⟩ 1)) := by
  refine FnP.of Tryd.func10 rfl rfl (by simp) (by simp [AV.cells, aDk, aRD, rdc, aCh]) (fun G hG => ?_)
  have hN : NoH G.length (aEr (Er.new ⟨#[100, 105, 115, 107]⟩ 1)) := (by simp [AV.cells, aDk, aRD, rdc, aCh])
  refine AWP.seq ?_
  refine AWP.region (fun _ => ?_)
  refine ARun.boxPe1 rfl rfl rfl rfl (Ev.plain rfl) (by first | rfl | exact aEr_one _ | exact aFl_one _) optN ?_
  refine ARun.boxPe1 rfl rfl rfl rfl (Ev.plain rfl) (by first | rfl | exact aEr_one _ | exact aFl_one _) optN ?_
  refine ARun.move (.inr rfl) rfl rfl rfl (Ev.plain rfl) optN ?_
  refine ⟨_, _, rfl, hG, ?_⟩
  refine thenA_n ?_
  refine AWP.seq ?_
  refine AWP.seq ?_
  refine AWP.region (fun _ => ?_)
  refine ARun.loadPe rfl rfl rfl rfl Tryd.underlying25 rfl (Ev.plain rfl) rfl optN ?_
  refine ARun.loadPe rfl rfl rfl rfl Tryd.underlying3 rfl (Ev.plain rfl) rfl optN ?_
  refine ARun.call rfl rfl rfl rfl cf24 (Ev.plain rfl) (.cons (Ev.plain rfl) (.cons (Ev.plain rfl) .nil)) rfl (fun hg => up_nil a) optN ?_
  refine ARun.move (.inr rfl) rfl rfl rfl (Ev.plain rfl) optN ?_
  refine ⟨_, _, rfl, hG, ?_⟩
  refine thenA_n ?_
  refine AWP.seq ?_
  refine AWP.region (fun _ => ?_)
  refine ARun.move (.inl rfl) rfl rfl rfl (Ev.plain rfl) optN ?_
  refine ARun.cmp rfl rfl rfl rfl (Ev.plain rfl) (Ev.plain rfl) rfl optN ?_
  refine ⟨_, _, rfl, hG, ?_⟩
  refine thenA_n ?_
  refine AWP.cond rfl (fun h0 => ?_) (fun h0 => ?_)
  · skip
    refine AWP.seq ?_
    refine AWP.region (fun _ => ?_)
    refine ARun.move (.inl rfl) rfl rfl rfl (Ev.plain rfl) optN ?_
    refine ARun.call rfl rfl rfl rfl cf23 (Ev.plain rfl) (.cons (Ev.plain rfl) .nil) rfl (fun hg => told_fn 1) optN ?_
    refine ARun.move (.inr rfl) rfl rfl rfl (Ev.plain rfl) optN ?_
    refine ⟨_, _, rfl, hG, ?_⟩
    refine thenA_n ?_
    refine AWP.ret ?_
    refine thenA_r ?_
    refine endF.one (.inr rfl) rfl (.tmp rfl) ?_ hN
    rfl
  · skip
    simp at h0
set_option maxHeartbeats 1000000 in
theorem reset_nil (a : Int) : FnP Tryd.prog 32 [.raw (.pointer none), .int .i64 a] (aEr (Er.new ⟨#[100, 105, 115, 107]⟩ 1)) := by
  refine FnP.of Tryd.func32 rfl rfl (by simp) (by simp [AV.cells, aDk, aRD, rdc, aCh]) (fun G hG => ?_)
  have hN : NoH G.length (aEr (Er.new ⟨#[100, 105, 115, 107]⟩ 1)) := (by simp [AV.cells, aDk, aRD, rdc, aCh])
  refine AWP.seq ?_
  refine AWP.region (fun _ => ?_)
  refine ARun.boxPe1 rfl rfl rfl rfl (Ev.plain rfl) (by first | rfl | exact aEr_one _ | exact aFl_one _) optN ?_
  refine ARun.boxPe1 rfl rfl rfl rfl (Ev.plain rfl) (by first | rfl | exact aEr_one _ | exact aFl_one _) optN ?_
  refine ARun.move (.inr rfl) rfl rfl rfl (Ev.plain rfl) optN ?_
  refine ⟨_, _, rfl, hG, ?_⟩
  refine thenA_n ?_
  refine AWP.seq ?_
  refine AWP.seq ?_
  refine AWP.region (fun _ => ?_)
  refine ARun.loadPe rfl rfl rfl rfl Tryd.underlying25 rfl (Ev.plain rfl) rfl optN ?_
  refine ARun.loadPe rfl rfl rfl rfl Tryd.underlying3 rfl (Ev.plain rfl) rfl optN ?_
  refine ARun.call rfl rfl rfl rfl cf24 (Ev.plain rfl) (.cons (Ev.plain rfl) (.cons (Ev.plain rfl) .nil)) rfl (fun hg => up_nil a) optN ?_
  refine ARun.move (.inr rfl) rfl rfl rfl (Ev.plain rfl) optN ?_
  refine ⟨_, _, rfl, hG, ?_⟩
  refine thenA_n ?_
  refine AWP.seq ?_
  refine AWP.region (fun _ => ?_)
  refine ARun.move (.inl rfl) rfl rfl rfl (Ev.plain rfl) optN ?_
  refine ARun.cmp rfl rfl rfl rfl (Ev.plain rfl) (Ev.plain rfl) rfl optN ?_
  refine ⟨_, _, rfl, hG, ?_⟩
  refine thenA_n ?_
  refine AWP.cond rfl (fun h0 => ?_) (fun h0 => ?_)
  · skip
    refine AWP.seq ?_
    refine AWP.region (fun _ => ?_)
    refine ARun.move (.inl rfl) rfl rfl rfl (Ev.plain rfl) optN ?_
    refine ARun.call rfl rfl rfl rfl cf23 (Ev.plain rfl) (.cons (Ev.plain rfl) .nil) rfl (fun hg => told_fn 1) optN ?_
    refine ARun.move (.inr rfl) rfl rfl rfl (Ev.plain rfl) optN ?_
    refine ⟨_, _, rfl, hG, ?_⟩
    refine thenA_n ?_
    refine AWP.ret ?_
    refine thenA_r ?_
    refine endF.one (.inr rfl) rfl (.tmp rfl) ?_ hN
    rfl
  · skip
    simp at h0
set_option maxHeartbeats 1000000 in
theorem read_nil (a : Int) : FnP Tryd.prog 13 [.raw (.pointer none), .int .i64 a] (.tup [.str ⟨#[]⟩, aEr (Er.new ⟨#[100, 105, 115, 107]⟩ 1)]) := by
  refine FnP.of Tryd.func13 rfl rfl (by simp) (by simp [AV.cells, aDk, aRD, rdc, aCh]) (fun G hG => ?_)
  have hN : NoH G.length (.tup [.str ⟨#[]⟩, aEr (Er.new ⟨#[100, 105, 115, 107]⟩ 1)]) := (by simp [AV.cells, aDk, aRD, rdc, aCh])
  refine AWP.seq ?_
  refine AWP.region (fun _ => ?_)
  refine ARun.move (.inr rfl) rfl rfl rfl (Ev.plain rfl) optN ?_
  refine ARun.move (.inr rfl) rfl rfl rfl (Ev.plain rfl) optN ?_
  refine ⟨_, _, rfl, hG, ?_⟩
  refine thenA_n ?_
  refine AWP.seq ?_
  refine AWP.seq ?_
  refine AWP.region (fun _ => ?_)
  refine ARun.move (.inl rfl) rfl rfl rfl (Ev.plain rfl) optN ?_
  refine ARun.move (.inl rfl) rfl rfl rfl (Ev.plain rfl) optN ?_
  refine ARun.call rfl rfl rfl rfl cf24 (Ev.plain rfl) (.cons (Ev.plain rfl) (.cons (Ev.plain rfl) .nil)) rfl (fun hg => up_nil a) optN ?_
  refine ARun.move (.inr rfl) rfl rfl rfl (Ev.plain rfl) optN ?_
  refine ⟨_, _, rfl, hG, ?_⟩
  refine thenA_n ?_
  refine AWP.seq ?_
  refine AWP.region (fun _ => ?_)
  refine ARun.move (.inl rfl) rfl rfl rfl (Ev.plain rfl) optN ?_
  refine ARun.cmp rfl rfl rfl rfl (Ev.plain rfl) (Ev.plain rfl) rfl optN ?_
  refine ⟨_, _, rfl, hG, ?_⟩
  refine thenA_n ?_
  refine AWP.cond rfl (fun h0 => ?_) (fun h0 => ?_)
  · skip
    refine AWP.seq ?_
    refine AWP.region (fun _ => ?_)
    refine ARun.move (.inl rfl) rfl rfl rfl (Ev.plain rfl) optN ?_
    refine ARun.call rfl rfl rfl rfl cf23 (Ev.plain rfl) (.cons (Ev.plain rfl) .nil) rfl (fun hg => told_fn 1) optN ?_
    refine ARun.move (.inr rfl) rfl rfl rfl (Ev.plain rfl) optN ?_
    refine ARun.move (.inr rfl) rfl rfl rfl (Ev.plain rfl) optN ?_
    refine ⟨_, _, rfl, hG, ?_⟩
    refine thenA_n ?_
    refine AWP.ret ?_
    refine thenA_r ?_
    refine endF.many (.inr rfl) (rs := [.tmp 4, .tmp 5]) rfl (.cons (.tmp rfl) (.cons (.tmp rfl) .nil)) (by simp) ?_ hN
    rfl
  · skip
    simp at h0
set_option maxHeartbeats 1000000 in
theorem arm_nil (a : Int) : FnP Tryd.prog 33 [.raw (.pointer none), .int .i64 a] (aEr (Er.new ⟨#[100, 105, 115, 107]⟩ 1)) := by
  refine FnP.of Tryd.func33 rfl rfl (by simp) (by simp [AV.cells, aDk, aRD, rdc, aCh]) (fun G hG => ?_)
  have hN : NoH G.length (aEr (Er.new ⟨#[100, 105, 115, 107]⟩ 1)) := (by simp [AV.cells, aDk, aRD, rdc, aCh])
  refine AWP.seq ?_
  refine AWP.region (fun _ => ?_)
  refine ARun.move (.inr rfl) rfl rfl rfl (Ev.plain rfl) optN ?_
  refine ⟨_, _, rfl, hG, ?_⟩
  refine thenA_n ?_
  refine AWP.seq ?_
  refine AWP.region (fun _ => ?_)
  refine ARun.move (.inl rfl) rfl rfl rfl (Ev.plain rfl) optN ?_
  refine ARun.call rfl rfl rfl rfl cf24 (Ev.plain rfl) (.cons (Ev.plain rfl) (.cons (Ev.plain rfl) .nil)) rfl (fun hg => up_nil 0) optN ?_
  refine ARun.move (.inr rfl) rfl rfl rfl (Ev.plain rfl) optN ?_
  refine ⟨_, _, rfl, hG, ?_⟩
  refine thenA_n ?_
  refine AWP.seq ?_
  refine AWP.seq ?_
  refine AWP.region (fun _ => ?_)
  refine ARun.move (.inl rfl) rfl rfl rfl (Ev.plain rfl) optN ?_
  refine ARun.cmp rfl rfl rfl rfl (Ev.plain rfl) (Ev.plain rfl) rfl optN ?_
  refine ARun.move (.inl rfl) rfl rfl rfl (Ev.plain rfl) optN ?_
  refine ARun.move (.inl rfl) rfl rfl rfl (Ev.plain rfl) optS ?_
  refine ARun.cmp rfl rfl rfl rfl (Ev.opt rfl (fun h => h)) (Ev.plain rfl) rfl optS ?_
  refine ARun.move (.inl rfl) rfl rfl rfl (Ev.opt rfl (fun h => h)) optS ?_
  refine ARun.move (.inl rfl) rfl rfl rfl (Ev.plain rfl) optS ?_
  refine ARun.cmp rfl rfl rfl rfl (Ev.opt rfl (fun h => h)) (Ev.plain rfl) rfl optS ?_
  refine ARun.pick rfl rfl rfl rfl (Ev.opt rfl (fun h => h)) (Ev.plain rfl) (Ev.opt rfl (by first | exact pkF | exact pkF2 | simp +contextual)) (orB _ _) optS ?_
  refine ARun.pick rfl rfl rfl rfl (Ev.plain rfl) (Ev.opt rfl (by first | exact pkT | exact pkT2 | simp +contextual)) (Ev.plain rfl) (andB _ _) optN ?_
  refine ⟨_, _, rfl, hG, ?_⟩
  refine thenA_n ?_
  refine AWP.cond rfl (fun h0 => ?_) (fun h0 => ?_)
  · skip
    simp at h0
  · skip
    refine AWP.skip ?_
    refine thenA_n ?_
    refine AWP.seq ?_
    refine AWP.seq ?_
    refine AWP.region (fun _ => ?_)
    refine ARun.move (.inl rfl) rfl rfl rfl (Ev.plain rfl) optN ?_
    refine ARun.cmp rfl rfl rfl rfl (Ev.plain rfl) (Ev.plain rfl) rfl optN ?_
    refine ⟨_, _, rfl, hG, ?_⟩
    refine thenA_n ?_
    refine AWP.cond rfl (fun h1 => ?_) (fun h1 => ?_)
    · skip
      refine AWP.seq ?_
      refine AWP.region (fun _ => ?_)
      refine ARun.move (.inl rfl) rfl rfl rfl (Ev.plain rfl) optN ?_
      refine ARun.call rfl rfl rfl rfl cf23 (Ev.plain rfl) (.cons (Ev.plain rfl) .nil) rfl (fun hg => told_fn 1) optN ?_
      refine ARun.move (.inr rfl) rfl rfl rfl (Ev.plain rfl) optN ?_
      refine ⟨_, _, rfl, hG, ?_⟩
      refine thenA_n ?_
      refine AWP.ret ?_
      refine thenA_r ?_
      refine endF.one (.inr rfl) rfl (.tmp rfl) ?_ hN
      rfl
    · skip
      simp at h1
set_option maxHeartbeats 1000000 in
theorem off_nil  : FnP Tryd.prog 11 [.raw (.pointer none)] (aEr (Er.new ⟨#[100, 105, 115, 107]⟩ 1)) := by
  refine FnP.of Tryd.func11 rfl rfl (by simp) (by simp [AV.cells, aDk, aRD, rdc, aCh]) (fun G hG => ?_)
  have hN : NoH G.length (aEr (Er.new ⟨#[100, 105, 115, 107]⟩ 1)) := (by simp [AV.cells, aDk, aRD, rdc, aCh])
  refine AWP.seq ?_
  refine AWP.region (fun _ => ?_)
  refine ARun.move (.inr rfl) rfl rfl rfl (Ev.plain rfl) optN ?_
  refine ⟨_, _, rfl, hG, ?_⟩
  refine thenA_n ?_
  refine AWP.seq ?_
  refine AWP.seq ?_
  refine AWP.region (fun _ => ?_)
  refine ARun.move (.inl rfl) rfl rfl rfl (Ev.plain rfl) optN ?_
  refine ARun.call rfl rfl rfl rfl cf29 (Ev.plain rfl) (.cons (Ev.plain rfl) .nil) rfl (fun hg => made_nil) optN ?_
  refine ARun.not rfl rfl rfl rfl (Ev.plain rfl) optN ?_
  refine ⟨_, _, rfl, hG, ?_⟩
  refine thenA_n ?_
  refine AWP.cond rfl (fun h0 => ?_) (fun h0 => ?_)
  · skip
    refine AWP.seq ?_
    refine AWP.region (fun _ => ?_)
    refine ARun.call rfl rfl rfl rfl cf23 (Ev.plain rfl) (.cons (Ev.plain rfl) .nil) rfl (fun hg => told_fn 1) optN ?_
    refine ARun.move (.inr rfl) rfl rfl rfl (Ev.plain rfl) optN ?_
    refine ⟨_, _, rfl, hG, ?_⟩
    refine thenA_n ?_
    refine AWP.ret ?_
    refine thenA_r ?_
    refine endF.one (.inr rfl) rfl (.tmp rfl) ?_ hN
    rfl
  · skip
    simp at h0
set_option maxHeartbeats 1000000 in
theorem boot_nil (a b : Ch) : FnP Tryd.prog 12 [.raw (.pointer none), aCh a, aCh b] (aEr (Er.new ⟨#[100, 105, 115, 107]⟩ 1)) := by
  refine FnP.of Tryd.func12 rfl rfl (by simp) (by simp [AV.cells, aDk, aRD, rdc, aCh]) (fun G hG => ?_)
  have hN : NoH G.length (aEr (Er.new ⟨#[100, 105, 115, 107]⟩ 1)) := (by simp [AV.cells, aDk, aRD, rdc, aCh])
  refine AWP.seq ?_
  refine AWP.region (fun _ => ?_)
  refine ARun.boxPe rfl rfl rfl rfl (Ev.plain rfl) rfl rfl optN ?_
  refine ARun.boxPe rfl rfl rfl rfl (Ev.plain rfl) rfl rfl optN ?_
  refine ARun.move (.inr rfl) rfl rfl rfl (Ev.plain rfl) optN ?_
  refine ⟨_, _, rfl, hG, ?_⟩
  refine thenA_n ?_
  refine AWP.seq ?_
  refine AWP.seq ?_
  refine AWP.region (fun _ => ?_)
  refine ARun.move (.inl rfl) rfl rfl rfl (Ev.plain rfl) optN ?_
  refine ARun.call rfl rfl rfl rfl cf29 (Ev.plain rfl) (.cons (Ev.plain rfl) .nil) rfl (fun hg => made_nil) optN ?_
  refine ARun.not rfl rfl rfl rfl (Ev.plain rfl) optN ?_
  refine ⟨_, _, rfl, hG, ?_⟩
  refine thenA_n ?_
  refine AWP.cond rfl (fun h0 => ?_) (fun h0 => ?_)
  · skip
    refine AWP.seq ?_
    refine AWP.region (fun _ => ?_)
    refine ARun.call rfl rfl rfl rfl cf23 (Ev.plain rfl) (.cons (Ev.plain rfl) .nil) rfl (fun hg => told_fn 1) optN ?_
    refine ARun.move (.inr rfl) rfl rfl rfl (Ev.plain rfl) optN ?_
    refine ⟨_, _, rfl, hG, ?_⟩
    refine thenA_n ?_
    refine AWP.ret ?_
    refine thenA_r ?_
    refine endF.one (.inr rfl) rfl (.tmp rfl) ?_ hN
    rfl
  · skip
    simp at h0
set_option maxHeartbeats 1000000 in
theorem dead_nil  : FnP Tryd.prog 20 [.raw (.pointer none)] (.bool true) := by
  refine FnP.of Tryd.func20 rfl rfl (by simp) (by simp [AV.cells, aDk, aRD, rdc, aCh]) (fun G hG => ?_)
  have hN : NoH G.length (.bool true) := (by simp [AV.cells, aDk, aRD, rdc, aCh])
  refine AWP.seq ?_
  refine AWP.region (fun _ => ?_)
  refine ARun.move (.inr rfl) rfl rfl rfl (Ev.plain rfl) optN ?_
  refine ⟨_, _, rfl, hG, ?_⟩
  refine thenA_n ?_
  refine AWP.seq ?_
  refine AWP.region (fun _ => ?_)
  refine ARun.move (.inl rfl) rfl rfl rfl (Ev.plain rfl) optN ?_
  refine ARun.call rfl rfl rfl rfl cf29 (Ev.plain rfl) (.cons (Ev.plain rfl) .nil) rfl (fun hg => made_nil) optN ?_
  refine ARun.not rfl rfl rfl rfl (Ev.plain rfl) optN ?_
  refine ARun.move (.inl rfl) rfl rfl rfl (Ev.plain rfl) optN ?_
  refine ARun.dead (X := .bool false) rfl rfl rfl rfl ?_
  refine ARun.dead (X := .bool false) rfl rfl rfl rfl ?_
  refine ARun.dead (X := .bool false) rfl rfl rfl rfl ?_
  refine ARun.dead (X := .bool false) rfl rfl rfl rfl ?_
  refine ARun.pick rfl rfl rfl rfl (Ev.plain rfl) (Ev.plain rfl) (Ev.opt rfl (by first | exact pkF | exact pkF2 | simp +contextual)) (orB _ _) optN ?_
  refine ARun.move (.inr rfl) rfl rfl rfl (Ev.plain rfl) optN ?_
  refine ⟨_, _, rfl, hG, ?_⟩
  refine thenA_n ?_
  refine AWP.ret ?_
  refine endF.one (.inr rfl) rfl (.tmp rfl) ?_ hN
  rfl
set_option maxHeartbeats 1000000 in
theorem ops_nil  : FnP Tryd.prog 22 [.raw (.pointer none)] (.int .i64 0) := by
  refine FnP.of Tryd.func22 rfl rfl (by simp) (by simp [AV.cells, aDk, aRD, rdc, aCh]) (fun G hG => ?_)
  have hN : NoH G.length (.int .i64 0) := (by simp [AV.cells, aDk, aRD, rdc, aCh])
  refine AWP.seq ?_
  refine AWP.region (fun _ => ?_)
  refine ARun.move (.inr rfl) rfl rfl rfl (Ev.plain rfl) optN ?_
  refine ⟨_, _, rfl, hG, ?_⟩
  refine thenA_n ?_
  refine AWP.seq ?_
  refine AWP.seq ?_
  refine AWP.region (fun _ => ?_)
  refine ARun.move (.inl rfl) rfl rfl rfl (Ev.plain rfl) optN ?_
  refine ARun.call rfl rfl rfl rfl cf29 (Ev.plain rfl) (.cons (Ev.plain rfl) .nil) rfl (fun hg => made_nil) optN ?_
  refine ARun.not rfl rfl rfl rfl (Ev.plain rfl) optN ?_
  refine ⟨_, _, rfl, hG, ?_⟩
  refine thenA_n ?_
  refine AWP.cond rfl (fun h0 => ?_) (fun h0 => ?_)
  · skip
    refine AWP.seq ?_
    refine AWP.region (fun _ => ?_)
    refine ARun.move (.inr rfl) rfl rfl rfl (Ev.plain rfl) optN ?_
    refine ⟨_, _, rfl, hG, ?_⟩
    refine thenA_n ?_
    refine AWP.ret ?_
    refine thenA_r ?_
    refine endF.one (.inr rfl) rfl (.tmp rfl) ?_ hN
    rfl
  · skip
    simp at h0
set_option maxHeartbeats 1000000 in
theorem synced_nil (a : Int) : FnP Tryd.prog 21 [.raw (.pointer none), .int .i64 a] (.int .i64 0) := by
  refine FnP.of Tryd.func21 rfl rfl (by simp) (by simp [AV.cells, aDk, aRD, rdc, aCh]) (fun G hG => ?_)
  have hN : NoH G.length (.int .i64 0) := (by simp [AV.cells, aDk, aRD, rdc, aCh])
  refine AWP.seq ?_
  refine AWP.region (fun _ => ?_)
  refine ARun.move (.inr rfl) rfl rfl rfl (Ev.plain rfl) optN ?_
  refine ⟨_, _, rfl, hG, ?_⟩
  refine thenA_n ?_
  refine AWP.seq ?_
  refine AWP.seq ?_
  refine AWP.region (fun _ => ?_)
  refine ARun.move (.inl rfl) rfl rfl rfl (Ev.plain rfl) optN ?_
  refine ARun.call rfl rfl rfl rfl cf29 (Ev.plain rfl) (.cons (Ev.plain rfl) .nil) rfl (fun hg => made_nil) optN ?_
  refine ARun.not rfl rfl rfl rfl (Ev.plain rfl) optN ?_
  refine ARun.move (.inl rfl) rfl rfl rfl (Ev.plain rfl) optN ?_
  refine ARun.move (.inl rfl) rfl rfl rfl (Ev.plain rfl) optS ?_
  refine ARun.cmp rfl rfl rfl rfl (Ev.opt rfl (fun h => h)) (Ev.plain rfl) rfl optS ?_
  refine ARun.pick rfl rfl rfl rfl (Ev.plain rfl) (Ev.plain rfl) (Ev.opt rfl (by first | exact pkF | exact pkF2 | simp +contextual)) (orB _ _) optN ?_
  refine ARun.move (.inl rfl) rfl rfl rfl (Ev.plain rfl) optN ?_
  refine ARun.move (.inl rfl) rfl rfl rfl (Ev.plain rfl) optS ?_
  refine ARun.cmp rfl rfl rfl rfl (Ev.opt rfl (fun h => h)) (Ev.plain rfl) rfl optS ?_
  refine ARun.pick rfl rfl rfl rfl (Ev.plain rfl) (Ev.plain rfl) (Ev.opt rfl (by first | exact pkF | exact pkF2 | simp +contextual)) (orB _ _) optN ?_
  refine ⟨_, _, rfl, hG, ?_⟩
  refine thenA_n ?_
  refine AWP.cond rfl (fun h0 => ?_) (fun h0 => ?_)
  · skip
    refine AWP.seq ?_
    refine AWP.region (fun _ => ?_)
    refine ARun.move (.inr rfl) rfl rfl rfl (Ev.plain rfl) optN ?_
    refine ⟨_, _, rfl, hG, ?_⟩
    refine thenA_n ?_
    refine AWP.ret ?_
    refine thenA_r ?_
    refine endF.one (.inr rfl) rfl (.tmp rfl) ?_ hN
    rfl
  · skip
    simp at h0
set_option maxHeartbeats 1000000 in
theorem do_nil (x : ActP) (h : 0 ≤ x.kind ∧ x.kind ≤ 6) : FnP Tryd.prog 17 [.raw (.pointer none), .agg [.int .i64 x.kind, .int .i64 x.n, .str x.text, .int .i64 x.a.keep, .str x.a.trash, .bool x.a.reset, .int .i64 x.b.keep, .str x.b.trash, .bool x.b.reset]] (.tup [.str ⟨#[]⟩, .int .i64 1]) := by
  refine FnP.of Tryd.func17 rfl rfl (by simp) (by simp [AV.cells, aDk, aRD, rdc, aCh]) (fun G hG => ?_)
  have hN : NoH G.length (.tup [.str ⟨#[]⟩, .int .i64 1]) := (by simp [AV.cells, aDk, aRD, rdc, aCh])
  refine AWP.seq ?_
  refine AWP.region (fun _ => ?_)
  refine ARun.boxPe rfl rfl rfl rfl (Ev.plain rfl) rfl rfl optN ?_
  refine ARun.move (.inr rfl) rfl rfl rfl (Ev.plain rfl) optN ?_
  refine ARun.move (.inr rfl) rfl rfl rfl (Ev.plain rfl) optN ?_
  refine ⟨_, _, rfl, hG, ?_⟩
  refine thenA_n ?_
  refine AWP.seq ?_
  refine AWP.region (fun _ => ?_)
  refine ARun.move (.inr rfl) rfl rfl rfl (Ev.plain rfl) optN ?_
  refine ⟨_, _, rfl, hG, ?_⟩
  refine thenA_n ?_
  refine AWP.seq ?_
  refine AWP.region (fun _ => ?_)
  refine ARun.move (.inr rfl) rfl rfl rfl (Ev.plain rfl) optN ?_
  refine ⟨_, _, rfl, hG, ?_⟩
  refine thenA_n ?_
  refine AWP.seq ?_
  refine AWP.seq ?_
  refine AWP.region (fun _ => ?_)
  refine ARun.fieldPe rfl rfl rfl rfl Tryd.underlying50 rfl rfl sz3 (by decide) (Ev.plain rfl) rfl optN ?_
  refine ARun.loadPe rfl rfl rfl rfl Tryd.underlying3 rfl (Ev.plain rfl) rfl optN ?_
  refine ⟨_, _, rfl, hG, ?_⟩
  refine thenA_n ?_
  refine AWP.block ?_
  refine AWP.seq ?_
  refine AWP.region (fun _ => ?_)
  refine ARun.cmp rfl rfl rfl rfl (Ev.plain rfl) (Ev.plain rfl) rfl optN ?_
  refine ARun.move (.inr rfl) rfl rfl rfl (Ev.plain rfl) optN ?_
  refine ⟨_, _, rfl, hG, ?_⟩
  refine thenA_n ?_
  refine AWP.cond rfl (fun h0 => ?_) (fun h0 => ?_)
  · skip
    try simp at h0
    refine AWP.region (fun _ => ?_)
    refine ARun.move (.inl rfl) rfl rfl rfl (Ev.plain rfl) optN ?_
    refine ARun.fieldPe rfl rfl rfl rfl Tryd.underlying50 rfl rfl sz3 (by decide) (Ev.plain rfl) rfl optN ?_
    refine ARun.loadPe rfl rfl rfl rfl Tryd.underlying3 rfl (Ev.plain rfl) rfl optN ?_
    refine ARun.fieldPe rfl rfl rfl rfl Tryd.underlying50 rfl rfl sz9 (by decide) (Ev.plain rfl) rfl optN ?_
    refine ARun.loadPe rfl rfl rfl rfl Tryd.underlying9 rfl (Ev.plain rfl) rfl optN ?_
    refine ARun.call rfl rfl rfl rfl cf9 (Ev.plain rfl) (.cons (Ev.plain rfl) (.cons (Ev.plain rfl) (.cons (Ev.plain rfl) .nil))) rfl (fun hg => append_nil x.n x.text) optN ?_
    refine ARun.move (.inr rfl) rfl rfl rfl (Ev.plain rfl) optN ?_
    refine ⟨_, _, rfl, hG, ?_⟩
    refine blockA_n ?_
    refine thenA_n ?_
    refine AWP.seq ?_
    refine AWP.region (fun _ => ?_)
    refine ARun.move (.inl rfl) rfl rfl rfl (Ev.plain rfl) optN ?_
    refine ARun.move (.inl rfl) rfl rfl rfl (Ev.plain rfl) optN ?_
    refine ARun.call rfl rfl rfl rfl cf16 (Ev.plain rfl) (.cons (Ev.plain rfl) .nil) rfl (fun hg => code_fn _) optN ?_
    refine ARun.move (.inr rfl) rfl rfl rfl (Ev.plain rfl) optN ?_
    refine ARun.move (.inr rfl) rfl rfl rfl (Ev.plain rfl) optN ?_
    refine ⟨_, _, rfl, hG, ?_⟩
    refine thenA_n ?_
    refine AWP.ret ?_
    refine endF.many (.inr rfl) (rs := [.tmp 4, .tmp 5]) rfl (.cons (.tmp rfl) (.cons (.tmp rfl) .nil)) (by simp) ?_ hN
    rfl
  · skip
    try simp at h0
    refine AWP.seq ?_
    refine AWP.region (fun _ => ?_)
    refine ARun.cmp rfl rfl rfl rfl (Ev.plain rfl) (Ev.plain rfl) rfl optN ?_
    refine ARun.move (.inr rfl) rfl rfl rfl (Ev.plain rfl) optN ?_
    refine ⟨_, _, rfl, hG, ?_⟩
    refine thenA_n ?_
    refine AWP.cond rfl (fun h1 => ?_) (fun h1 => ?_)
    · skip
      try simp at h1
      refine AWP.region (fun _ => ?_)
      refine ARun.move (.inl rfl) rfl rfl rfl (Ev.plain rfl) optN ?_
      refine ARun.fieldPe rfl rfl rfl rfl Tryd.underlying50 rfl rfl sz3 (by decide) (Ev.plain rfl) rfl optN ?_
      refine ARun.loadPe rfl rfl rfl rfl Tryd.underlying3 rfl (Ev.plain rfl) rfl optN ?_
      refine ARun.call rfl rfl rfl rfl cf10 (Ev.plain rfl) (.cons (Ev.plain rfl) (.cons (Ev.plain rfl) .nil)) rfl (fun hg => sync_nil x.n) optN ?_
      refine ARun.move (.inr rfl) rfl rfl rfl (Ev.plain rfl) optN ?_
      refine ⟨_, _, rfl, hG, ?_⟩
      refine blockA_n ?_
      refine thenA_n ?_
      refine AWP.seq ?_
      refine AWP.region (fun _ => ?_)
      refine ARun.move (.inl rfl) rfl rfl rfl (Ev.plain rfl) optN ?_
      refine ARun.move (.inl rfl) rfl rfl rfl (Ev.plain rfl) optN ?_
      refine ARun.call rfl rfl rfl rfl cf16 (Ev.plain rfl) (.cons (Ev.plain rfl) .nil) rfl (fun hg => code_fn _) optN ?_
      refine ARun.move (.inr rfl) rfl rfl rfl (Ev.plain rfl) optN ?_
      refine ARun.move (.inr rfl) rfl rfl rfl (Ev.plain rfl) optN ?_
      refine ⟨_, _, rfl, hG, ?_⟩
      refine thenA_n ?_
      refine AWP.ret ?_
      refine endF.many (.inr rfl) (rs := [.tmp 4, .tmp 5]) rfl (.cons (.tmp rfl) (.cons (.tmp rfl) .nil)) (by simp) ?_ hN
      rfl
    · skip
      try simp at h1
      refine AWP.seq ?_
      refine AWP.region (fun _ => ?_)
      refine ARun.cmp rfl rfl rfl rfl (Ev.plain rfl) (Ev.plain rfl) rfl optN ?_
      refine ARun.move (.inr rfl) rfl rfl rfl (Ev.plain rfl) optN ?_
      refine ⟨_, _, rfl, hG, ?_⟩
      refine thenA_n ?_
      refine AWP.cond rfl (fun h2 => ?_) (fun h2 => ?_)
      · skip
        try simp at h2
        refine AWP.region (fun _ => ?_)
        refine ARun.move (.inl rfl) rfl rfl rfl (Ev.plain rfl) optN ?_
        refine ARun.fieldPe rfl rfl rfl rfl Tryd.underlying50 rfl rfl sz3 (by decide) (Ev.plain rfl) rfl optN ?_
        refine ARun.loadPe rfl rfl rfl rfl Tryd.underlying3 rfl (Ev.plain rfl) rfl optN ?_
        refine ARun.call rfl rfl rfl rfl cf32 (Ev.plain rfl) (.cons (Ev.plain rfl) (.cons (Ev.plain rfl) .nil)) rfl (fun hg => reset_nil x.n) optN ?_
        refine ARun.move (.inr rfl) rfl rfl rfl (Ev.plain rfl) optN ?_
        refine ⟨_, _, rfl, hG, ?_⟩
        refine blockA_n ?_
        refine thenA_n ?_
        refine AWP.seq ?_
        refine AWP.region (fun _ => ?_)
        refine ARun.move (.inl rfl) rfl rfl rfl (Ev.plain rfl) optN ?_
        refine ARun.move (.inl rfl) rfl rfl rfl (Ev.plain rfl) optN ?_
        refine ARun.call rfl rfl rfl rfl cf16 (Ev.plain rfl) (.cons (Ev.plain rfl) .nil) rfl (fun hg => code_fn _) optN ?_
        refine ARun.move (.inr rfl) rfl rfl rfl (Ev.plain rfl) optN ?_
        refine ARun.move (.inr rfl) rfl rfl rfl (Ev.plain rfl) optN ?_
        refine ⟨_, _, rfl, hG, ?_⟩
        refine thenA_n ?_
        refine AWP.ret ?_
        refine endF.many (.inr rfl) (rs := [.tmp 4, .tmp 5]) rfl (.cons (.tmp rfl) (.cons (.tmp rfl) .nil)) (by simp) ?_ hN
        rfl
      · skip
        try simp at h2
        refine AWP.seq ?_
        refine AWP.region (fun _ => ?_)
        refine ARun.cmp rfl rfl rfl rfl (Ev.plain rfl) (Ev.plain rfl) rfl optN ?_
        refine ARun.move (.inr rfl) rfl rfl rfl (Ev.plain rfl) optN ?_
        refine ⟨_, _, rfl, hG, ?_⟩
        refine thenA_n ?_
        refine AWP.cond rfl (fun h3 => ?_) (fun h3 => ?_)
        · skip
          try simp at h3
          refine AWP.region (fun _ => ?_)
          refine ARun.move (.inl rfl) rfl rfl rfl (Ev.plain rfl) optN ?_
          refine ARun.fieldPe rfl rfl rfl rfl Tryd.underlying50 rfl rfl sz3 (by decide) (Ev.plain rfl) rfl optN ?_
          refine ARun.loadPe rfl rfl rfl rfl Tryd.underlying3 rfl (Ev.plain rfl) rfl optN ?_
          refine ARun.call rfl rfl rfl rfl cf13 (Ev.plain rfl) (.cons (Ev.plain rfl) (.cons (Ev.plain rfl) .nil)) rfl (fun hg => read_nil x.n) optN ?_
          refine ARun.move (.inl rfl) rfl rfl rfl (Ev.plain rfl) optN ?_
          refine ARun.extract rfl rfl rfl rfl (Ev.plain rfl) rfl optN ?_
          refine ARun.extract rfl rfl rfl rfl (Ev.plain rfl) rfl optN ?_
          refine ARun.move (.inr rfl) rfl rfl rfl (Ev.plain rfl) optN ?_
          refine ARun.move (.inr rfl) rfl rfl rfl (Ev.plain rfl) optN ?_
          refine ⟨_, _, rfl, hG, ?_⟩
          refine blockA_n ?_
          refine thenA_n ?_
          refine AWP.seq ?_
          refine AWP.region (fun _ => ?_)
          refine ARun.move (.inl rfl) rfl rfl rfl (Ev.plain rfl) optN ?_
          refine ARun.move (.inl rfl) rfl rfl rfl (Ev.plain rfl) optN ?_
          refine ARun.call rfl rfl rfl rfl cf16 (Ev.plain rfl) (.cons (Ev.plain rfl) .nil) rfl (fun hg => code_fn _) optN ?_
          refine ARun.move (.inr rfl) rfl rfl rfl (Ev.plain rfl) optN ?_
          refine ARun.move (.inr rfl) rfl rfl rfl (Ev.plain rfl) optN ?_
          refine ⟨_, _, rfl, hG, ?_⟩
          refine thenA_n ?_
          refine AWP.ret ?_
          refine endF.many (.inr rfl) (rs := [.tmp 4, .tmp 5]) rfl (.cons (.tmp rfl) (.cons (.tmp rfl) .nil)) (by simp) ?_ hN
          rfl
        · skip
          try simp at h3
          refine AWP.seq ?_
          refine AWP.region (fun _ => ?_)
          refine ARun.cmp rfl rfl rfl rfl (Ev.plain rfl) (Ev.plain rfl) rfl optN ?_
          refine ARun.move (.inr rfl) rfl rfl rfl (Ev.plain rfl) optN ?_
          refine ⟨_, _, rfl, hG, ?_⟩
          refine thenA_n ?_
          refine AWP.cond rfl (fun h4 => ?_) (fun h4 => ?_)
          · skip
            try simp at h4
            refine AWP.region (fun _ => ?_)
            refine ARun.move (.inl rfl) rfl rfl rfl (Ev.plain rfl) optN ?_
            refine ARun.fieldPe rfl rfl rfl rfl Tryd.underlying50 rfl rfl sz3 (by decide) (Ev.plain rfl) rfl optN ?_
            refine ARun.loadPe rfl rfl rfl rfl Tryd.underlying3 rfl (Ev.plain rfl) rfl optN ?_
            refine ARun.call rfl rfl rfl rfl cf33 (Ev.plain rfl) (.cons (Ev.plain rfl) (.cons (Ev.plain rfl) .nil)) rfl (fun hg => arm_nil x.n) optN ?_
            refine ARun.move (.inr rfl) rfl rfl rfl (Ev.plain rfl) optN ?_
            refine ⟨_, _, rfl, hG, ?_⟩
            refine blockA_n ?_
            refine thenA_n ?_
            refine AWP.seq ?_
            refine AWP.region (fun _ => ?_)
            refine ARun.move (.inl rfl) rfl rfl rfl (Ev.plain rfl) optN ?_
            refine ARun.move (.inl rfl) rfl rfl rfl (Ev.plain rfl) optN ?_
            refine ARun.call rfl rfl rfl rfl cf16 (Ev.plain rfl) (.cons (Ev.plain rfl) .nil) rfl (fun hg => code_fn _) optN ?_
            refine ARun.move (.inr rfl) rfl rfl rfl (Ev.plain rfl) optN ?_
            refine ARun.move (.inr rfl) rfl rfl rfl (Ev.plain rfl) optN ?_
            refine ⟨_, _, rfl, hG, ?_⟩
            refine thenA_n ?_
            refine AWP.ret ?_
            refine endF.many (.inr rfl) (rs := [.tmp 4, .tmp 5]) rfl (.cons (.tmp rfl) (.cons (.tmp rfl) .nil)) (by simp) ?_ hN
            rfl
          · skip
            try simp at h4
            refine AWP.seq ?_
            refine AWP.region (fun _ => ?_)
            refine ARun.cmp rfl rfl rfl rfl (Ev.plain rfl) (Ev.plain rfl) rfl optN ?_
            refine ARun.move (.inr rfl) rfl rfl rfl (Ev.plain rfl) optN ?_
            refine ⟨_, _, rfl, hG, ?_⟩
            refine thenA_n ?_
            refine AWP.cond rfl (fun h5 => ?_) (fun h5 => ?_)
            · skip
              try simp at h5
              refine AWP.region (fun _ => ?_)
              refine ARun.move (.inl rfl) rfl rfl rfl (Ev.plain rfl) optN ?_
              refine ARun.call rfl rfl rfl rfl cf11 (Ev.plain rfl) (.cons (Ev.plain rfl) .nil) rfl (fun hg => off_nil) optN ?_
              refine ARun.move (.inr rfl) rfl rfl rfl (Ev.plain rfl) optN ?_
              refine ⟨_, _, rfl, hG, ?_⟩
              refine blockA_n ?_
              refine thenA_n ?_
              refine AWP.seq ?_
              refine AWP.region (fun _ => ?_)
              refine ARun.move (.inl rfl) rfl rfl rfl (Ev.plain rfl) optN ?_
              refine ARun.move (.inl rfl) rfl rfl rfl (Ev.plain rfl) optN ?_
              refine ARun.call rfl rfl rfl rfl cf16 (Ev.plain rfl) (.cons (Ev.plain rfl) .nil) rfl (fun hg => code_fn _) optN ?_
              refine ARun.move (.inr rfl) rfl rfl rfl (Ev.plain rfl) optN ?_
              refine ARun.move (.inr rfl) rfl rfl rfl (Ev.plain rfl) optN ?_
              refine ⟨_, _, rfl, hG, ?_⟩
              refine thenA_n ?_
              refine AWP.ret ?_
              refine endF.many (.inr rfl) (rs := [.tmp 4, .tmp 5]) rfl (.cons (.tmp rfl) (.cons (.tmp rfl) .nil)) (by simp) ?_ hN
              rfl
            · skip
              try simp at h5
              refine AWP.seq ?_
              refine AWP.region (fun _ => ?_)
              refine ARun.cmp rfl rfl rfl rfl (Ev.plain rfl) (Ev.plain rfl) rfl optN ?_
              refine ARun.move (.inr rfl) rfl rfl rfl (Ev.plain rfl) optN ?_
              refine ⟨_, _, rfl, hG, ?_⟩
              refine thenA_n ?_
              refine AWP.cond rfl (fun h6 => ?_) (fun h6 => ?_)
              · skip
                try simp at h6
                refine AWP.region (fun _ => ?_)
                refine ARun.move (.inl rfl) rfl rfl rfl (Ev.plain rfl) optN ?_
                refine ARun.fieldPe rfl rfl rfl rfl Tryd.underlying50 rfl rfl sz23 (by decide) (Ev.plain rfl) rfl optN ?_
                refine ARun.loadPeA rfl rfl rfl rfl Tryd.underlying23 rfl sz23 (Ev.plain rfl) rfl optN ?_
                refine ARun.fieldPe rfl rfl rfl rfl Tryd.underlying50 rfl rfl sz23 (by decide) (Ev.plain rfl) rfl optN ?_
                refine ARun.loadPeA rfl rfl rfl rfl Tryd.underlying23 rfl sz23 (Ev.plain rfl) rfl optN ?_
                refine ARun.call rfl rfl rfl rfl cf12 (Ev.plain rfl) (.cons (Ev.plain rfl) (.cons (Ev.plain rfl) (.cons (Ev.plain rfl) .nil))) rfl (fun hg => boot_nil x.a x.b) optN ?_
                refine ARun.move (.inr rfl) rfl rfl rfl (Ev.plain rfl) optN ?_
                refine ⟨_, _, rfl, hG, ?_⟩
                refine blockA_n ?_
                refine thenA_n ?_
                refine AWP.seq ?_
                refine AWP.region (fun _ => ?_)
                refine ARun.move (.inl rfl) rfl rfl rfl (Ev.plain rfl) optN ?_
                refine ARun.move (.inl rfl) rfl rfl rfl (Ev.plain rfl) optN ?_
                refine ARun.call rfl rfl rfl rfl cf16 (Ev.plain rfl) (.cons (Ev.plain rfl) .nil) rfl (fun hg => code_fn _) optN ?_
                refine ARun.move (.inr rfl) rfl rfl rfl (Ev.plain rfl) optN ?_
                refine ARun.move (.inr rfl) rfl rfl rfl (Ev.plain rfl) optN ?_
                refine ⟨_, _, rfl, hG, ?_⟩
                refine thenA_n ?_
                refine AWP.ret ?_
                refine endF.many (.inr rfl) (rs := [.tmp 4, .tmp 5]) rfl (.cons (.tmp rfl) (.cons (.tmp rfl) .nil)) (by simp) ?_ hN
                rfl
              · skip
                simp at h0 h1 h2 h3 h4 h5 h6; omega
set_option maxHeartbeats 1000000 in
theorem newd_fn (k : Int) (h : 1 ≤ k ∧ k ≤ 1000000) : FnNewB Tryd.prog 8 [.int .i64 k] (fun i => .tup [.box i 0, aEr .none]) (aDk (d0 k)) := by
  refine FnNewB.of Tryd.func8 rfl rfl (by simp) (fun G hG => ?_)
  refine AWP.seq ?_
  refine AWP.region (fun _ => ?_)
  refine ARun.move (.inr rfl) rfl rfl rfl (Ev.plain rfl) optN ?_
  refine ARun.move (.inr rfl) rfl rfl rfl (Ev.plain rfl) optN ?_
  refine ⟨_, _, rfl, hG, ?_⟩
  refine thenA_n ?_
  refine AWP.seq ?_
  refine AWP.seq ?_
  refine AWP.region (fun _ => ?_)
  refine ARun.move (.inl rfl) rfl rfl rfl (Ev.plain rfl) optN ?_
  refine ARun.cmp rfl rfl rfl rfl (Ev.plain rfl) (Ev.plain rfl) rfl optN ?_
  refine ARun.move (.inl rfl) rfl rfl rfl (Ev.plain rfl) optN ?_
  refine ARun.move (.inl rfl) rfl rfl rfl (Ev.plain rfl) optS ?_
  refine ARun.cmp rfl rfl rfl rfl (Ev.opt rfl (fun h => h)) (Ev.plain rfl) rfl optS ?_
  refine ARun.pick rfl rfl rfl rfl (Ev.plain rfl) (Ev.plain rfl) (Ev.opt rfl (by first | exact pkF | exact pkF2 | simp +contextual)) (orB _ _) optN ?_
  refine ⟨_, _, rfl, hG, ?_⟩
  refine thenA_n ?_
  refine AWP.cond rfl (fun h0 => ?_) (fun h0 => ?_)
  · skip
    simp at h0; omega
  · skip
    skip
    refine AWP.skip ?_
    refine thenA_n ?_
    refine AWP.seq ?_
    refine AWP.region (fun _ => ?_)
    refine ARun.move (.inl rfl) rfl rfl rfl (Ev.plain rfl) optN ?_
    refine ARun.build rfl rfl rfl rfl so62 (.cons (Ev.plain rfl) .nil) rfl rfl optN ?_
    refine ARun.box (j := 0) hG rfl rfl rfl rfl rfl (Ev.plain rfl) rfl rfl optN ?_
    refine ARun.move (.inr rfl) rfl rfl rfl (Ev.plain rfl) optN ?_
    refine ARun.move (.inr rfl) rfl rfl rfl (Ev.plain rfl) optN ?_
    refine ⟨_, _, rfl, hG, ?_⟩
    refine thenA_n ?_
    refine AWP.ret ?_
    refine endN.many (.inr rfl) (rs := [.tmp 2, .tmp 3]) rfl (.cons (.tmp rfl) (.cons (.tmp rfl) .nil)) (by simp) ?_ (by first | exact noH_aDk _ _ | (simp; done) | (simp [cAV]; done)) (by first | exact noH_aDk _ _ | (simp; done) | (simp [cAV]; done))
    rfl
set_option maxHeartbeats 1000000 in
theorem newd_bad (k : Int) (h : k < 1 ∨ 1000000 < k) : FnP Tryd.prog 8 [.int .i64 k] (.tup [.raw (.pointer none), aEr (Er.new ⟨#[100, 105, 115, 107]⟩ 2)]) := by
  refine FnP.of Tryd.func8 rfl rfl (by simp) (by simp [AV.cells, aDk, aRD, rdc, aCh]) (fun G hG => ?_)
  have hN : NoH G.length (.tup [.raw (.pointer none), aEr (Er.new ⟨#[100, 105, 115, 107]⟩ 2)]) := (by simp [AV.cells, aDk, aRD, rdc, aCh])
  refine AWP.seq ?_
  refine AWP.region (fun _ => ?_)
  refine ARun.move (.inr rfl) rfl rfl rfl (Ev.plain rfl) optN ?_
  refine ARun.move (.inr rfl) rfl rfl rfl (Ev.plain rfl) optN ?_
  refine ⟨_, _, rfl, hG, ?_⟩
  refine thenA_n ?_
  refine AWP.seq ?_
  refine AWP.seq ?_
  refine AWP.region (fun _ => ?_)
  refine ARun.move (.inl rfl) rfl rfl rfl (Ev.plain rfl) optN ?_
  refine ARun.cmp rfl rfl rfl rfl (Ev.plain rfl) (Ev.plain rfl) rfl optN ?_
  refine ARun.move (.inl rfl) rfl rfl rfl (Ev.plain rfl) optN ?_
  refine ARun.move (.inl rfl) rfl rfl rfl (Ev.plain rfl) optS ?_
  refine ARun.cmp rfl rfl rfl rfl (Ev.opt rfl (fun h => h)) (Ev.plain rfl) rfl optS ?_
  refine ARun.pick rfl rfl rfl rfl (Ev.plain rfl) (Ev.plain rfl) (Ev.opt rfl (by first | exact pkF | exact pkF2 | simp +contextual)) (orB _ _) optN ?_
  refine ⟨_, _, rfl, hG, ?_⟩
  refine thenA_n ?_
  refine AWP.cond rfl (fun h0 => ?_) (fun h0 => ?_)
  · skip
    skip
    refine AWP.seq ?_
    refine AWP.region (fun _ => ?_)
    refine ARun.call rfl rfl rfl rfl cf23 (Ev.plain rfl) (.cons (Ev.plain rfl) .nil) rfl (fun hg => told_fn 2) optN ?_
    refine ARun.move (.inr rfl) rfl rfl rfl (Ev.plain rfl) optN ?_
    refine ARun.move (.inr rfl) rfl rfl rfl (Ev.plain rfl) optN ?_
    refine ⟨_, _, rfl, hG, ?_⟩
    refine thenA_n ?_
    refine AWP.ret ?_
    refine thenA_r ?_
    refine endF.many (.inr rfl) (rs := [.tmp 2, .tmp 3]) rfl (.cons (.tmp rfl) (.cons (.tmp rfl) .nil)) (by simp) ?_ hN
    rfl
  · skip
    simp at h0; omega
set_option maxHeartbeats 1000000 in
theorem few_fn (l : List ActP) : FnP Tryd.prog 14 [.sl (l.map aAct)] (.bool (fewA l)) := by
  refine FnP.of Tryd.func14 rfl rfl (by simp) (by simp [AV.cells, aDk, aRD, rdc, aCh]) (fun G hG => ?_)
  have hN : NoH G.length (.bool (fewA l)) := (by simp [AV.cells, aDk, aRD, rdc, aCh])
  refine AWP.seq ?_
  refine AWP.region (fun _ => ?_)
  refine ARun.move (.inr rfl) rfl rfl rfl (Ev.plain rfl) optN ?_
  refine ⟨_, _, rfl, hG, ?_⟩
  refine thenA_n ?_
  refine AWP.seq ?_
  refine AWP.seq ?_
  refine AWP.region (fun _ => ?_)
  refine ARun.move (.inl rfl) rfl rfl rfl (Ev.plain rfl) optN ?_
  refine ARun.lenSl rfl rfl rfl rfl Tryd.underlying37 (Ev.plain rfl) optN ?_
  refine ARun.cmp rfl rfl rfl rfl (Ev.plain rfl) (Ev.plain rfl) rfl optN ?_
  refine ⟨_, _, rfl, hG, ?_⟩
  refine thenA_n ?_
  refine AWP.cond rfl (fun h0 => ?_) (fun h0 => ?_)
  · skip
    try simp [-List.getD_eq_getElem?_getD] at h0
    refine AWP.seq ?_
    refine AWP.region (fun _ => ?_)
    refine ARun.move (.inr rfl) rfl rfl rfl (Ev.plain rfl) optN ?_
    refine ⟨_, _, rfl, hG, ?_⟩
    refine thenA_n ?_
    refine AWP.ret ?_
    refine thenA_r ?_
    refine endF.one (.inr rfl) rfl (.tmp rfl) ?_ hN
    rw [show fewA l = false from by unfold fewA; rw [decide_eq_false (by omega)]; rfl]; rfl
  · skip
    try simp [-List.getD_eq_getElem?_getD] at h0
    refine AWP.skip ?_
    refine thenA_n ?_
    refine AWP.seq ?_
    refine AWP.seq ?_
    refine AWP.region (fun _ => ?_)
    refine ARun.move (.inr rfl) rfl rfl rfl (Ev.plain rfl) optN ?_
    refine ⟨_, _, rfl, hG, ?_⟩
    refine thenA_n ?_
    refine AWP.block ?_
    refine AWP.rounds (fun k => k ≤ l.length ∧ ∀ j, j < k → actOk (l.getD j default) = true) (fun k => [(0, .sl (l.map aAct)), (3, .int .i64 (k : Int))]) (fun k => []) (fun k => l.length - k) 0 0 ⟨by omega, fun j h => by omega⟩ (by repeat (first | exact .nil | refine .cons rfl ?_)) rfl (fun _ => rfl) (fun _ => ⟨by simp [AV.cells, aAct], by simp⟩) (fun k hI => ?_)
    obtain ⟨hk, hno⟩ := hI
    refine AWP.seq ?_
    refine AWP.seq ?_
    refine AWP.region (fun _ => ?_)
    refine ARun.move (.inl rfl) rfl rfl rfl (Ev.plain rfl) optN ?_
    refine ARun.move (.inl rfl) rfl rfl rfl (Ev.plain rfl) optN ?_
    refine ARun.lenSl rfl rfl rfl rfl Tryd.underlying37 (Ev.plain rfl) optN ?_
    refine ARun.cmp rfl rfl rfl rfl (Ev.plain rfl) (Ev.plain rfl) rfl optN ?_
    refine ⟨_, _, rfl, hG, ?_⟩
    refine thenA_n ?_
    refine AWP.cond rfl (fun h1 => ?_) (fun h1 => ?_)
    · skip
      try simp [-List.getD_eq_getElem?_getD] at h1
      refine AWP.skip ?_
      refine thenA_n ?_
      refine AWP.seq ?_
      refine AWP.block ?_
      refine AWP.seq ?_
      refine AWP.region (fun _ => ?_)
      refine ARun.move (.inl rfl) rfl rfl rfl (Ev.plain rfl) optN ?_
      refine ARun.move (.inl rfl) rfl rfl rfl (Ev.plain rfl) optN ?_
      first | refine ARun.indexSl rfl rfl rfl rfl Tryd.underlying37 sz50 (Ev.plain rfl) (Ev.plain rfl) (fun _ => rfl) (fun hg => getMap _ _ _ (by (try simp at hg); omega)) rfl rfl optN ?_ | refine ARun.indexSl rfl rfl rfl rfl Tryd.underlying37 sz50 (Ev.plain rfl) (Ev.plain rfl) (fun hg => ofNonneg (by (try simp at hg); omega)) (fun hg => getMap _ _ _ (by (try simp at hg); omega)) rfl rfl optN ?_
      refine ARun.fieldPe rfl rfl rfl rfl Tryd.underlying50 rfl rfl sz9 (by decide) (Ev.plain rfl) rfl optN ?_
      refine ARun.loadPe rfl rfl rfl rfl Tryd.underlying9 rfl (Ev.plain rfl) rfl optN ?_
      refine ARun.lenStr rfl rfl rfl rfl Tryd.underlying9 (Ev.plain rfl) optN ?_
      refine ARun.cmp rfl rfl rfl rfl (Ev.plain rfl) (Ev.plain rfl) rfl optN ?_
      refine ARun.move (.inl rfl) rfl rfl rfl (Ev.plain rfl) optN ?_
      refine ARun.move (.inl rfl) rfl rfl rfl (Ev.plain rfl) optS ?_
      refine ARun.move (.inl rfl) rfl rfl rfl (Ev.plain rfl) optS ?_
      first | refine ARun.indexSl rfl rfl rfl rfl Tryd.underlying37 sz50 (Ev.opt rfl (fun h => h)) (Ev.opt rfl (fun h => h)) (fun _ => rfl) (fun hg => getMap _ _ _ (by (try simp at hg); omega)) rfl rfl optS ?_ | refine ARun.indexSl rfl rfl rfl rfl Tryd.underlying37 sz50 (Ev.opt rfl (fun h => h)) (Ev.opt rfl (fun h => h)) (fun hg => ofNonneg (by (try simp at hg); omega)) (fun hg => getMap _ _ _ (by (try simp at hg); omega)) rfl rfl optS ?_
      refine ARun.fieldPe rfl rfl rfl rfl Tryd.underlying50 rfl rfl sz23 (by decide) (Ev.opt rfl (fun h => h)) rfl optS ?_
      refine ARun.fieldPe rfl rfl rfl rfl Tryd.underlying23 rfl rfl sz9 (by decide) (Ev.opt rfl (fun h => h)) rfl optS ?_
      refine ARun.loadPe rfl rfl rfl rfl Tryd.underlying9 rfl (Ev.opt rfl (fun h => h)) rfl optS ?_
      refine ARun.lenStr rfl rfl rfl rfl Tryd.underlying9 (Ev.opt rfl (fun h => h)) optS ?_
      refine ARun.cmp rfl rfl rfl rfl (Ev.opt rfl (fun h => h)) (Ev.plain rfl) rfl optS ?_
      refine ARun.pick rfl rfl rfl rfl (Ev.plain rfl) (Ev.plain rfl) (Ev.opt rfl (by first | exact pkF | exact pkF2 | simp +contextual)) (orB _ _) optN ?_
      refine ARun.move (.inl rfl) rfl rfl rfl (Ev.plain rfl) optN ?_
      refine ARun.move (.inl rfl) rfl rfl rfl (Ev.plain rfl) optS ?_
      refine ARun.move (.inl rfl) rfl rfl rfl (Ev.plain rfl) optS ?_
      first | refine ARun.indexSl rfl rfl rfl rfl Tryd.underlying37 sz50 (Ev.opt rfl (fun h => h)) (Ev.opt rfl (fun h => h)) (fun _ => rfl) (fun hg => getMap _ _ _ (by (try simp at hg); omega)) rfl rfl optS ?_ | refine ARun.indexSl rfl rfl rfl rfl Tryd.underlying37 sz50 (Ev.opt rfl (fun h => h)) (Ev.opt rfl (fun h => h)) (fun hg => ofNonneg (by (try simp at hg); omega)) (fun hg => getMap _ _ _ (by (try simp at hg); omega)) rfl rfl optS ?_
      refine ARun.fieldPe rfl rfl rfl rfl Tryd.underlying50 rfl rfl sz23 (by decide) (Ev.opt rfl (fun h => h)) rfl optS ?_
      refine ARun.fieldPe rfl rfl rfl rfl Tryd.underlying23 rfl rfl sz9 (by decide) (Ev.opt rfl (fun h => h)) rfl optS ?_
      refine ARun.loadPe rfl rfl rfl rfl Tryd.underlying9 rfl (Ev.opt rfl (fun h => h)) rfl optS ?_
      refine ARun.lenStr rfl rfl rfl rfl Tryd.underlying9 (Ev.opt rfl (fun h => h)) optS ?_
      refine ARun.cmp rfl rfl rfl rfl (Ev.opt rfl (fun h => h)) (Ev.plain rfl) rfl optS ?_
      refine ARun.pick rfl rfl rfl rfl (Ev.plain rfl) (Ev.plain rfl) (Ev.opt rfl (by first | exact pkF | exact pkF2 | simp +contextual)) (orB _ _) optN ?_
      refine ⟨_, _, rfl, hG, ?_⟩
      refine thenA_n ?_
      refine AWP.cond rfl (fun h2 => ?_) (fun h2 => ?_)
      · skip
        try simp [-List.getD_eq_getElem?_getD] at h2
        refine AWP.seq ?_
        refine AWP.region (fun _ => ?_)
        refine ARun.move (.inr rfl) rfl rfl rfl (Ev.plain rfl) optN ?_
        refine ⟨_, _, rfl, hG, ?_⟩
        refine thenA_n ?_
        refine AWP.ret ?_
        refine blockA_r ?_
        refine thenA_r ?_
        refine thenA_r ?_
        refine blockA_r ?_
        refine thenA_r ?_
        refine endF.one (.inr rfl) rfl (.tmp rfl) ?_ hN
        rw [few_no h1 (by omega)]; rfl
      · skip
        try simp [-List.getD_eq_getElem?_getD] at h2
        refine AWP.skip ?_
        refine blockA_n ?_
        refine thenA_n ?_
        refine AWP.region (fun _ => ?_)
        refine ARun.move (.inl rfl) rfl rfl rfl (Ev.plain rfl) optN ?_
        first | refine ARun.arith rfl rfl rfl rfl (Ev.plain rfl) (Ev.plain rfl) rfl (fun hg => i64w (by (try simp at hg); omega)) optN ?_ | refine ARun.arith rfl rfl rfl rfl (Ev.plain rfl) (Ev.plain rfl) rfl (fun _ => rfl) optN ?_
        refine ARun.move (.inr rfl) rfl rfl rfl (Ev.plain rfl) optN ?_
        refine ⟨_, _, rfl, hG, ?_⟩
        refine thenA_n ⟨rfl, k + 1, _, ?_, ?_, rfl, ?_⟩
        · refine ⟨by omega, fun j hj => ?_⟩
          by_cases e : j = k
          · subst e; unfold actOk; rw [decide_eq_true (by omega), decide_eq_true (by omega), decide_eq_true (by omega)]; rfl
          · exact hno j (by omega)
        · repeat (first | exact .nil | refine .cons rfl ?_)
        · omega
    · skip
      try simp [-List.getD_eq_getElem?_getD] at h1
      refine AWP.exit ?_
      refine thenA_x ?_
      refine thenA_x ?_
      refine blockA_h ?_
      refine thenA_n ?_
      refine AWP.seq ?_
      refine AWP.region (fun _ => ?_)
      refine ARun.move (.inr rfl) rfl rfl rfl (Ev.plain rfl) optN ?_
      refine ⟨_, _, rfl, hG, ?_⟩
      refine thenA_n ?_
      refine AWP.ret ?_
      refine endF.one (.inr rfl) rfl (.tmp rfl) ?_ hN
      rw [few_yes (by omega) (fun j hj => hno j (by omega))]; rfl
theorem readR_ref {d : Dk} {k : Nat} (h : DGo d k) (hk : k ≤ 1000) (a : Int) : FnP Tryd.prog 37 [aRD (refD d), .int .i64 a] (.tup [.str (readP d a).1, .int .i64 (readP d a).2]) := by
  rw [← read_ref h.pos]; exact readR_fn _ a (ref_ok h hk)
theorem refDo_ref {d : Dk} {k : Nat} (h : DGo d k) (hk : k ≤ 1000) (x : ActP) (h1 : x.text.size ≤ 1000000) (h2 : x.a.trash.size ≤ 1000000) (h3 : x.b.trash.size ≤ 1000000) : FnP Tryd.prog 18 [aRD (refD d), .agg [.int .i64 x.kind, .int .i64 x.n, .str x.text, .int .i64 x.a.keep, .str x.a.trash, .bool x.a.reset, .int .i64 x.b.keep, .str x.b.trash, .bool x.b.reset]] (.tup [aRD (refD (doP d x).1), .str (doP d x).2.1, .int .i64 (doP d x).2.2]) := by
  have := refDo_fn (refD d) x (ref_ok h hk) h1 h2 h3
  rwa [do_ref h hk] at this
theorem newR_ref (k : Int) (h : 1 ≤ k ∧ k ≤ 1000000) : FnP Tryd.prog 15 [.int .i64 k] (.tup [aRD (refD (d0 k)), .int .i64 0]) := by
  have := newR_fn k
  rw [if_neg (by omega), if_neg (by omega)] at this
  rw [← r0_ref]; exact this
set_option maxHeartbeats 1000000 in
theorem same_fn (d : Dk) (q : Nat) (h : DGo d q) (hq : q ≤ 1000) : FnM Tryd.prog 19 (fun i => [.box i 0, aRD (refD d)]) (aDk d) (.bool true) (aDk d) := by
  refine FnM.of Tryd.func19 rfl rfl (fun i => by simp) (fun H i m hHm hi hG => ?_)
  have hN : NoH H.length (.bool true) := (by simp [AV.cells, aDk, aRD, rdc, aCh])
  refine AWP.seq ?_
  refine AWP.region (fun _ => ?_)
  refine ARun.box (j := 0) hG rfl rfl rfl rfl rfl (Ev.plain rfl) rfl rfl optN ?_
  refine ARun.move (.inr rfl) rfl rfl rfl (Ev.plain rfl) optN ?_
  refine ⟨_, _, rfl, hG, ?_⟩
  refine thenA_n ?_
  refine AWP.seq ?_
  refine AWP.seq ?_
  refine AWP.region (fun _ => ?_)
  refine ARun.move (.inr rfl) rfl rfl rfl (Ev.plain rfl) optN ?_
  refine ⟨_, _, rfl, hG, ?_⟩
  refine thenA_n ?_
  refine AWP.block ?_
  refine AWP.rounds (fun k => k ≤ (2 : Nat)) (fun k => [(0, .box i 0), (3, .box (m + 0) 0), (5, .int .i64 (k : Int))]) (fun k => [.box (rdc (refD d))]) (fun k => 2 - k) 1 0 (by omega) (by repeat (first | exact .nil | refine .cons rfl ?_)) rfl (fun _ => rfl) (fun _ => ⟨by simp; omega, by simp [AO.conts, rdc]⟩) (fun k hI => ?_)
  refine AWP.seq ?_
  refine AWP.seq ?_
  refine AWP.region (fun _ => ?_)
  refine ARun.move (.inl rfl) rfl rfl rfl (Ev.plain rfl) optN ?_
  refine ARun.cmp rfl rfl rfl rfl (Ev.plain rfl) (Ev.plain rfl) rfl optN ?_
  refine ⟨_, _, rfl, hG, ?_⟩
  refine thenA_n ?_
  refine AWP.cond rfl (fun h0 => ?_) (fun h0 => ?_)
  · skip
    simp at h0
    have hk2 : k < 2 := by omega
    refine AWP.skip ?_
    refine thenA_n ?_
    refine AWP.seq ?_
    refine AWP.block ?_
    refine AWP.seq ?_
    refine AWP.region (fun _ => ?_)
    refine ARun.move (.inl rfl) rfl rfl rfl (Ev.plain rfl) optN ?_
    refine ARun.move (.inl rfl) rfl rfl rfl (Ev.plain rfl) optN ?_
    refine ARun.callR rfl rfl rfl rfl cf13 (Ev.plain rfl) (.cons (Ev.plain rfl) (.cons (Ev.plain rfl) .nil)) rfl (fun hg => FnM.keep (read_fn d k) (atO hi)) optN ?_
    refine ARun.move (.inl rfl) rfl rfl rfl (Ev.plain rfl) optN ?_
    refine ARun.extract rfl rfl rfl rfl (Ev.plain rfl) rfl optN ?_
    refine ARun.extract rfl rfl rfl rfl (Ev.plain rfl) rfl optN ?_
    refine ARun.move (.inr rfl) rfl rfl rfl (Ev.plain rfl) optN ?_
    refine ARun.move (.inr rfl) rfl rfl rfl (Ev.plain rfl) optN ?_
    refine ⟨_, _, rfl, hG, ?_⟩
    refine thenA_n ?_
    refine AWP.seq ?_
    refine AWP.region (fun _ => ?_)
    refine ARun.loadBoxA rfl rfl rfl rfl Tryd.underlying42 rfl sz42 (Ev.plain rfl) ((hG.at _ _).trans rfl) rfl rfl optN ?_
    refine ARun.move (.inl rfl) rfl rfl rfl (Ev.plain rfl) optN ?_
    refine ARun.call rfl rfl rfl rfl cf37 (Ev.plain rfl) (.cons (Ev.plain rfl) (.cons (Ev.plain rfl) .nil)) rfl (fun hg => readR_ref h hq k) optN ?_
    refine ARun.move (.inl rfl) rfl rfl rfl (Ev.plain rfl) optN ?_
    refine ARun.extract rfl rfl rfl rfl (Ev.plain rfl) rfl optN ?_
    refine ARun.extract rfl rfl rfl rfl (Ev.plain rfl) rfl optN ?_
    refine ARun.move (.inr rfl) rfl rfl rfl (Ev.plain rfl) optN ?_
    refine ARun.move (.inr rfl) rfl rfl rfl (Ev.plain rfl) optN ?_
    refine ⟨_, _, rfl, hG, ?_⟩
    refine thenA_n ?_
    refine AWP.seq ?_
    refine AWP.draw mixed (by kernel_rfl) (fun _ => ?_)
    refine ARun.move (.inl rfl) rfl rfl rfl (Ev.plain rfl) optN ?_
    refine ARun.move (.inl rfl) rfl rfl rfl (Ev.plain rfl) optN ?_
    refine ARun.cmpS rfl rfl rfl rfl (Ev.plain rfl) (Ev.plain rfl) rfl optN ?_
    refine ARun.move (.inl rfl) rfl rfl rfl (Ev.plain rfl) optN ?_
    refine ARun.move (.inl rfl) rfl rfl rfl (Ev.plain rfl) optS ?_
    refine ARun.call rfl rfl rfl rfl cf16 (Ev.plain rfl) (.cons (Ev.opt rfl (fun h => h)) .nil) rfl (fun hg => code_fn _) optS ?_
    refine ARun.move (.inl rfl) rfl rfl rfl (Ev.plain rfl) optS ?_
    refine ARun.cmp rfl rfl rfl rfl (Ev.opt rfl (fun h => h)) (Ev.opt rfl (fun h => h)) rfl optS ?_
    refine ARun.pick rfl rfl rfl rfl (Ev.plain rfl) (Ev.plain rfl) (Ev.opt rfl (by first | exact pkF | exact pkF2 | simp +contextual)) (orB _ _) optN ?_
    refine ARun.move (.inl rfl) rfl rfl rfl (Ev.plain rfl) optN ?_
    refine ARun.move (.inl rfl) rfl rfl rfl (Ev.plain rfl) optS ?_
    refine ARun.move (.inl rfl) rfl rfl rfl (Ev.plain rfl) optS ?_
    refine ARun.callR rfl rfl rfl rfl cf21 (Ev.plain rfl) (.cons (Ev.opt rfl (fun h => h)) (.cons (Ev.opt rfl (fun h => h)) .nil)) rfl (fun hg => FnM.keep (synced_fn d k) (atO hi)) optS ?_
    refine ARun.move (.inl rfl) rfl rfl rfl (Ev.plain rfl) optS ?_
    refine ARun.fieldBox (fo := 0) rfl rfl rfl rfl Tryd.underlying42 rfl rfl sz39 (by decide) (Ev.plain rfl) ((hG.at _ _).trans rfl) optS ?_
    refine ARun.indexBox (fo := 0 + k * 1) rfl rfl rfl rfl Tryd.underlying39 sz9 (Ev.opt rfl (fun h => h)) ((hG.at _ _).trans rfl) (Ev.opt rfl (fun h => h)) (j := k) (fun hg => by first | rfl | omega) (fun hg => by first | decide | omega) rfl optS ?_
    refine ARun.loadBox rfl rfl rfl rfl Tryd.underlying9 rfl (Ev.opt rfl (fun h => h)) ((hG.at _ _).trans rfl) (rd_s (refD d) k hk2) optS ?_
    refine ARun.lenStr rfl rfl rfl rfl Tryd.underlying9 (Ev.opt rfl (fun h => h)) optS ?_
    refine ARun.cmp rfl rfl rfl rfl (Ev.opt rfl (fun h => h)) (Ev.opt rfl (fun h => h)) rfl optS ?_
    refine ARun.pick rfl rfl rfl rfl (Ev.plain rfl) (Ev.plain rfl) (Ev.opt rfl (by first | exact pkF | exact pkF2 | simp +contextual)) (orB _ _) optN ?_
    refine ⟨by kernel_rfl, _, _, rfl, hG, ?_⟩
    refine thenA_n ?_
    refine AWP.cond rfl (fun h1 => ?_) (fun h1 => ?_)
    · skip
      simp [code_new, ref_safe h k hk2] at h1
    · skip
      try simp at h1
      refine AWP.skip ?_
      refine blockA_n ?_
      refine thenA_n ?_
      refine AWP.region (fun _ => ?_)
      refine ARun.move (.inl rfl) rfl rfl rfl (Ev.plain rfl) optN ?_
      first | refine ARun.arith rfl rfl rfl rfl (Ev.plain rfl) (Ev.plain rfl) rfl (fun hg => i64w (by (try simp at hg); omega)) optN ?_ | refine ARun.arith rfl rfl rfl rfl (Ev.plain rfl) (Ev.plain rfl) rfl (fun _ => rfl) optN ?_
      refine ARun.move (.inr rfl) rfl rfl rfl (Ev.plain rfl) optN ?_
      refine ⟨_, _, rfl, hG, ?_⟩
      refine thenA_n ⟨rfl, k + 1, _, ?_, ?_, rfl, ?_⟩
      · omega
      · repeat (first | exact .nil | refine .cons rfl ?_)
      · omega
  · skip
    try simp at h0
    refine AWP.exit ?_
    refine thenA_x ?_
    refine thenA_x ?_
    refine blockA_h ?_
    refine thenA_n ?_
    refine AWP.seq ?_
    refine AWP.draw mixed (by kernel_rfl) (fun _ => ?_)
    refine ARun.move (.inl rfl) rfl rfl rfl (Ev.plain rfl) optN ?_
    refine ARun.callR rfl rfl rfl rfl cf20 (Ev.plain rfl) (.cons (Ev.plain rfl) .nil) rfl (fun hg => FnM.keep (dead_fn d) (atO hi)) optN ?_
    refine ARun.fieldBox (fo := 9) rfl rfl rfl rfl Tryd.underlying42 rfl rfl sz4 (by decide) (Ev.plain rfl) ((hG.at _ _).trans rfl) optN ?_
    refine ARun.loadBox rfl rfl rfl rfl Tryd.underlying4 rfl (Ev.plain rfl) ((hG.at _ _).trans rfl) rfl optN ?_
    refine ARun.cmpB rfl rfl rfl rfl Tryd.underlying4 (Ev.plain rfl) (Ev.plain rfl) rfl optN ?_
    refine ARun.move (.inl rfl) rfl rfl rfl (Ev.plain rfl) optN ?_
    refine ARun.move (.inl rfl) rfl rfl rfl (Ev.plain rfl) optS ?_
    refine ARun.callR rfl rfl rfl rfl cf22 (Ev.plain rfl) (.cons (Ev.opt rfl (fun h => h)) .nil) rfl (fun hg => FnM.keep (ops_fn d) (atO hi)) optS ?_
    refine ARun.fieldBox (fo := 7) rfl rfl rfl rfl Tryd.underlying42 rfl rfl sz3 (by decide) (Ev.plain rfl) ((hG.at _ _).trans rfl) optS ?_
    refine ARun.loadBox rfl rfl rfl rfl Tryd.underlying3 rfl (Ev.opt rfl (fun h => h)) ((hG.at _ _).trans rfl) rfl optS ?_
    refine ARun.cmp rfl rfl rfl rfl (Ev.opt rfl (fun h => h)) (Ev.opt rfl (fun h => h)) rfl optS ?_
    refine ARun.pick rfl rfl rfl rfl (Ev.plain rfl) (Ev.opt rfl (by first | exact pkT | exact pkT2 | simp +contextual)) (Ev.plain rfl) (andB _ _) optN ?_
    refine ARun.move (.inr rfl) rfl rfl rfl (Ev.plain rfl) optN ?_
    refine ⟨by kernel_rfl, _, _, rfl, hG, ?_⟩
    refine thenA_n ?_
    refine AWP.ret ?_
    refine endF.toG (congrArg (fun c => H.set i (AO.box c)) rfl) ?_
    refine endF.one (.inr rfl) rfl (.tmp rfl) ?_ (by rw [List.length_set]; exact hN)
    have hp := h.pos
    simp [deadP, opsP, refD, show ¬ d.room ≤ 0 by omega, cAV]
def wA1 : Dk := (appendP (d0 100) 0 ⟨#[97, 98]⟩).1
def wA2 : Dk := (syncFP wA1 0).1
def wA3 : Dk := (appendP wA2 0 ⟨#[99, 100]⟩).1
def wA4 : Dk := (offP wA3).1
def wA5 : Dk := (bootP wA4 ⟨1, ⟨#[120, 121, 122]⟩, false⟩ ⟨0, ⟨#[]⟩, false⟩).1
theorem wOk0 : DOk (d0 100) := (d0_go 100 ⟨by decide, by decide⟩).ok
theorem wOk1 : DOk wA1 := ⟨by decide +kernel, by decide +kernel, by decide +kernel, by decide +kernel, by decide +kernel, by decide +kernel⟩
theorem wOk2 : DOk wA2 := ⟨by decide +kernel, by decide +kernel, by decide +kernel, by decide +kernel, by decide +kernel, by decide +kernel⟩
theorem wOk4 : DOk wA4 := ⟨by decide +kernel, by decide +kernel, by decide +kernel, by decide +kernel, by decide +kernel, by decide +kernel⟩
set_option maxHeartbeats 1000000 in
theorem awake_fn  : FnP Tryd.prog 7 [] (.bool true) := by
  refine FnP.of Tryd.func7 rfl rfl (by simp) (by simp [AV.cells, aDk, aRD, rdc, aCh]) (fun G hG => ?_)
  have hN : NoH G.length (.bool true) := (by simp [AV.cells, aDk, aRD, rdc, aCh])
  refine AWP.seq ?_
  refine AWP.region (fun _ => ?_)
  refine ARun.move (.inr rfl) rfl rfl rfl (Ev.plain rfl) optN ?_
  refine ⟨_, _, rfl, hG, ?_⟩
  refine thenA_n ?_
  refine AWP.seq ?_
  refine AWP.region (fun _ => ?_)
  refine ARun.callNewB (j := 0) hG rfl rfl rfl rfl rfl cf8 (Ev.plain rfl) (.cons (Ev.plain rfl) .nil) rfl (newd_fn 100 ⟨by decide, by decide⟩) optN ?_
  refine ARun.move (.inl rfl) rfl rfl rfl (Ev.plain rfl) optN ?_
  refine ARun.extract rfl rfl rfl rfl (Ev.plain rfl) rfl optN ?_
  refine ARun.extract rfl rfl rfl rfl (Ev.plain rfl) rfl optN ?_
  refine ARun.move (.inr rfl) rfl rfl rfl (Ev.plain rfl) optN ?_
  refine ARun.move (.inr rfl) rfl rfl rfl (Ev.plain rfl) optN ?_
  refine ⟨_, _, rfl, hG, ?_⟩
  refine thenA_n ?_
  refine AWP.seq ?_
  refine AWP.seq ?_
  refine AWP.region (fun _ => ?_)
  refine ARun.move (.inl rfl) rfl rfl rfl (Ev.plain rfl) optN ?_
  refine ARun.isNil rfl rfl rfl rfl Tryd.underlying27 (Ev.plain rfl) (fun hg => by first | rfl | exact nilA_aEr _) (.inr ⟨rfl, rfl⟩) optN ?_
  refine ARun.move (.inl rfl) rfl rfl rfl (Ev.plain rfl) optN ?_
  refine ARun.move (.inl rfl) rfl rfl rfl (Ev.plain rfl) optS ?_
  refine ARun.isNilBox rfl rfl rfl rfl Tryd.underlying25 (Ev.opt rfl (fun h => h)) ((hG.at _ _).trans rfl) (.inl ⟨rfl, rfl⟩) optS ?_
  refine ARun.pick rfl rfl rfl rfl (Ev.plain rfl) (Ev.plain rfl) (Ev.opt rfl (by first | exact pkF | exact pkF2 | simp +contextual)) (orB _ _) optN ?_
  refine ⟨_, _, rfl, hG, ?_⟩
  refine thenA_n ?_
  refine AWP.cond rfl (fun h0 => ?_) (fun h0 => ?_)
  · skip
    simp at h0
  · skip
    skip
    refine AWP.skip ?_
    refine thenA_n ?_
    refine AWP.seq ?_
    refine AWP.region (fun _ => ?_)
    refine ARun.move (.inl rfl) rfl rfl rfl (Ev.plain rfl) optN ?_
    refine ARun.callSet (j := 0) hG rfl rfl rfl rfl cf9 (Ev.plain rfl) (.cons (Ev.plain rfl) (.cons (Ev.plain rfl) (.cons (Ev.plain rfl) .nil))) rfl (append_fn (d0 100) 0 ⟨#[97, 98]⟩ wOk0 _ _ ((hG.at _ _).trans rfl)) rfl optN ?_
    refine ARun.move (.inl rfl) rfl rfl rfl (Ev.plain rfl) optN ?_
    refine ARun.callSet (j := 0) hG rfl rfl rfl rfl cf10 (Ev.plain rfl) (.cons (Ev.plain rfl) (.cons (Ev.plain rfl) .nil)) rfl (syncF_fn wA1 0 wOk1 _ _ ((hG.at _ _).trans rfl)) rfl optN ?_
    refine ARun.move (.inl rfl) rfl rfl rfl (Ev.plain rfl) optN ?_
    refine ARun.callSet (j := 0) hG rfl rfl rfl rfl cf9 (Ev.plain rfl) (.cons (Ev.plain rfl) (.cons (Ev.plain rfl) (.cons (Ev.plain rfl) .nil))) rfl (append_fn wA2 0 ⟨#[99, 100]⟩ wOk2 _ _ ((hG.at _ _).trans rfl)) rfl optN ?_
    refine ARun.move (.inr rfl) rfl rfl rfl (Ev.plain rfl) optN ?_
    refine ARun.move (.inr rfl) rfl rfl rfl (Ev.plain rfl) optN ?_
    refine ARun.move (.inr rfl) rfl rfl rfl (Ev.plain rfl) optN ?_
    refine ⟨_, _, rfl, hG, ?_⟩
    refine thenA_n ?_
    refine AWP.seq ?_
    refine AWP.region (fun _ => ?_)
    refine ARun.move (.inl rfl) rfl rfl rfl (Ev.plain rfl) optN ?_
    refine ARun.callR rfl rfl rfl rfl cf21 (Ev.plain rfl) (.cons (Ev.plain rfl) (.cons (Ev.plain rfl) .nil)) rfl (fun hg => FnM.keep (synced_fn wA3 0) ((hG.at _ _).trans rfl)) optN ?_
    refine ARun.move (.inr rfl) rfl rfl rfl (Ev.plain rfl) optN ?_
    refine ⟨_, _, rfl, hG, ?_⟩
    refine thenA_n ?_
    refine AWP.seq ?_
    refine AWP.region (fun _ => ?_)
    refine ARun.move (.inl rfl) rfl rfl rfl (Ev.plain rfl) optN ?_
    refine ARun.callSet (j := 0) hG rfl rfl rfl rfl cf11 (Ev.plain rfl) (.cons (Ev.plain rfl) .nil) rfl (off_fn wA3 _ _ ((hG.at _ _).trans rfl)) rfl optN ?_
    refine ARun.move (.inr rfl) rfl rfl rfl (Ev.plain rfl) optN ?_
    refine ⟨_, _, rfl, hG, ?_⟩
    refine thenA_n ?_
    refine AWP.seq ?_
    refine AWP.region (fun _ => ?_)
    refine ARun.move (.inl rfl) rfl rfl rfl (Ev.plain rfl) optN ?_
    refine ARun.callR rfl rfl rfl rfl cf13 (Ev.plain rfl) (.cons (Ev.plain rfl) (.cons (Ev.plain rfl) .nil)) rfl (fun hg => FnM.keep (read_fn wA4 0) ((hG.at _ _).trans rfl)) optN ?_
    refine ARun.move (.inl rfl) rfl rfl rfl (Ev.plain rfl) optN ?_
    refine ARun.extract rfl rfl rfl rfl (Ev.plain rfl) rfl optN ?_
    refine ARun.extract rfl rfl rfl rfl (Ev.plain rfl) rfl optN ?_
    refine ARun.move (.inr rfl) rfl rfl rfl (Ev.plain rfl) optN ?_
    refine ARun.move (.inr rfl) rfl rfl rfl (Ev.plain rfl) optN ?_
    refine ⟨_, _, rfl, hG, ?_⟩
    refine thenA_n ?_
    refine AWP.seq ?_
    refine AWP.region (fun _ => ?_)
    refine ARun.move (.inl rfl) rfl rfl rfl (Ev.plain rfl) optN ?_
    refine ARun.build rfl rfl rfl rfl so23 (.cons (Ev.plain rfl) (.cons (Ev.plain rfl) .nil)) rfl rfl optN ?_
    refine ARun.build rfl rfl rfl rfl so23 .nil rfl rfl optN ?_
    refine ARun.callSet (j := 0) hG rfl rfl rfl rfl cf12 (Ev.plain rfl) (.cons (Ev.plain rfl) (.cons (Ev.plain rfl) (.cons (Ev.plain rfl) .nil))) rfl (boot_fn wA4 ⟨1, ⟨#[120, 121, 122]⟩, false⟩ ⟨0, ⟨#[]⟩, false⟩ wOk4 (by decide) (by decide) _ _ ((hG.at _ _).trans rfl)) rfl optN ?_
    refine ARun.move (.inr rfl) rfl rfl rfl (Ev.plain rfl) optN ?_
    refine ⟨_, _, rfl, hG, ?_⟩
    refine thenA_n ?_
    refine AWP.seq ?_
    refine AWP.region (fun _ => ?_)
    refine ARun.move (.inl rfl) rfl rfl rfl (Ev.plain rfl) optN ?_
    refine ARun.callR rfl rfl rfl rfl cf13 (Ev.plain rfl) (.cons (Ev.plain rfl) (.cons (Ev.plain rfl) .nil)) rfl (fun hg => FnM.keep (read_fn wA5 0) ((hG.at _ _).trans rfl)) optN ?_
    refine ARun.move (.inl rfl) rfl rfl rfl (Ev.plain rfl) optN ?_
    refine ARun.extract rfl rfl rfl rfl (Ev.plain rfl) rfl optN ?_
    refine ARun.extract rfl rfl rfl rfl (Ev.plain rfl) rfl optN ?_
    refine ARun.move (.inr rfl) rfl rfl rfl (Ev.plain rfl) optN ?_
    refine ARun.move (.inr rfl) rfl rfl rfl (Ev.plain rfl) optN ?_
    refine ⟨_, _, rfl, hG, ?_⟩
    refine thenA_n ?_
    refine AWP.seq ?_
    refine AWP.region (fun _ => ?_)
    refine ARun.call rfl rfl rfl rfl cf8 (Ev.plain rfl) (.cons (Ev.plain rfl) .nil) rfl (fun hg => newd_bad 0 (by decide)) optN ?_
    refine ARun.move (.inl rfl) rfl rfl rfl (Ev.plain rfl) optN ?_
    refine ARun.extract rfl rfl rfl rfl (Ev.plain rfl) rfl optN ?_
    refine ARun.extract rfl rfl rfl rfl (Ev.plain rfl) rfl optN ?_
    refine ARun.move (.inr rfl) rfl rfl rfl (Ev.plain rfl) optN ?_
    refine ARun.move (.inr rfl) rfl rfl rfl (Ev.plain rfl) optN ?_
    refine ⟨_, _, rfl, hG, ?_⟩
    refine thenA_n ?_
    refine AWP.seq ?_
    refine AWP.region (fun _ => ?_)
    refine ARun.move (.inr rfl) rfl rfl rfl (Ev.plain rfl) optN ?_
    refine ⟨_, _, rfl, hG, ?_⟩
    refine thenA_n ?_
    refine AWP.seq ?_
    refine AWP.region (fun _ => ?_)
    refine ARun.move (.inl rfl) rfl rfl rfl (Ev.plain rfl) optN ?_
    refine ARun.isNil rfl rfl rfl rfl Tryd.underlying27 (Ev.plain rfl) (fun hg => by first | rfl | exact nilA_aEr _) (.inl ⟨rfl, rfl⟩) optN ?_
    refine ARun.move (.inl rfl) rfl rfl rfl (Ev.plain rfl) optN ?_
    refine ARun.move (.inl rfl) rfl rfl rfl (Ev.plain rfl) optS ?_
    refine ARun.isNil rfl rfl rfl rfl Tryd.underlying27 (Ev.opt rfl (fun h => h)) (fun hg => by first | rfl | exact nilA_aEr _) (.inl ⟨rfl, rfl⟩) optS ?_
    refine ARun.pick rfl rfl rfl rfl (Ev.plain rfl) (Ev.opt rfl (by first | exact pkT | exact pkT2 | simp +contextual)) (Ev.plain rfl) (andB _ _) optN ?_
    refine ARun.move (.inl rfl) rfl rfl rfl (Ev.plain rfl) optN ?_
    refine ARun.move (.inl rfl) rfl rfl rfl (Ev.plain rfl) optS ?_
    refine ARun.isNil rfl rfl rfl rfl Tryd.underlying27 (Ev.opt rfl (fun h => h)) (fun hg => by first | rfl | exact nilA_aEr _) (.inl ⟨rfl, rfl⟩) optS ?_
    refine ARun.pick rfl rfl rfl rfl (Ev.plain rfl) (Ev.opt rfl (by first | exact pkT | exact pkT2 | simp +contextual)) (Ev.plain rfl) (andB _ _) optN ?_
    refine ARun.move (.inl rfl) rfl rfl rfl (Ev.plain rfl) optN ?_
    refine ARun.move (.inl rfl) rfl rfl rfl (Ev.plain rfl) optS ?_
    refine ARun.cmp rfl rfl rfl rfl (Ev.opt rfl (fun h => h)) (Ev.plain rfl) rfl optS ?_
    refine ARun.pick rfl rfl rfl rfl (Ev.plain rfl) (Ev.opt rfl (by first | exact pkT | exact pkT2 | simp +contextual)) (Ev.plain rfl) (andB _ _) optN ?_
    refine ARun.move (.inl rfl) rfl rfl rfl (Ev.plain rfl) optN ?_
    refine ARun.move (.inl rfl) rfl rfl rfl (Ev.plain rfl) optS ?_
    refine ARun.isNil rfl rfl rfl rfl Tryd.underlying27 (Ev.opt rfl (fun h => h)) (fun hg => by first | rfl | exact nilA_aEr _) (.inl ⟨rfl, rfl⟩) optS ?_
    refine ARun.pick rfl rfl rfl rfl (Ev.plain rfl) (Ev.opt rfl (by first | exact pkT | exact pkT2 | simp +contextual)) (Ev.plain rfl) (andB _ _) optN ?_
    refine ARun.move (.inl rfl) rfl rfl rfl (Ev.plain rfl) optN ?_
    refine ARun.move (.inl rfl) rfl rfl rfl (Ev.plain rfl) optS ?_
    refine ARun.call rfl rfl rfl rfl cf16 (Ev.plain rfl) (.cons (Ev.opt rfl (fun h => h)) .nil) rfl (fun hg => code_fn _) optS ?_
    refine ARun.cmp rfl rfl rfl rfl (Ev.opt rfl (fun h => h)) (Ev.plain rfl) rfl optS ?_
    refine ARun.pick rfl rfl rfl rfl (Ev.plain rfl) (Ev.opt rfl (by first | exact pkT | exact pkT2 | simp +contextual)) (Ev.plain rfl) (andB _ _) optN ?_
    refine ARun.move (.inl rfl) rfl rfl rfl (Ev.plain rfl) optN ?_
    refine ARun.move (.inl rfl) rfl rfl rfl (Ev.plain rfl) optS ?_
    refine ARun.isNil rfl rfl rfl rfl Tryd.underlying27 (Ev.opt rfl (fun h => h)) (fun hg => by first | rfl | exact nilA_aEr _) (.inl ⟨rfl, rfl⟩) optS ?_
    refine ARun.pick rfl rfl rfl rfl (Ev.plain rfl) (Ev.opt rfl (by first | exact pkT | exact pkT2 | simp +contextual)) (Ev.plain rfl) (andB _ _) optN ?_
    refine ARun.move (.inl rfl) rfl rfl rfl (Ev.plain rfl) optN ?_
    refine ARun.move (.inl rfl) rfl rfl rfl (Ev.plain rfl) optS ?_
    refine ARun.cmpS rfl rfl rfl rfl (Ev.opt rfl (fun h => h)) (Ev.plain rfl) rfl optS ?_
    refine ARun.pick rfl rfl rfl rfl (Ev.plain rfl) (Ev.opt rfl (by first | exact pkT | exact pkT2 | simp +contextual)) (Ev.plain rfl) (andB _ _) optN ?_
    refine ARun.move (.inl rfl) rfl rfl rfl (Ev.plain rfl) optN ?_
    refine ARun.move (.inl rfl) rfl rfl rfl (Ev.plain rfl) optS ?_
    refine ARun.isNil rfl rfl rfl rfl Tryd.underlying27 (Ev.opt rfl (fun h => h)) (fun hg => by first | rfl | exact nilA_aEr _) (.inl ⟨rfl, rfl⟩) optS ?_
    refine ARun.pick rfl rfl rfl rfl (Ev.plain rfl) (Ev.opt rfl (by first | exact pkT | exact pkT2 | simp +contextual)) (Ev.plain rfl) (andB _ _) optN ?_
    refine ARun.move (.inl rfl) rfl rfl rfl (Ev.plain rfl) optN ?_
    refine ARun.move (.inl rfl) rfl rfl rfl (Ev.plain rfl) optS ?_
    refine ARun.callR rfl rfl rfl rfl cf21 (Ev.plain rfl) (.cons (Ev.opt rfl (fun h => h)) (.cons (Ev.plain rfl) .nil)) rfl (fun hg => FnM.keep (synced_fn wA5 0) ((hG.at _ _).trans rfl)) optS ?_
    refine ARun.cmp rfl rfl rfl rfl (Ev.opt rfl (fun h => h)) (Ev.plain rfl) rfl optS ?_
    refine ARun.pick rfl rfl rfl rfl (Ev.plain rfl) (Ev.opt rfl (by first | exact pkT | exact pkT2 | simp +contextual)) (Ev.plain rfl) (andB _ _) optN ?_
    refine ARun.move (.inl rfl) rfl rfl rfl (Ev.plain rfl) optN ?_
    refine ARun.move (.inl rfl) rfl rfl rfl (Ev.plain rfl) optS ?_
    refine ARun.callR rfl rfl rfl rfl cf22 (Ev.plain rfl) (.cons (Ev.opt rfl (fun h => h)) .nil) rfl (fun hg => FnM.keep (ops_fn wA5) ((hG.at _ _).trans rfl)) optS ?_
    refine ARun.cmp rfl rfl rfl rfl (Ev.opt rfl (fun h => h)) (Ev.plain rfl) rfl optS ?_
    refine ARun.pick rfl rfl rfl rfl (Ev.plain rfl) (Ev.opt rfl (by first | exact pkT | exact pkT2 | simp +contextual)) (Ev.plain rfl) (andB _ _) optN ?_
    refine ARun.move (.inl rfl) rfl rfl rfl (Ev.plain rfl) optN ?_
    refine ARun.move (.inl rfl) rfl rfl rfl (Ev.plain rfl) optS ?_
    refine ARun.callR rfl rfl rfl rfl cf20 (Ev.plain rfl) (.cons (Ev.opt rfl (fun h => h)) .nil) rfl (fun hg => FnM.keep (dead_fn wA5) ((hG.at _ _).trans rfl)) optS ?_
    refine ARun.not rfl rfl rfl rfl (Ev.opt rfl (fun h => h)) optS ?_
    refine ARun.pick rfl rfl rfl rfl (Ev.plain rfl) (Ev.opt rfl (by first | exact pkT | exact pkT2 | simp +contextual)) (Ev.plain rfl) (andB _ _) optN ?_
    refine ARun.move (.inl rfl) rfl rfl rfl (Ev.plain rfl) optN ?_
    refine ARun.move (.inl rfl) rfl rfl rfl (Ev.plain rfl) optS ?_
    refine ARun.call rfl rfl rfl rfl cf16 (Ev.plain rfl) (.cons (Ev.opt rfl (fun h => h)) .nil) rfl (fun hg => code_fn _) optS ?_
    refine ARun.cmp rfl rfl rfl rfl (Ev.opt rfl (fun h => h)) (Ev.plain rfl) rfl optS ?_
    refine ARun.pick rfl rfl rfl rfl (Ev.plain rfl) (Ev.opt rfl (by first | exact pkT | exact pkT2 | simp +contextual)) (Ev.plain rfl) (andB _ _) optN ?_
    refine ARun.move (.inl rfl) rfl rfl rfl (Ev.plain rfl) optN ?_
    refine ARun.move (.inl rfl) rfl rfl rfl (Ev.plain rfl) optS ?_
    refine ARun.call rfl rfl rfl rfl cf20 (Ev.plain rfl) (.cons (Ev.opt rfl (fun h => h)) .nil) rfl (fun hg => dead_nil) optS ?_
    refine ARun.pick rfl rfl rfl rfl (Ev.plain rfl) (Ev.opt rfl (by first | exact pkT | exact pkT2 | simp +contextual)) (Ev.plain rfl) (andB _ _) optN ?_
    refine ARun.move (.inl rfl) rfl rfl rfl (Ev.plain rfl) optN ?_
    refine ARun.move (.inl rfl) rfl rfl rfl (Ev.plain rfl) optS ?_
    refine ARun.call rfl rfl rfl rfl cf10 (Ev.plain rfl) (.cons (Ev.opt rfl (fun h => h)) (.cons (Ev.plain rfl) .nil)) rfl (fun hg => sync_nil 0) optS ?_
    refine ARun.call rfl rfl rfl rfl cf16 (Ev.plain rfl) (.cons (Ev.opt rfl (fun h => h)) .nil) rfl (fun hg => code_fn _) optS ?_
    refine ARun.cmp rfl rfl rfl rfl (Ev.opt rfl (fun h => h)) (Ev.plain rfl) rfl optS ?_
    refine ARun.pick rfl rfl rfl rfl (Ev.plain rfl) (Ev.opt rfl (by first | exact pkT | exact pkT2 | simp +contextual)) (Ev.plain rfl) (andB _ _) optN ?_
    refine ARun.move (.inr rfl) rfl rfl rfl (Ev.plain rfl) optN ?_
    refine ⟨_, _, rfl, hG, ?_⟩
    refine thenA_n ?_
    refine AWP.ret ?_
    refine endF.one (.inr rfl) rfl (.tmp rfl) ?_ hN
    refine congrArg AV.bool ?_
    decide +kernel
end Go.Proofs.YtfjmmebjfllciaaDoor
