/- Package disk. -/
import Derived.Test.YtfjmmebjfllciaaDoorAmErrF
import Derived.Test.YtfjmmebjfllciaaDoorDiskPlain
namespace Go.Proofs.YtfjmmebjfllciaaDoor
set_option linter.unusedVariables false
set_option linter.unusedSimpArgs false
open Go.RowKit
set_option maxRecDepth 100000
set_option maxHeartbeats 1000000 in
theorem told_fn (c : Int) : FnP Tryd.prog 23 [.int .i64 c] (aEr (Er.new ⟨#[100, 105, 115, 107]⟩ c)) := by
  refine FnP.of Tryd.func23 rfl rfl (by simp) (by simp [AV.cells, aDk, aRD, rdc, aCh]) (fun G hG => ?_)
  have hN : NoH G.length (aEr (Er.new ⟨#[100, 105, 115, 107]⟩ c)) := (by simp [AV.cells, aDk, aRD, rdc, aCh])
  refine AWP.seq ?_
  refine AWP.region (fun _ => ?_)
  refine ARun.move (.inr rfl) rfl rfl rfl (Ev.plain rfl) optN ?_
  refine ⟨_, _, rfl, hG, ?_⟩
  refine thenA_n ?_
  refine AWP.seq ?_
  refine AWP.region (fun _ => ?_)
  refine ARun.move (.inl rfl) rfl rfl rfl (Ev.plain rfl) optN ?_
  refine ARun.call rfl rfl rfl rfl cf42 (Ev.plain rfl) (.cons (Ev.plain rfl) (.cons (Ev.plain rfl) .nil)) rfl (fun hg => new_fn ⟨#[100, 105, 115, 107]⟩ c) optN ?_
  refine ARun.move (.inr rfl) rfl rfl rfl (Ev.plain rfl) optN ?_
  refine ⟨_, _, rfl, hG, ?_⟩
  refine thenA_n ?_
  refine AWP.ret ?_
  refine endF.one (.inr rfl) rfl (.tmp rfl) ?_ hN
  rfl
set_option maxHeartbeats 1000000 in
theorem made_fn (d : Dk) : FnM Tryd.prog 29 (fun i => [.box i 0]) (aDk d) (.bool (madeP d)) (aDk d) := by
  refine FnM.of Tryd.func29 rfl rfl (fun i => by simp) (fun H i m hHm hi hG => ?_)
  have hN : NoH H.length (.bool (madeP d)) := (by simp [AV.cells, aDk, aRD, rdc, aCh])
  refine AWP.seq ?_
  refine AWP.region (fun _ => ?_)
  refine ARun.move (.inr rfl) rfl rfl rfl (Ev.plain rfl) optN ?_
  refine ⟨_, _, rfl, hG, ?_⟩
  refine thenA_n ?_
  refine AWP.seq ?_
  refine AWP.region (fun _ => ?_)
  refine ARun.move (.inl rfl) rfl rfl rfl (Ev.plain rfl) optN ?_
  refine ARun.isNilBox rfl rfl rfl rfl Tryd.underlying25 (Ev.plain rfl) (atO hi) (.inr ⟨rfl, rfl⟩) optN ?_
  refine ARun.move (.inl rfl) rfl rfl rfl (Ev.plain rfl) optN ?_
  refine ARun.move (.inl rfl) rfl rfl rfl (Ev.plain rfl) optS ?_
  first | refine ARun.nilPe rfl rfl rfl rfl (Ev.opt rfl (fun h => h)) optS ?_ | refine ARun.nilFn rfl rfl rfl rfl (Ev.opt rfl (fun h => h)) optS ?_ | refine ARun.nilBox rfl rfl rfl rfl (Ev.opt rfl (fun h => h)) (atO hi) optS ?_
  refine ARun.fieldBox (fo := 6) rfl rfl rfl rfl Tryd.underlying62 rfl rfl sz3 (by decide) (Ev.opt rfl (fun h => h)) (atO hi) optS ?_
  refine ARun.loadBox rfl rfl rfl rfl Tryd.underlying3 rfl (Ev.opt rfl (fun h => h)) (atO hi) rfl optS ?_
  refine ARun.cmp rfl rfl rfl rfl (Ev.opt rfl (fun h => h)) (Ev.plain rfl) rfl optS ?_
  refine ARun.pick rfl rfl rfl rfl (Ev.plain rfl) (Ev.opt rfl (by first | exact pkT | exact pkT2 | simp +contextual)) (Ev.plain rfl) (andB _ _) optN ?_
  refine ARun.move (.inr rfl) rfl rfl rfl (Ev.plain rfl) optN ?_
  refine ⟨_, _, rfl, hG, ?_⟩
  refine thenA_n ?_
  refine AWP.ret ?_
  refine endF.toG (congrArg (fun c => H.set i (AO.box c)) rfl) ?_
  refine endF.one (.inr rfl) rfl (.tmp rfl) ?_ (by rw [List.length_set]; exact hN)
  simp [madeP]
set_option maxHeartbeats 1000000 in
theorem made_nil  : FnP Tryd.prog 29 [.raw (.pointer none)] (.bool false) := by
  refine FnP.of Tryd.func29 rfl rfl (by simp) (by simp [AV.cells, aDk, aRD, rdc, aCh]) (fun G hG => ?_)
  have hN : NoH G.length (.bool false) := (by simp [AV.cells, aDk, aRD, rdc, aCh])
  refine AWP.seq ?_
  refine AWP.region (fun _ => ?_)
  refine ARun.move (.inr rfl) rfl rfl rfl (Ev.plain rfl) optN ?_
  refine ⟨_, _, rfl, hG, ?_⟩
  refine thenA_n ?_
  refine AWP.seq ?_
  refine AWP.region (fun _ => ?_)
  refine ARun.move (.inl rfl) rfl rfl rfl (Ev.plain rfl) optN ?_
  refine ARun.isNilP rfl rfl rfl rfl Tryd.underlying25 (Ev.plain rfl) (fun hg => by first | rfl | exact nilP_aFl _) (.inr ⟨rfl, rfl⟩) optN ?_
  refine ARun.move (.inl rfl) rfl rfl rfl (Ev.plain rfl) optN ?_
  refine ARun.move (.inl rfl) rfl rfl rfl (Ev.plain rfl) optS ?_
  refine ARun.dead (X := .bool false) rfl rfl rfl rfl ?_
  refine ARun.dead (X := .bool false) rfl rfl rfl rfl ?_
  refine ARun.dead (X := .bool false) rfl rfl rfl rfl ?_
  refine ARun.dead (X := .bool false) rfl rfl rfl rfl ?_
  refine ARun.pick rfl rfl rfl rfl (Ev.plain rfl) (Ev.opt rfl (by first | exact pkT | exact pkT2 | simp +contextual)) (Ev.plain rfl) (andB _ _) optN ?_
  refine ARun.move (.inr rfl) rfl rfl rfl (Ev.plain rfl) optN ?_
  refine ⟨_, _, rfl, hG, ?_⟩
  refine thenA_n ?_
  refine AWP.ret ?_
  refine endF.one (.inr rfl) rfl (.tmp rfl) ?_ hN
  rfl
set_option maxHeartbeats 1000000 in
theorem up_fn (d : Dk) (a : Int) : FnM Tryd.prog 24 (fun i => [.box i 0, .int .i64 a]) (aDk d) (.int .i64 (upP d a)) (aDk d) := by
  refine FnM.of Tryd.func24 rfl rfl (fun i => by simp) (fun H i m hHm hi hG => ?_)
  have hN : NoH H.length (.int .i64 (upP d a)) := (by simp [AV.cells, aDk, aRD, rdc, aCh])
  refine AWP.seq ?_
  refine AWP.region (fun _ => ?_)
  refine ARun.move (.inr rfl) rfl rfl rfl (Ev.plain rfl) optN ?_
  refine ⟨_, _, rfl, hG, ?_⟩
  refine thenA_n ?_
  refine AWP.seq ?_
  refine AWP.block ?_
  refine AWP.seq ?_
  refine AWP.region (fun _ => ?_)
  refine ARun.move (.inl rfl) rfl rfl rfl (Ev.plain rfl) optN ?_
  refine ARun.callR rfl rfl rfl rfl cf29 (Ev.plain rfl) (.cons (Ev.plain rfl) .nil) rfl (fun hg => FnM.keep (made_fn d) (atO hi)) optN ?_
  refine ARun.not rfl rfl rfl rfl (Ev.plain rfl) optN ?_
  refine ARun.move (.inr rfl) rfl rfl rfl (Ev.plain rfl) optN ?_
  refine ⟨_, _, rfl, hG, ?_⟩
  refine thenA_n ?_
  refine AWP.cond rfl (fun h0 => ?_) (fun h0 => ?_)
  · skip
    try simp [madeP] at h0
    refine AWP.seq ?_
    refine AWP.region (fun _ => ?_)
    refine ARun.move (.inr rfl) rfl rfl rfl (Ev.plain rfl) optN ?_
    refine ⟨_, _, rfl, hG, ?_⟩
    refine thenA_n ?_
    refine AWP.ret ?_
    refine blockA_r ?_
    refine thenA_r ?_
    refine endF.toG (congrArg (fun c => H.set i (AO.box c)) rfl) ?_
    refine endF.one (.inr rfl) rfl (.tmp rfl) ?_ (by rw [List.length_set]; exact hN)
    rw [upP, if_pos h0]; rfl
  · skip
    try simp [madeP] at h0
    refine AWP.seq ?_
    refine AWP.region (fun _ => ?_)
    refine ARun.move (.inl rfl) rfl rfl rfl (Ev.plain rfl) optN ?_
    first | refine ARun.nilPe rfl rfl rfl rfl (Ev.plain rfl) optN ?_ | refine ARun.nilFn rfl rfl rfl rfl (Ev.plain rfl) optN ?_ | refine ARun.nilBox rfl rfl rfl rfl (Ev.plain rfl) (atO hi) optN ?_
    refine ARun.fieldBox (fo := 9) rfl rfl rfl rfl Tryd.underlying62 rfl rfl sz4 (by decide) (Ev.plain rfl) (atO hi) optN ?_
    refine ARun.loadBox rfl rfl rfl rfl Tryd.underlying4 rfl (Ev.plain rfl) (atO hi) rfl optN ?_
    refine ARun.move (.inr rfl) rfl rfl rfl (Ev.plain rfl) optN ?_
    refine ⟨_, _, rfl, hG, ?_⟩
    refine thenA_n ?_
    refine AWP.cond rfl (fun h1 => ?_) (fun h1 => ?_)
    · skip
      try simp [madeP] at h1
      refine AWP.seq ?_
      refine AWP.region (fun _ => ?_)
      refine ARun.move (.inr rfl) rfl rfl rfl (Ev.plain rfl) optN ?_
      refine ⟨_, _, rfl, hG, ?_⟩
      refine thenA_n ?_
      refine AWP.ret ?_
      refine blockA_r ?_
      refine thenA_r ?_
      refine endF.toG (congrArg (fun c => H.set i (AO.box c)) rfl) ?_
      refine endF.one (.inr rfl) rfl (.tmp rfl) ?_ (by rw [List.length_set]; exact hN)
      rw [upP, if_neg (by omega), if_pos h1]; rfl
    · skip
      try simp [madeP] at h1
      refine AWP.seq ?_
      refine AWP.region (fun _ => ?_)
      refine ARun.move (.inl rfl) rfl rfl rfl (Ev.plain rfl) optN ?_
      refine ARun.cmp rfl rfl rfl rfl (Ev.plain rfl) (Ev.plain rfl) rfl optN ?_
      refine ARun.move (.inl rfl) rfl rfl rfl (Ev.plain rfl) optN ?_
      refine ARun.move (.inl rfl) rfl rfl rfl (Ev.plain rfl) optS ?_
      refine ARun.cmp rfl rfl rfl rfl (Ev.opt rfl (fun h => h)) (Ev.plain rfl) rfl optS ?_
      refine ARun.pick rfl rfl rfl rfl (Ev.plain rfl) (Ev.plain rfl) (Ev.opt rfl (by first | exact pkF | exact pkF2 | simp +contextual)) (orB _ _) optN ?_
      refine ARun.move (.inr rfl) rfl rfl rfl (Ev.plain rfl) optN ?_
      refine ⟨_, _, rfl, hG, ?_⟩
      refine thenA_n ?_
      refine AWP.cond rfl (fun h2 => ?_) (fun h2 => ?_)
      · skip
        try simp [madeP] at h2
        refine AWP.seq ?_
        refine AWP.region (fun _ => ?_)
        refine ARun.move (.inr rfl) rfl rfl rfl (Ev.plain rfl) optN ?_
        refine ⟨_, _, rfl, hG, ?_⟩
        refine thenA_n ?_
        refine AWP.ret ?_
        refine blockA_r ?_
        refine thenA_r ?_
        refine endF.toG (congrArg (fun c => H.set i (AO.box c)) rfl) ?_
        refine endF.one (.inr rfl) rfl (.tmp rfl) ?_ (by rw [List.length_set]; exact hN)
        rw [upP, if_neg (by omega), if_neg (by simp [h1]), if_pos h2]; rfl
      · skip
        try simp [madeP] at h2
        refine AWP.skip ?_
        refine blockA_n ?_
        refine thenA_n ?_
        refine AWP.seq ?_
        refine AWP.region (fun _ => ?_)
        refine ARun.move (.inr rfl) rfl rfl rfl (Ev.plain rfl) optN ?_
        refine ⟨_, _, rfl, hG, ?_⟩
        refine thenA_n ?_
        refine AWP.ret ?_
        refine endF.toG (congrArg (fun c => H.set i (AO.box c)) rfl) ?_
        refine endF.one (.inr rfl) rfl (.tmp rfl) ?_ (by rw [List.length_set]; exact hN)
        rw [upP, if_neg (by omega), if_neg (by simp [h1]), if_neg (by omega)]; rfl
set_option maxHeartbeats 1000000 in
theorem up_nil (a : Int) : FnP Tryd.prog 24 [.raw (.pointer none), .int .i64 a] (.int .i64 1) := by
  refine FnP.of Tryd.func24 rfl rfl (by simp) (by simp [AV.cells, aDk, aRD, rdc, aCh]) (fun G hG => ?_)
  have hN : NoH G.length (.int .i64 1) := (by simp [AV.cells, aDk, aRD, rdc, aCh])
  refine AWP.seq ?_
  refine AWP.region (fun _ => ?_)
  refine ARun.move (.inr rfl) rfl rfl rfl (Ev.plain rfl) optN ?_
  refine ⟨_, _, rfl, hG, ?_⟩
  refine thenA_n ?_
  refine AWP.seq ?_
  refine AWP.block ?_
  refine AWP.seq ?_
  refine AWP.region (fun _ => ?_)
  refine ARun.move (.inl rfl) rfl rfl rfl (Ev.plain rfl) optN ?_
  refine ARun.call rfl rfl rfl rfl cf29 (Ev.plain rfl) (.cons (Ev.plain rfl) .nil) rfl (fun hg => made_nil) optN ?_
  refine ARun.not rfl rfl rfl rfl (Ev.plain rfl) optN ?_
  refine ARun.move (.inr rfl) rfl rfl rfl (Ev.plain rfl) optN ?_
  refine ⟨_, _, rfl, hG, ?_⟩
  refine thenA_n ?_
  refine AWP.cond rfl (fun h0 => ?_) (fun h0 => ?_)
  · skip
    refine AWP.seq ?_
    refine AWP.region (fun _ => ?_)
    refine ARun.move (.inr rfl) rfl rfl rfl (Ev.plain rfl) optN ?_
    refine ⟨_, _, rfl, hG, ?_⟩
    refine thenA_n ?_
    refine AWP.ret ?_
    refine blockA_r ?_
    refine thenA_r ?_
    refine endF.one (.inr rfl) rfl (.tmp rfl) ?_ hN
    rfl
  · skip
    simp at h0

theorem op1_def (d : Dk) (H : List AO) (i : Nat) (L0 : List AO) (hi0 : i < H.length) : FnDef Tryd.prog 43 [.pe [.box i 0]] (H.set i (.box (aDk d)) ++ L0) (H.set i (.box (aDk (opUp d))) ++ L0) := by
  have key : ∀ (H : List AO) (i : Nat), i < H.length → FnDef Tryd.prog 43 [.pe [.box i 0]] (H.set i (.box (aDk d))) (H.set i (.box (aDk (opUp d)))) := by
    intro H i hi
    refine FnDef.of (r := .tup []) Tryd.func43 rfl rfl (by simp) (fun hG0 => ?_)
    have hN : NoH H.length (.tup []) := by simp
    have hG : GOK H.length (H.set i (.box (aDk d))) := by simpa using hG0
    have em : (H.set i (.box (aDk d))).length = H.length := List.length_set
    rw [em]
    refine AWP.region (fun _ => ?_)
    first | refine ARun.loadPe rfl rfl rfl rfl Tryd.underlying25 rfl (Ev.plain rfl) rfl optN ?_ | refine ARun.loadBox rfl rfl rfl rfl Tryd.underlying25 rfl (Ev.plain rfl) ((hG.at _ _).trans rfl) rfl optN ?_
    first | refine ARun.nilPe rfl rfl rfl rfl (Ev.plain rfl) optN ?_ | refine ARun.nilFn rfl rfl rfl rfl (Ev.plain rfl) optN ?_ | refine ARun.nilBox rfl rfl rfl rfl (Ev.plain rfl) (atO hi) optN ?_
    refine ARun.fieldBox (fo := 7) rfl rfl rfl rfl Tryd.underlying62 rfl rfl sz3 (by decide) (Ev.plain rfl) (atO hi) optN ?_
    refine ARun.loadBox rfl rfl rfl rfl Tryd.underlying3 rfl (Ev.plain rfl) (atO hi) rfl optN ?_
    first | refine ARun.arith rfl rfl rfl rfl (Ev.plain rfl) (Ev.plain rfl) rfl (fun hg => i64w (by (try simp at hg); omega)) optN ?_ | refine ARun.arith rfl rfl rfl rfl (Ev.plain rfl) (Ev.plain rfl) rfl (fun _ => rfl) optN ?_
    first | refine ARun.nilPe rfl rfl rfl rfl (Ev.plain rfl) optN ?_ | refine ARun.nilFn rfl rfl rfl rfl (Ev.plain rfl) optN ?_ | refine ARun.nilBox rfl rfl rfl rfl (Ev.plain rfl) (atO hi) optN ?_
    refine ARun.fieldBox (fo := 7) rfl rfl rfl rfl Tryd.underlying62 rfl rfl sz3 (by decide) (Ev.plain rfl) (atO hi) optN ?_
    refine ARun.storeO1 hi hG rfl rfl rfl sz3 (Ev.plain rfl) (Ev.plain rfl) (by first | rfl | exact aEr_one _ | exact aFl_one _) (Nat.le_of_ble_eq_true rfl) rfl (by first | exact noH_aDk _ _ | (simp; done) | (simp [cAV]; done)) (fun hG => ?_)
    refine ⟨_, _, rfl, hG, ?_⟩
    refine endF.toG (congrArg (fun c => H.set i (AO.box c)) rfl) ?_
    refine endF.many (.inl rfl) (rs := []) rfl .nil (by simp) ?_ (by rw [List.length_set]; exact hN)
    rfl
  have e1 : ∀ x, H.set i x ++ L0 = (H ++ L0).set i x := fun x => (List.set_append_left i x hi0).symm
  rw [e1, e1]
  exact key (H ++ L0) i (by simp; omega)
set_option maxHeartbeats 1000000 in
theorem op_fn (d : Dk) (F1 F2 : Nat) (c1 c2 : Nat → List AV) (done torn : Dk → Dk) (hcf1 : ∀ (vs : Array Value) (W : World), (callFunc F1 vs).run Tryd.prog W = .ok (.enter F1 vs) W) (hcf2 : ∀ (vs : Array Value) (W : World), (callFunc F2 vs).run Tryd.prog W = .ok (.enter F2 vs) W)
    (hd1 : ¬ d.arm = 1 → FnM Tryd.prog F1 c1 (aDk { d with arm := max (d.arm - 1) 0 }) (.tup []) (aDk (done { d with arm := max (d.arm - 1) 0 }))) (hd2 : d.arm = 1 → FnM Tryd.prog F2 c2 (aDk { d with arm := 0, dead := true }) (.tup []) (aDk (torn { d with arm := 0, dead := true }))) (ha : 0 ≤ d.arm ∧ d.arm ≤ 1000000) :
    FnM Tryd.prog 26 (fun i => [.box i 0, .fn (.func F1) [] (c1 i), .fn (.func F2) [] (c2 i)]) (aDk d) (aEr (Er.new ⟨#[100, 105, 115, 107]⟩ (opP d done torn).2)) (aDk (opP d done torn).1) := by
  refine FnM.of_defer aDk opUp (t := 6) (td := 7) Tryd.func26 rfl rfl (fun i => by simp) rfl rfl rfl rfl (by decide) rfl rfl rfl cf43 (fun x H i L hi => op1_def x H i L hi) (noH_aDk _ _) (fun H i m hHm hi hG => ?_)
  subst hHm
  refine AWP.region (fun _ => ?_)
  refine ARun.boxPe1 rfl rfl rfl rfl (Ev.plain rfl) (by first | rfl | exact aEr_one _ | exact aFl_one _) optN ?_
  refine ARun.move (.inr rfl) rfl rfl rfl (Ev.plain rfl) optN ?_
  refine ⟨_, _, rfl, hG, ?_⟩
  refine ⟨rfl, .cons (Ev.plain rfl) .nil, rfl, ?_⟩
  refine AWP.seq ?_
  refine AWP.seq ?_
  refine AWP.region (fun _ => ?_)
  refine ARun.loadPe rfl rfl rfl rfl Tryd.underlying25 rfl (Ev.plain rfl) rfl optN ?_
  first | refine ARun.nilPe rfl rfl rfl rfl (Ev.plain rfl) optN ?_ | refine ARun.nilFn rfl rfl rfl rfl (Ev.plain rfl) optN ?_ | refine ARun.nilBox rfl rfl rfl rfl (Ev.plain rfl) (atO hi) optN ?_
  refine ARun.fieldBox (fo := 8) rfl rfl rfl rfl Tryd.underlying62 rfl rfl sz3 (by decide) (Ev.plain rfl) (atO hi) optN ?_
  refine ARun.loadBox rfl rfl rfl rfl Tryd.underlying3 rfl (Ev.plain rfl) (atO hi) rfl optN ?_
  refine ARun.cmp rfl rfl rfl rfl (Ev.plain rfl) (Ev.plain rfl) rfl optN ?_
  refine ⟨_, _, rfl, hG, ?_⟩
  refine thenA_n ?_
  refine AWP.cond rfl (fun h0 => ?_) (fun h0 => ?_)
  · skip
    try simp at h0
    refine AWP.seq ?_
    refine AWP.draw mixed (by kernel_rfl) (fun _ => ?_)
    refine ARun.loadPe rfl rfl rfl rfl Tryd.underlying25 rfl (Ev.plain rfl) rfl optN ?_
    refine ARun.loadPe rfl rfl rfl rfl Tryd.underlying25 rfl (Ev.plain rfl) rfl optN ?_
    first | refine ARun.nilPe rfl rfl rfl rfl (Ev.plain rfl) optN ?_ | refine ARun.nilFn rfl rfl rfl rfl (Ev.plain rfl) optN ?_ | refine ARun.nilBox rfl rfl rfl rfl (Ev.plain rfl) (atO hi) optN ?_
    refine ARun.fieldBox (fo := 8) rfl rfl rfl rfl Tryd.underlying62 rfl rfl sz3 (by decide) (Ev.plain rfl) (atO hi) optN ?_
    refine ARun.storeO1 hi hG rfl rfl rfl sz3 (Ev.plain rfl) (Ev.plain rfl) (by first | rfl | exact aEr_one _ | exact aFl_one _) (Nat.le_of_ble_eq_true rfl) rfl (by first | exact noH_aDk _ _ | (simp; done) | (simp [cAV]; done)) (fun hG => ?_)
    first | refine ARun.nilPe rfl rfl rfl rfl (Ev.plain rfl) optN ?_ | refine ARun.nilFn rfl rfl rfl rfl (Ev.plain rfl) optN ?_ | refine ARun.nilBox rfl rfl rfl rfl (Ev.plain rfl) (atO hi) optN ?_
    refine ARun.fieldBox (fo := 9) rfl rfl rfl rfl Tryd.underlying62 rfl rfl sz4 (by decide) (Ev.plain rfl) (atO hi) optN ?_
    refine ARun.storeO1 hi hG rfl rfl rfl sz4 (Ev.plain rfl) (Ev.plain rfl) (by first | rfl | exact aEr_one _ | exact aFl_one _) (Nat.le_of_ble_eq_true rfl) rfl (by first | exact noH_aDk _ _ | (simp; done) | (simp [cAV]; done)) (fun hG => ?_)
    refine ⟨by kernel_rfl, _, _, rfl, hG, ?_⟩
    refine thenA_n ?_
    refine AWP.seq ?_
    refine AWP.region (fun _ => ?_)
    refine ARun.move (.inl rfl) rfl rfl rfl (Ev.plain rfl) optN ?_
    refine ARun.callO hi hG rfl rfl rfl rfl hcf2 (Ev.plain rfl) .nil rfl (hd2 h0 _ _ (atO hi)) (by first | exact noH_aDk _ _ | (simp; done) | (simp [cAV]; done)) optN (fun hG => ?_)
    refine ⟨_, _, rfl, hG, ?_⟩
    refine thenA_n ?_
    refine AWP.seq ?_
    refine AWP.region (fun _ => ?_)
    refine ARun.call rfl rfl rfl rfl cf23 (Ev.plain rfl) (.cons (Ev.plain rfl) .nil) rfl (fun hg => told_fn 20) optN ?_
    refine ARun.move (.inr rfl) rfl rfl rfl (Ev.plain rfl) optN ?_
    refine ⟨_, _, rfl, hG, ?_⟩
    refine thenA_n ?_
    refine AWP.ret ?_
    refine thenA_r ?_
    refine ⟨.inr rfl, torn { d with arm := 0, dead := true }, rfl, by rw [opP, if_pos h0], by simp, ?_⟩
    rw [opP, if_pos h0]; rfl
  · skip
    try simp at h0
    refine AWP.skip ?_
    refine thenA_n ?_
    refine AWP.seq ?_
    refine AWP.draw mixed (by kernel_rfl) (fun _ => ?_)
    refine ARun.loadPe rfl rfl rfl rfl Tryd.underlying25 rfl (Ev.plain rfl) rfl optN ?_
    refine ARun.loadPe rfl rfl rfl rfl Tryd.underlying25 rfl (Ev.plain rfl) rfl optN ?_
    first | refine ARun.nilPe rfl rfl rfl rfl (Ev.plain rfl) optN ?_ | refine ARun.nilFn rfl rfl rfl rfl (Ev.plain rfl) optN ?_ | refine ARun.nilBox rfl rfl rfl rfl (Ev.plain rfl) (atO hi) optN ?_
    refine ARun.fieldBox (fo := 8) rfl rfl rfl rfl Tryd.underlying62 rfl rfl sz3 (by decide) (Ev.plain rfl) (atO hi) optN ?_
    refine ARun.loadBox rfl rfl rfl rfl Tryd.underlying3 rfl (Ev.plain rfl) (atO hi) rfl optN ?_
    first | refine ARun.arith rfl rfl rfl rfl (Ev.plain rfl) (Ev.plain rfl) rfl (fun hg => i64w (by (try simp at hg); omega)) optN ?_ | refine ARun.arith rfl rfl rfl rfl (Ev.plain rfl) (Ev.plain rfl) rfl (fun _ => rfl) optN ?_
    refine ARun.minmax rfl rfl rfl rfl (Ev.plain rfl) (Ev.plain rfl) (.inr ⟨rfl, rfl⟩) optN ?_
    first | refine ARun.nilPe rfl rfl rfl rfl (Ev.plain rfl) optN ?_ | refine ARun.nilFn rfl rfl rfl rfl (Ev.plain rfl) optN ?_ | refine ARun.nilBox rfl rfl rfl rfl (Ev.plain rfl) (atO hi) optN ?_
    refine ARun.fieldBox (fo := 8) rfl rfl rfl rfl Tryd.underlying62 rfl rfl sz3 (by decide) (Ev.plain rfl) (atO hi) optN ?_
    refine ARun.storeO1 hi hG rfl rfl rfl sz3 (Ev.plain rfl) (Ev.plain rfl) (by first | rfl | exact aEr_one _ | exact aFl_one _) (Nat.le_of_ble_eq_true rfl) rfl (by first | exact noH_aDk _ _ | (simp; done) | (simp [cAV]; done)) (fun hG => ?_)
    refine ⟨by kernel_rfl, _, _, rfl, hG, ?_⟩
    refine thenA_n ?_
    refine AWP.seq ?_
    refine AWP.region (fun _ => ?_)
    refine ARun.move (.inl rfl) rfl rfl rfl (Ev.plain rfl) optN ?_
    refine ARun.callO hi hG rfl rfl rfl rfl hcf1 (Ev.plain rfl) .nil rfl (hd1 h0 _ _ (atO hi)) (by first | exact noH_aDk _ _ | (simp; done) | (simp [cAV]; done)) optN (fun hG => ?_)
    refine ⟨_, _, rfl, hG, ?_⟩
    refine thenA_n ?_
    refine AWP.seq ?_
    refine AWP.region (fun _ => ?_)
    refine ARun.move (.inr rfl) rfl rfl rfl (Ev.plain rfl) optN ?_
    refine ⟨_, _, rfl, hG, ?_⟩
    refine thenA_n ?_
    refine AWP.ret ?_
    refine ⟨.inr rfl, done { d with arm := max (d.arm - 1) 0 }, rfl, by rw [opP, if_neg h0], by simp, ?_⟩
    rw [opP, if_neg h0]; rfl
set_option maxHeartbeats 1000000 in
theorem lay_fn (d : Dk) (j : Nat) (s : ByteArray) (hj : j < 2) (hs : (d.get j).s.size + s.size ≤ 1000000000) : FnM Tryd.prog 25 (fun i => [.pe [.box i 0], .pe [.int .i64 (j : Int)], .pe [.str s]]) (aDk d) (.tup []) (aDk (layP j s d)) := by
  refine FnM.of Tryd.func25 rfl rfl (fun i => by simp) (fun H i m hHm hi hG => ?_)
  have hN : NoH H.length (.tup []) := (by simp [AV.cells, aDk, aRD, rdc, aCh])
  refine AWP.draw mixed (by kernel_rfl) (fun _ => ?_)
  first | refine ARun.loadPe rfl rfl rfl rfl Tryd.underlying25 rfl (Ev.plain rfl) rfl optN ?_ | refine ARun.loadBox rfl rfl rfl rfl Tryd.underlying25 rfl (Ev.plain rfl) ((hG.at _ _).trans rfl) rfl optN ?_
  first | refine ARun.loadPe rfl rfl rfl rfl Tryd.underlying3 rfl (Ev.plain rfl) rfl optN ?_ | refine ARun.loadBox rfl rfl rfl rfl Tryd.underlying3 rfl (Ev.plain rfl) ((hG.at _ _).trans rfl) rfl optN ?_
  first | refine ARun.nilPe rfl rfl rfl rfl (Ev.plain rfl) optN ?_ | refine ARun.nilFn rfl rfl rfl rfl (Ev.plain rfl) optN ?_ | refine ARun.nilBox rfl rfl rfl rfl (Ev.plain rfl) (atO hi) optN ?_
  refine ARun.fieldBox (fo := 0) rfl rfl rfl rfl Tryd.underlying62 rfl rfl sz60 (by decide) (Ev.plain rfl) (atO hi) optN ?_
  refine ARun.indexBox (fo := 0 + j * 3) rfl rfl rfl rfl Tryd.underlying60 sz59 (Ev.plain rfl) (atO hi) (Ev.plain rfl) (j := j) (fun hg => by first | rfl | omega) (fun hg => by first | decide | omega) rfl optN ?_
  refine ARun.fieldBox (fo := 0 + j * 3 + 0) rfl rfl rfl rfl Tryd.underlying59 rfl rfl sz9 (by decide) (Ev.plain rfl) (atO hi) optN ?_
  refine ARun.loadBox rfl rfl rfl rfl Tryd.underlying9 rfl (Ev.plain rfl) (atO hi) (dk_s d j hj) optN ?_
  first | refine ARun.loadPe rfl rfl rfl rfl Tryd.underlying9 rfl (Ev.plain rfl) rfl optN ?_ | refine ARun.loadBox rfl rfl rfl rfl Tryd.underlying9 rfl (Ev.plain rfl) ((hG.at _ _).trans rfl) rfl optN ?_
  refine ARun.cat rfl rfl rfl rfl (Ev.plain rfl) (Ev.plain rfl) (fun hg => (by omega)) optN ?_
  first | refine ARun.nilPe rfl rfl rfl rfl (Ev.plain rfl) optN ?_ | refine ARun.nilFn rfl rfl rfl rfl (Ev.plain rfl) optN ?_ | refine ARun.nilBox rfl rfl rfl rfl (Ev.plain rfl) (atO hi) optN ?_
  refine ARun.fieldBox (fo := 0) rfl rfl rfl rfl Tryd.underlying62 rfl rfl sz60 (by decide) (Ev.plain rfl) (atO hi) optN ?_
  refine ARun.indexBox (fo := 0 + j * 3) rfl rfl rfl rfl Tryd.underlying60 sz59 (Ev.plain rfl) (atO hi) (Ev.plain rfl) (j := j) (fun hg => by first | rfl | omega) (fun hg => by first | decide | omega) rfl optN ?_
  refine ARun.fieldBox (fo := 0 + j * 3 + 0) rfl rfl rfl rfl Tryd.underlying59 rfl rfl sz9 (by decide) (Ev.plain rfl) (atO hi) optN ?_
  refine ARun.storeO1 hi hG rfl rfl rfl sz9 (Ev.plain rfl) (Ev.plain rfl) (by first | rfl | exact aEr_one _ | exact aFl_one _) (by rw [dk_len]; omega) (dk_set_s d j hj _) (by first | exact noH_aDk _ _ | (simp; done) | (simp [cAV]; done)) (fun hG => ?_)
  refine ⟨by kernel_rfl, _, _, rfl, hG, ?_⟩
  refine endF.toG (congrArg (fun c => H.set i (AO.box c)) rfl) ?_
  refine endF.many (.inl rfl) (rs := []) rfl .nil (by simp) ?_ (by rw [List.length_set]; exact hN)
  rfl
set_option maxHeartbeats 1000000 in
theorem sync1_fn (d : Dk) (j : Nat) (hj : j < 2) : FnM Tryd.prog 27 (fun i => [.pe [.box i 0], .pe [.int .i64 (j : Int)]]) (aDk d) (.tup []) (aDk (syncP j d)) := by
  refine FnM.of Tryd.func27 rfl rfl (fun i => by simp) (fun H i m hHm hi hG => ?_)
  have hN : NoH H.length (.tup []) := (by simp [AV.cells, aDk, aRD, rdc, aCh])
  refine AWP.draw mixed (by kernel_rfl) (fun _ => ?_)
  first | refine ARun.loadPe rfl rfl rfl rfl Tryd.underlying25 rfl (Ev.plain rfl) rfl optN ?_ | refine ARun.loadBox rfl rfl rfl rfl Tryd.underlying25 rfl (Ev.plain rfl) ((hG.at _ _).trans rfl) rfl optN ?_
  first | refine ARun.loadPe rfl rfl rfl rfl Tryd.underlying3 rfl (Ev.plain rfl) rfl optN ?_ | refine ARun.loadBox rfl rfl rfl rfl Tryd.underlying3 rfl (Ev.plain rfl) ((hG.at _ _).trans rfl) rfl optN ?_
  first | refine ARun.loadPe rfl rfl rfl rfl Tryd.underlying25 rfl (Ev.plain rfl) rfl optN ?_ | refine ARun.loadBox rfl rfl rfl rfl Tryd.underlying25 rfl (Ev.plain rfl) ((hG.at _ _).trans rfl) rfl optN ?_
  first | refine ARun.loadPe rfl rfl rfl rfl Tryd.underlying3 rfl (Ev.plain rfl) rfl optN ?_ | refine ARun.loadBox rfl rfl rfl rfl Tryd.underlying3 rfl (Ev.plain rfl) ((hG.at _ _).trans rfl) rfl optN ?_
  first | refine ARun.nilPe rfl rfl rfl rfl (Ev.plain rfl) optN ?_ | refine ARun.nilFn rfl rfl rfl rfl (Ev.plain rfl) optN ?_ | refine ARun.nilBox rfl rfl rfl rfl (Ev.plain rfl) (atO hi) optN ?_
  refine ARun.fieldBox (fo := 0) rfl rfl rfl rfl Tryd.underlying62 rfl rfl sz60 (by decide) (Ev.plain rfl) (atO hi) optN ?_
  refine ARun.indexBox (fo := 0 + j * 3) rfl rfl rfl rfl Tryd.underlying60 sz59 (Ev.plain rfl) (atO hi) (Ev.plain rfl) (j := j) (fun hg => by first | rfl | omega) (fun hg => by first | decide | omega) rfl optN ?_
  refine ARun.fieldBox (fo := 0 + j * 3 + 0) rfl rfl rfl rfl Tryd.underlying59 rfl rfl sz9 (by decide) (Ev.plain rfl) (atO hi) optN ?_
  refine ARun.loadBox rfl rfl rfl rfl Tryd.underlying9 rfl (Ev.plain rfl) (atO hi) (dk_s d j hj) optN ?_
  refine ARun.lenStr rfl rfl rfl rfl Tryd.underlying9 (Ev.plain rfl) optN ?_
  first | refine ARun.nilPe rfl rfl rfl rfl (Ev.plain rfl) optN ?_ | refine ARun.nilFn rfl rfl rfl rfl (Ev.plain rfl) optN ?_ | refine ARun.nilBox rfl rfl rfl rfl (Ev.plain rfl) (atO hi) optN ?_
  refine ARun.fieldBox (fo := 0) rfl rfl rfl rfl Tryd.underlying62 rfl rfl sz60 (by decide) (Ev.plain rfl) (atO hi) optN ?_
  refine ARun.indexBox (fo := 0 + j * 3) rfl rfl rfl rfl Tryd.underlying60 sz59 (Ev.plain rfl) (atO hi) (Ev.plain rfl) (j := j) (fun hg => by first | rfl | omega) (fun hg => by first | decide | omega) rfl optN ?_
  refine ARun.fieldBox (fo := 0 + j * 3 + 1) rfl rfl rfl rfl Tryd.underlying59 rfl rfl sz3 (by decide) (Ev.plain rfl) (atO hi) optN ?_
  refine ARun.storeO1 hi hG rfl rfl rfl sz3 (Ev.plain rfl) (Ev.plain rfl) (by first | rfl | exact aEr_one _ | exact aFl_one _) (by rw [dk_len]; omega) (dk_set_safe d j hj _) (by first | exact noH_aDk _ _ | (simp; done) | (simp [cAV]; done)) (fun hG => ?_)
  refine ⟨by kernel_rfl, _, _, rfl, hG, ?_⟩
  refine endF.toG (congrArg (fun c => H.set i (AO.box c)) rfl) ?_
  refine endF.many (.inl rfl) (rs := []) rfl .nil (by simp) ?_ (by rw [List.length_set]; exact hN)
  rfl
set_option maxHeartbeats 1000000 in
theorem sync2_fn (d : Dk) : FnM Tryd.prog 28 (fun i => []) (aDk d) (.tup []) (aDk d) := by
  refine FnM.of Tryd.func28 rfl rfl (fun i => by simp) (fun H i m hHm hi hG => ?_)
  have hN : NoH H.length (.tup []) := (by simp [AV.cells, aDk, aRD, rdc, aCh])
  refine AWP.skip ?_
  refine endF.toG (congrArg (fun c => H.set i (AO.box c)) rfl) ?_
  refine endF.many (.inl rfl) (rs := []) rfl .nil (by simp) ?_ (by rw [List.length_set]; exact hN)
  rfl
set_option maxHeartbeats 1000000 in
theorem reset1_fn (d : Dk) (j : Nat) (hj : j < 2) : FnM Tryd.prog 48 (fun i => [.pe [.box i 0], .pe [.int .i64 (j : Int)]]) (aDk d) (.tup []) (aDk (clearP j d)) := by
  refine FnM.of Tryd.func48 rfl rfl (fun i => by simp) (fun H i m hHm hi hG => ?_)
  have hN : NoH H.length (.tup []) := (by simp [AV.cells, aDk, aRD, rdc, aCh])
  refine AWP.draw mixed (by kernel_rfl) (fun _ => ?_)
  first | refine ARun.loadPe rfl rfl rfl rfl Tryd.underlying25 rfl (Ev.plain rfl) rfl optN ?_ | refine ARun.loadBox rfl rfl rfl rfl Tryd.underlying25 rfl (Ev.plain rfl) ((hG.at _ _).trans rfl) rfl optN ?_
  first | refine ARun.loadPe rfl rfl rfl rfl Tryd.underlying3 rfl (Ev.plain rfl) rfl optN ?_ | refine ARun.loadBox rfl rfl rfl rfl Tryd.underlying3 rfl (Ev.plain rfl) ((hG.at _ _).trans rfl) rfl optN ?_
  refine ARun.build rfl rfl rfl rfl so59 .nil rfl rfl optN ?_
  first | refine ARun.nilPe rfl rfl rfl rfl (Ev.plain rfl) optN ?_ | refine ARun.nilFn rfl rfl rfl rfl (Ev.plain rfl) optN ?_ | refine ARun.nilBox rfl rfl rfl rfl (Ev.plain rfl) (atO hi) optN ?_
  refine ARun.fieldBox (fo := 0) rfl rfl rfl rfl Tryd.underlying62 rfl rfl sz60 (by decide) (Ev.plain rfl) (atO hi) optN ?_
  refine ARun.indexBox (fo := 0 + j * 3) rfl rfl rfl rfl Tryd.underlying60 sz59 (Ev.plain rfl) (atO hi) (Ev.plain rfl) (j := j) (fun hg => by first | rfl | omega) (fun hg => by first | decide | omega) rfl optN ?_
  refine ARun.storeO hi hG rfl rfl rfl sz59 (Ev.plain rfl) (Ev.plain rfl) rfl rfl rfl rfl (by rw [dk_len]; omega) (dk_set_f d j hj ⟨⟨#[]⟩, 0, false⟩) (by show ∀ x, x ∈ [AV.str ⟨#[]⟩, AV.int .i64 0, AV.bool false] → NoH _ x; simp) (fun hG => ?_)
  refine ⟨by kernel_rfl, _, _, rfl, hG, ?_⟩
  refine endF.toG (congrArg (fun c => H.set i (AO.box c)) rfl) ?_
  refine endF.many (.inl rfl) (rs := []) rfl .nil (by simp) ?_ (by rw [List.length_set]; exact hN)
  rfl
set_option maxHeartbeats 1000000 in
theorem reset2_fn (d : Dk) (j : Nat) (hj : j < 2) : FnM Tryd.prog 49 (fun i => [.pe [.box i 0], .pe [.int .i64 (j : Int)]]) (aDk d) (.tup []) (aDk (halfP j d)) := by
  refine FnM.of Tryd.func49 rfl rfl (fun i => by simp) (fun H i m hHm hi hG => ?_)
  have hN : NoH H.length (.tup []) := (by simp [AV.cells, aDk, aRD, rdc, aCh])
  refine AWP.draw mixed (by kernel_rfl) (fun _ => ?_)
  first | refine ARun.loadPe rfl rfl rfl rfl Tryd.underlying25 rfl (Ev.plain rfl) rfl optN ?_ | refine ARun.loadBox rfl rfl rfl rfl Tryd.underlying25 rfl (Ev.plain rfl) ((hG.at _ _).trans rfl) rfl optN ?_
  first | refine ARun.loadPe rfl rfl rfl rfl Tryd.underlying3 rfl (Ev.plain rfl) rfl optN ?_ | refine ARun.loadBox rfl rfl rfl rfl Tryd.underlying3 rfl (Ev.plain rfl) ((hG.at _ _).trans rfl) rfl optN ?_
  first | refine ARun.nilPe rfl rfl rfl rfl (Ev.plain rfl) optN ?_ | refine ARun.nilFn rfl rfl rfl rfl (Ev.plain rfl) optN ?_ | refine ARun.nilBox rfl rfl rfl rfl (Ev.plain rfl) (atO hi) optN ?_
  refine ARun.fieldBox (fo := 0) rfl rfl rfl rfl Tryd.underlying62 rfl rfl sz60 (by decide) (Ev.plain rfl) (atO hi) optN ?_
  refine ARun.indexBox (fo := 0 + j * 3) rfl rfl rfl rfl Tryd.underlying60 sz59 (Ev.plain rfl) (atO hi) (Ev.plain rfl) (j := j) (fun hg => by first | rfl | omega) (fun hg => by first | decide | omega) rfl optN ?_
  refine ARun.fieldBox (fo := 0 + j * 3 + 2) rfl rfl rfl rfl Tryd.underlying59 rfl rfl sz4 (by decide) (Ev.plain rfl) (atO hi) optN ?_
  refine ARun.storeO1 hi hG rfl rfl rfl sz4 (Ev.plain rfl) (Ev.plain rfl) (by first | rfl | exact aEr_one _ | exact aFl_one _) (by rw [dk_len]; omega) (dk_set_half d j hj _) (by first | exact noH_aDk _ _ | (simp; done) | (simp [cAV]; done)) (fun hG => ?_)
  refine ⟨by kernel_rfl, _, _, rfl, hG, ?_⟩
  refine endF.toG (congrArg (fun c => H.set i (AO.box c)) rfl) ?_
  refine endF.many (.inl rfl) (rs := []) rfl .nil (by simp) ?_ (by rw [List.length_set]; exact hN)
  rfl
set_option maxHeartbeats 1000000 in
theorem append_fn (d : Dk) (a : Int) (s : ByteArray) (hok : DOk d) : FnM Tryd.prog 9 (fun i => [.box i 0, .int .i64 a, .str s]) (aDk d) (aEr (Er.new ⟨#[100, 105, 115, 107]⟩ (appendP d a s).2)) (aDk (appendP d a s).1) := by
  have hfull := hok.full
  have hroom := hok.room
  refine FnM.of Tryd.func9 rfl rfl (fun i => by simp) (fun H i m hHm hi hG => ?_)
  have hN : NoH H.length (aEr (Er.new ⟨#[100, 105, 115, 107]⟩ (appendP d a s).2)) := (by simp [AV.cells, aDk, aRD, rdc, aCh])
  refine AWP.seq ?_
  refine AWP.region (fun _ => ?_)
  refine ARun.boxPe1 rfl rfl rfl rfl (Ev.plain rfl) (by first | rfl | exact aEr_one _ | exact aFl_one _) optN ?_
  refine ARun.boxPe1 rfl rfl rfl rfl (Ev.plain rfl) (by first | rfl | exact aEr_one _ | exact aFl_one _) optN ?_
  refine ARun.boxPe1 rfl rfl rfl rfl (Ev.plain rfl) (by first | rfl | exact aEr_one _ | exact aFl_one _) optN ?_
  refine ARun.move (.inr rfl) rfl rfl rfl (Ev.plain rfl) optN ?_
  refine ⟨_, _, rfl, hG, ?_⟩
  refine thenA_n ?_
  refine AWP.seq ?_
  refine AWP.seq ?_
  refine AWP.region (fun _ => ?_)
  refine ARun.loadPe rfl rfl rfl rfl Tryd.underlying25 rfl (Ev.plain rfl) rfl optN ?_
  refine ARun.loadPe rfl rfl rfl rfl Tryd.underlying3 rfl (Ev.plain rfl) rfl optN ?_
  refine ARun.callR rfl rfl rfl rfl cf24 (Ev.plain rfl) (.cons (Ev.plain rfl) (.cons (Ev.plain rfl) .nil)) rfl (fun hg => FnM.keep (up_fn d a) (atO hi)) optN ?_
  refine ARun.move (.inr rfl) rfl rfl rfl (Ev.plain rfl) optN ?_
  refine ⟨_, _, rfl, hG, ?_⟩
  refine thenA_n ?_
  refine AWP.seq ?_
  refine AWP.region (fun _ => ?_)
  refine ARun.move (.inl rfl) rfl rfl rfl (Ev.plain rfl) optN ?_
  refine ARun.cmp rfl rfl rfl rfl (Ev.plain rfl) (Ev.plain rfl) rfl optN ?_
  refine ⟨_, _, rfl, hG, ?_⟩
  refine thenA_n ?_
  refine AWP.cond rfl (fun h0 => ?_) (fun h0 => ?_)
  · skip
    have hne : upP d a ≠ 0 := by simpa using h0
    refine AWP.seq ?_
    refine AWP.region (fun _ => ?_)
    refine ARun.move (.inl rfl) rfl rfl rfl (Ev.plain rfl) optN ?_
    refine ARun.call rfl rfl rfl rfl cf23 (Ev.plain rfl) (.cons (Ev.plain rfl) .nil) rfl (fun hg => told_fn (upP d a)) optN ?_
    refine ARun.move (.inr rfl) rfl rfl rfl (Ev.plain rfl) optN ?_
    refine ⟨_, _, rfl, hG, ?_⟩
    refine thenA_n ?_
    refine AWP.ret ?_
    refine thenA_r ?_
    refine endF.toG (congrArg (fun c => H.set i (AO.box c)) (by rw [appendP, if_pos hne])) ?_
    refine endF.one (.inr rfl) rfl (.tmp rfl) ?_ (by rw [List.length_set]; exact hN)
    rw [appendP, if_pos hne]
  · skip
    obtain ⟨hr, hdd, j, rfl, hj⟩ := upP_ok (d := d) (a := a) (by simpa using h0)
    have hup : upP d (j : Int) = 0 := by simpa using h0
    have hjn : ((j : Int)).toNat = j := rfl
    refine AWP.skip ?_
    refine thenA_n ?_
    refine AWP.seq ?_
    refine AWP.seq ?_
    refine AWP.draw mixed (by kernel_rfl) (fun _ => ?_)
    refine ARun.loadPe rfl rfl rfl rfl Tryd.underlying9 rfl (Ev.plain rfl) rfl optN ?_
    refine ARun.lenStr rfl rfl rfl rfl Tryd.underlying9 (Ev.plain rfl) optN ?_
    refine ARun.loadPe rfl rfl rfl rfl Tryd.underlying25 rfl (Ev.plain rfl) rfl optN ?_
    first | refine ARun.nilPe rfl rfl rfl rfl (Ev.plain rfl) optN ?_ | refine ARun.nilFn rfl rfl rfl rfl (Ev.plain rfl) optN ?_ | refine ARun.nilBox rfl rfl rfl rfl (Ev.plain rfl) (atO hi) optN ?_
    refine ARun.fieldBox (fo := 6) rfl rfl rfl rfl Tryd.underlying62 rfl rfl sz3 (by decide) (Ev.plain rfl) (atO hi) optN ?_
    refine ARun.loadBox rfl rfl rfl rfl Tryd.underlying3 rfl (Ev.plain rfl) (atO hi) rfl optN ?_
    refine ARun.loadPe rfl rfl rfl rfl Tryd.underlying25 rfl (Ev.plain rfl) rfl optN ?_
    first | refine ARun.nilPe rfl rfl rfl rfl (Ev.plain rfl) optN ?_ | refine ARun.nilFn rfl rfl rfl rfl (Ev.plain rfl) optN ?_ | refine ARun.nilBox rfl rfl rfl rfl (Ev.plain rfl) (atO hi) optN ?_
    refine ARun.fieldBox (fo := 0) rfl rfl rfl rfl Tryd.underlying62 rfl rfl sz60 (by decide) (Ev.plain rfl) (atO hi) optN ?_
    refine ARun.indexBox (fo := 0) rfl rfl rfl rfl Tryd.underlying60 sz59 (Ev.plain rfl) (atO hi) (Ev.plain rfl) (j := 0) (fun hg => by first | rfl | omega) (fun hg => by first | decide | omega) rfl optN ?_
    refine ARun.fieldBox (fo := 0) rfl rfl rfl rfl Tryd.underlying59 rfl rfl sz9 (by decide) (Ev.plain rfl) (atO hi) optN ?_
    refine ARun.loadBox rfl rfl rfl rfl Tryd.underlying9 rfl (Ev.plain rfl) (atO hi) rfl optN ?_
    refine ARun.lenStr rfl rfl rfl rfl Tryd.underlying9 (Ev.plain rfl) optN ?_
    first | refine ARun.arith rfl rfl rfl rfl (Ev.plain rfl) (Ev.plain rfl) rfl (fun hg => i64w (by (try simp at hg); omega)) optN ?_ | refine ARun.arith rfl rfl rfl rfl (Ev.plain rfl) (Ev.plain rfl) rfl (fun _ => rfl) optN ?_
    refine ARun.loadPe rfl rfl rfl rfl Tryd.underlying25 rfl (Ev.plain rfl) rfl optN ?_
    first | refine ARun.nilPe rfl rfl rfl rfl (Ev.plain rfl) optN ?_ | refine ARun.nilFn rfl rfl rfl rfl (Ev.plain rfl) optN ?_ | refine ARun.nilBox rfl rfl rfl rfl (Ev.plain rfl) (atO hi) optN ?_
    refine ARun.fieldBox (fo := 0) rfl rfl rfl rfl Tryd.underlying62 rfl rfl sz60 (by decide) (Ev.plain rfl) (atO hi) optN ?_
    refine ARun.indexBox (fo := 3) rfl rfl rfl rfl Tryd.underlying60 sz59 (Ev.plain rfl) (atO hi) (Ev.plain rfl) (j := 1) (fun hg => by first | rfl | omega) (fun hg => by first | decide | omega) rfl optN ?_
    refine ARun.fieldBox (fo := 3) rfl rfl rfl rfl Tryd.underlying59 rfl rfl sz9 (by decide) (Ev.plain rfl) (atO hi) optN ?_
    refine ARun.loadBox rfl rfl rfl rfl Tryd.underlying9 rfl (Ev.plain rfl) (atO hi) rfl optN ?_
    refine ARun.lenStr rfl rfl rfl rfl Tryd.underlying9 (Ev.plain rfl) optN ?_
    first | refine ARun.arith rfl rfl rfl rfl (Ev.plain rfl) (Ev.plain rfl) rfl (fun hg => i64w (by (try simp at hg); omega)) optN ?_ | refine ARun.arith rfl rfl rfl rfl (Ev.plain rfl) (Ev.plain rfl) rfl (fun _ => rfl) optN ?_
    refine ARun.cmp rfl rfl rfl rfl (Ev.plain rfl) (Ev.plain rfl) rfl optN ?_
    refine ⟨by kernel_rfl, _, _, rfl, hG, ?_⟩
    refine thenA_n ?_
    refine AWP.cond rfl (fun h1 => ?_) (fun h1 => ?_)
    · skip
      simp at h1
      refine AWP.seq ?_
      refine AWP.region (fun _ => ?_)
      refine ARun.call rfl rfl rfl rfl cf23 (Ev.plain rfl) (.cons (Ev.plain rfl) .nil) rfl (fun hg => told_fn 22) optN ?_
      refine ARun.move (.inr rfl) rfl rfl rfl (Ev.plain rfl) optN ?_
      refine ⟨_, _, rfl, hG, ?_⟩
      refine thenA_n ?_
      refine AWP.ret ?_
      refine thenA_r ?_
      refine endF.toG (congrArg (fun c => H.set i (AO.box c)) (by rw [appendP, if_neg (by simp [hup]), if_pos (by omega)])) ?_
      refine endF.one (.inr rfl) rfl (.tmp rfl) ?_ (by rw [List.length_set]; exact hN)
      rw [appendP, if_neg (by simp [hup]), if_pos (by omega)]
    · skip
      simp at h1
      have hsz : ∀ d2 : Dk, d2.f0 = d.f0 → d2.f1 = d.f1 → (d2.get j).s.size + s.size ≤ 1000000000 := by
        intro d2 e0 e1
        unfold Dk.get
        split <;> simp only [e0, e1] <;> omega
      refine AWP.skip ?_
      refine thenA_n ?_
      refine AWP.seq ?_
      refine AWP.region (fun _ => ?_)
      refine ARun.makeFunc rfl rfl rfl rfl .nil (.cons (Ev.plain rfl) (.cons (Ev.plain rfl) (.cons (Ev.plain rfl) .nil))) optN ?_
      refine ARun.move (.inr rfl) rfl rfl rfl (Ev.plain rfl) optN ?_
      refine ⟨_, _, rfl, hG, ?_⟩
      refine thenA_n ?_
      refine AWP.seq ?_
      refine AWP.region (fun _ => ?_)
      refine ARun.loadPe rfl rfl rfl rfl Tryd.underlying25 rfl (Ev.plain rfl) rfl optN ?_
      refine ARun.move (.inl rfl) rfl rfl rfl (Ev.plain rfl) optN ?_
      refine ARun.move (.inl rfl) rfl rfl rfl (Ev.plain rfl) optN ?_
      refine ARun.callO hi hG rfl rfl rfl rfl cf26 (Ev.plain rfl) (.cons (Ev.plain rfl) (.cons (Ev.plain rfl) (.cons (Ev.plain rfl) .nil))) rfl (op_fn d 25 25 (fun i => [.pe [.box i 0], .pe [.int .i64 (j : Int)], .pe [.str s]]) (fun i => [.pe [.box i 0], .pe [.int .i64 (j : Int)], .pe [.str s]]) (layP j s) (layP j s) cf25 cf25 (fun h => lay_fn _ j s hj (hsz _ rfl rfl)) (fun h => lay_fn _ j s hj (hsz _ rfl rfl)) hok.arm _ _ (atO hi)) (by first | exact noH_aDk _ _ | (simp; done) | (simp [cAV]; done)) optN (fun hG => ?_)
      refine ARun.move (.inr rfl) rfl rfl rfl (Ev.plain rfl) optN ?_
      refine ⟨_, _, rfl, hG, ?_⟩
      refine thenA_n ?_
      refine AWP.ret ?_
      refine endF.toG (congrArg (fun c => H.set i (AO.box c)) (by rw [appendP, if_neg (by simp [hup]), if_neg (by omega)]; rfl)) ?_
      refine endF.one (.inr rfl) rfl (.tmp rfl) ?_ (by rw [List.length_set]; exact hN)
      rw [appendP, if_neg (by simp [hup]), if_neg (by omega)]; rfl
set_option maxHeartbeats 1000000 in
theorem syncF_fn (d : Dk) (a : Int) (hok : DOk d) : FnM Tryd.prog 10 (fun i => [.box i 0, .int .i64 a]) (aDk d) (aEr (Er.new ⟨#[100, 105, 115, 107]⟩ (syncFP d a).2)) (aDk (syncFP d a).1) := by
  refine FnM.of Tryd.func10 rfl rfl (fun i => by simp) (fun H i m hHm hi hG => ?_)
  have hN : NoH H.length (aEr (Er.new ⟨#[100, 105, 115, 107]⟩ (syncFP d a).2)) := (by simp [AV.cells, aDk, aRD, rdc, aCh])
  refine AWP.seq ?_
  refine AWP.region (fun _ => ?_)
  refine ARun.boxPe1 rfl rfl rfl rfl (Ev.plain rfl) (by first | rfl | exact aEr_one _ | exact aFl_one _) optN ?_
  refine ARun.boxPe1 rfl rfl rfl rfl (Ev.plain rfl) (by first | rfl | exact aEr_one _ | exact aFl_one _) optN ?_
  refine ARun.move (.inr rfl) rfl rfl rfl (Ev.plain rfl) optN ?_
  refine ⟨_, _, rfl, hG, ?_⟩
  refine thenA_n ?_
  refine AWP.seq ?_
  refine AWP.seq ?_
  refine AWP.region (fun _ => ?_)
  refine ARun.loadPe rfl rfl rfl rfl Tryd.underlying25 rfl (Ev.plain rfl) rfl optN ?_
  refine ARun.loadPe rfl rfl rfl rfl Tryd.underlying3 rfl (Ev.plain rfl) rfl optN ?_
  refine ARun.callR rfl rfl rfl rfl cf24 (Ev.plain rfl) (.cons (Ev.plain rfl) (.cons (Ev.plain rfl) .nil)) rfl (fun hg => FnM.keep (up_fn d a) (atO hi)) optN ?_
  refine ARun.move (.inr rfl) rfl rfl rfl (Ev.plain rfl) optN ?_
  refine ⟨_, _, rfl, hG, ?_⟩
  refine thenA_n ?_
  refine AWP.seq ?_
  refine AWP.region (fun _ => ?_)
  refine ARun.move (.inl rfl) rfl rfl rfl (Ev.plain rfl) optN ?_
  refine ARun.cmp rfl rfl rfl rfl (Ev.plain rfl) (Ev.plain rfl) rfl optN ?_
  refine ⟨_, _, rfl, hG, ?_⟩
  refine thenA_n ?_
  refine AWP.cond rfl (fun h0 => ?_) (fun h0 => ?_)
  · skip
    have hne : upP d a ≠ 0 := by simpa using h0
    refine AWP.seq ?_
    refine AWP.region (fun _ => ?_)
    refine ARun.move (.inl rfl) rfl rfl rfl (Ev.plain rfl) optN ?_
    refine ARun.call rfl rfl rfl rfl cf23 (Ev.plain rfl) (.cons (Ev.plain rfl) .nil) rfl (fun hg => told_fn (upP d a)) optN ?_
    refine ARun.move (.inr rfl) rfl rfl rfl (Ev.plain rfl) optN ?_
    refine ⟨_, _, rfl, hG, ?_⟩
    refine thenA_n ?_
    refine AWP.ret ?_
    refine thenA_r ?_
    refine endF.toG (congrArg (fun c => H.set i (AO.box c)) (by rw [syncFP, if_pos hne])) ?_
    refine endF.one (.inr rfl) rfl (.tmp rfl) ?_ (by rw [List.length_set]; exact hN)
    rw [syncFP, if_pos hne]
  · skip
    obtain ⟨hr, hdd, j, rfl, hj⟩ := upP_ok (d := d) (a := a) (by simpa using h0)
    have hup : upP d (j : Int) = 0 := by simpa using h0
    have hjn : ((j : Int)).toNat = j := rfl
    refine AWP.skip ?_
    refine thenA_n ?_
    refine AWP.seq ?_
    refine AWP.region (fun _ => ?_)
    refine ARun.loadPe rfl rfl rfl rfl Tryd.underlying25 rfl (Ev.plain rfl) rfl optN ?_
    refine ARun.makeFunc rfl rfl rfl rfl .nil (.cons (Ev.plain rfl) (.cons (Ev.plain rfl) .nil)) optN ?_
    refine ARun.callO hi hG rfl rfl rfl rfl cf26 (Ev.plain rfl) (.cons (Ev.plain rfl) (.cons (Ev.plain rfl) (.cons (Ev.plain rfl) .nil))) rfl (op_fn d 27 28 (fun i => [.pe [.box i 0], .pe [.int .i64 (j : Int)]]) (fun i => []) (syncP j) id cf27 cf28 (fun h => sync1_fn _ j hj) (fun h => sync2_fn _) hok.arm _ _ (atO hi)) (by first | exact noH_aDk _ _ | (simp; done) | (simp [cAV]; done)) optN (fun hG => ?_)
    refine ARun.move (.inr rfl) rfl rfl rfl (Ev.plain rfl) optN ?_
    refine ⟨_, _, rfl, hG, ?_⟩
    refine thenA_n ?_
    refine AWP.ret ?_
    refine endF.toG (congrArg (fun c => H.set i (AO.box c)) (by rw [syncFP, if_neg (by simp [hup])]; rfl)) ?_
    refine endF.one (.inr rfl) rfl (.tmp rfl) ?_ (by rw [List.length_set]; exact hN)
    rw [syncFP, if_neg (by simp [hup])]; rfl
set_option maxHeartbeats 1000000 in
theorem reset_fn (d : Dk) (a : Int) (hok : DOk d) : FnM Tryd.prog 32 (fun i => [.box i 0, .int .i64 a]) (aDk d) (aEr (Er.new ⟨#[100, 105, 115, 107]⟩ (resetP d a).2)) (aDk (resetP d a).1) := by
  refine FnM.of Tryd.func32 rfl rfl (fun i => by simp) (fun H i m hHm hi hG => ?_)
  have hN : NoH H.length (aEr (Er.new ⟨#[100, 105, 115, 107]⟩ (resetP d a).2)) := (by simp [AV.cells, aDk, aRD, rdc, aCh])
  refine AWP.seq ?_
  refine AWP.region (fun _ => ?_)
  refine ARun.boxPe1 rfl rfl rfl rfl (Ev.plain rfl) (by first | rfl | exact aEr_one _ | exact aFl_one _) optN ?_
  refine ARun.boxPe1 rfl rfl rfl rfl (Ev.plain rfl) (by first | rfl | exact aEr_one _ | exact aFl_one _) optN ?_
  refine ARun.move (.inr rfl) rfl rfl rfl (Ev.plain rfl) optN ?_
  refine ⟨_, _, rfl, hG, ?_⟩
  refine thenA_n ?_
  refine AWP.seq ?_
  refine AWP.seq ?_
  refine AWP.region (fun _ => ?_)
  refine ARun.loadPe rfl rfl rfl rfl Tryd.underlying25 rfl (Ev.plain rfl) rfl optN ?_
  refine ARun.loadPe rfl rfl rfl rfl Tryd.underlying3 rfl (Ev.plain rfl) rfl optN ?_
  refine ARun.callR rfl rfl rfl rfl cf24 (Ev.plain rfl) (.cons (Ev.plain rfl) (.cons (Ev.plain rfl) .nil)) rfl (fun hg => FnM.keep (up_fn d a) (atO hi)) optN ?_
  refine ARun.move (.inr rfl) rfl rfl rfl (Ev.plain rfl) optN ?_
  refine ⟨_, _, rfl, hG, ?_⟩
  refine thenA_n ?_
  refine AWP.seq ?_
  refine AWP.region (fun _ => ?_)
  refine ARun.move (.inl rfl) rfl rfl rfl (Ev.plain rfl) optN ?_
  refine ARun.cmp rfl rfl rfl rfl (Ev.plain rfl) (Ev.plain rfl) rfl optN ?_
  refine ⟨_, _, rfl, hG, ?_⟩
  refine thenA_n ?_
  refine AWP.cond rfl (fun h0 => ?_) (fun h0 => ?_)
  · skip
    have hne : upP d a ≠ 0 := by simpa using h0
    refine AWP.seq ?_
    refine AWP.region (fun _ => ?_)
    refine ARun.move (.inl rfl) rfl rfl rfl (Ev.plain rfl) optN ?_
    refine ARun.call rfl rfl rfl rfl cf23 (Ev.plain rfl) (.cons (Ev.plain rfl) .nil) rfl (fun hg => told_fn (upP d a)) optN ?_
    refine ARun.move (.inr rfl) rfl rfl rfl (Ev.plain rfl) optN ?_
    refine ⟨_, _, rfl, hG, ?_⟩
    refine thenA_n ?_
    refine AWP.ret ?_
    refine thenA_r ?_
    refine endF.toG (congrArg (fun c => H.set i (AO.box c)) (by rw [resetP, if_pos hne])) ?_
    refine endF.one (.inr rfl) rfl (.tmp rfl) ?_ (by rw [List.length_set]; exact hN)
    rw [resetP, if_pos hne]
  · skip
    obtain ⟨hr, hdd, j, rfl, hj⟩ := upP_ok (d := d) (a := a) (by simpa using h0)
    have hup : upP d (j : Int) = 0 := by simpa using h0
    have hjn : ((j : Int)).toNat = j := rfl
    refine AWP.skip ?_
    refine thenA_n ?_
    refine AWP.seq ?_
    refine AWP.region (fun _ => ?_)
    refine ARun.loadPe rfl rfl rfl rfl Tryd.underlying25 rfl (Ev.plain rfl) rfl optN ?_
    refine ARun.makeFunc rfl rfl rfl rfl .nil (.cons (Ev.plain rfl) (.cons (Ev.plain rfl) .nil)) optN ?_
    refine ARun.makeFunc rfl rfl rfl rfl .nil (.cons (Ev.plain rfl) (.cons (Ev.plain rfl) .nil)) optN ?_
    refine ARun.callO hi hG rfl rfl rfl rfl cf26 (Ev.plain rfl) (.cons (Ev.plain rfl) (.cons (Ev.plain rfl) (.cons (Ev.plain rfl) .nil))) rfl (op_fn d 48 49 (fun i => [.pe [.box i 0], .pe [.int .i64 (j : Int)]]) (fun i => [.pe [.box i 0], .pe [.int .i64 (j : Int)]]) (clearP j) (halfP j) cf48 cf49 (fun h => reset1_fn _ j hj) (fun h => reset2_fn _ j hj) hok.arm _ _ (atO hi)) (by first | exact noH_aDk _ _ | (simp; done) | (simp [cAV]; done)) optN (fun hG => ?_)
    refine ARun.move (.inr rfl) rfl rfl rfl (Ev.plain rfl) optN ?_
    refine ⟨_, _, rfl, hG, ?_⟩
    refine thenA_n ?_
    refine AWP.ret ?_
    refine endF.toG (congrArg (fun c => H.set i (AO.box c)) (by rw [resetP, if_neg (by simp [hup])]; rfl)) ?_
    refine endF.one (.inr rfl) rfl (.tmp rfl) ?_ (by rw [List.length_set]; exact hN)
    rw [resetP, if_neg (by simp [hup])]; rfl
set_option maxHeartbeats 1000000 in
theorem read_fn (d : Dk) (a : Int) : FnM Tryd.prog 13 (fun i => [.box i 0, .int .i64 a]) (aDk d) (.tup [.str (readP d a).1, aEr (Er.new ⟨#[100, 105, 115, 107]⟩ (readP d a).2)]) (aDk d) := by
  refine FnM.of Tryd.func13 rfl rfl (fun i => by simp) (fun H i m hHm hi hG => ?_)
  have hN : NoH H.length (.tup [.str (readP d a).1, aEr (Er.new ⟨#[100, 105, 115, 107]⟩ (readP d a).2)]) := (by simp [AV.cells, aDk, aRD, rdc, aCh])
  refine AWP.seq ?_
  refine AWP.region (fun _ => ?_)
  refine ARun.move (.inr rfl) rfl rfl rfl (Ev.plain rfl) optN ?_
  refine ARun.move (.inr rfl) rfl rfl rfl (Ev.plain rfl) optN ?_
  refine ⟨_, _, rfl, hG, ?_⟩
  refine thenA_n ?_
  refine AWP.seq ?_
  refine AWP.seq ?_
  refine AWP.region (fun _ => ?_)
  refine ARun.move (.inl rfl) rfl rfl rfl (Ev.plain rfl) optN ?_
  refine ARun.move (.inl rfl) rfl rfl rfl (Ev.plain rfl) optN ?_
  refine ARun.callR rfl rfl rfl rfl cf24 (Ev.plain rfl) (.cons (Ev.plain rfl) (.cons (Ev.plain rfl) .nil)) rfl (fun hg => FnM.keep (up_fn d a) (atO hi)) optN ?_
  refine ARun.move (.inr rfl) rfl rfl rfl (Ev.plain rfl) optN ?_
  refine ⟨_, _, rfl, hG, ?_⟩
  refine thenA_n ?_
  refine AWP.seq ?_
  refine AWP.region (fun _ => ?_)
  refine ARun.move (.inl rfl) rfl rfl rfl (Ev.plain rfl) optN ?_
  refine ARun.cmp rfl rfl rfl rfl (Ev.plain rfl) (Ev.plain rfl) rfl optN ?_
  refine ⟨_, _, rfl, hG, ?_⟩
  refine thenA_n ?_
  refine AWP.cond rfl (fun h0 => ?_) (fun h0 => ?_)
  · skip
    have hne : upP d a ≠ 0 := by simpa using h0
    refine AWP.seq ?_
    refine AWP.region (fun _ => ?_)
    refine ARun.move (.inl rfl) rfl rfl rfl (Ev.plain rfl) optN ?_
    refine ARun.call rfl rfl rfl rfl cf23 (Ev.plain rfl) (.cons (Ev.plain rfl) .nil) rfl (fun hg => told_fn (upP d a)) optN ?_
    refine ARun.move (.inr rfl) rfl rfl rfl (Ev.plain rfl) optN ?_
    refine ARun.move (.inr rfl) rfl rfl rfl (Ev.plain rfl) optN ?_
    refine ⟨_, _, rfl, hG, ?_⟩
    refine thenA_n ?_
    refine AWP.ret ?_
    refine thenA_r ?_
    refine endF.toG (congrArg (fun c => H.set i (AO.box c)) rfl) ?_
    refine endF.many (.inr rfl) (rs := [.tmp 4, .tmp 5]) rfl (.cons (.tmp rfl) (.cons (.tmp rfl) .nil)) (by simp) ?_ (by rw [List.length_set]; exact hN)
    rw [readP, if_pos hne]; rfl
  · skip
    obtain ⟨hr, hdd, j, rfl, hj⟩ := upP_ok (d := d) (a := a) (by simpa using h0)
    have hup : upP d (j : Int) = 0 := by simpa using h0
    have hjn : ((j : Int)).toNat = j := rfl
    refine AWP.skip ?_
    refine thenA_n ?_
    refine AWP.seq ?_
    refine AWP.region (fun _ => ?_)
    refine ARun.move (.inl rfl) rfl rfl rfl (Ev.plain rfl) optN ?_
    refine ARun.move (.inl rfl) rfl rfl rfl (Ev.plain rfl) optN ?_
    first | refine ARun.nilPe rfl rfl rfl rfl (Ev.plain rfl) optN ?_ | refine ARun.nilFn rfl rfl rfl rfl (Ev.plain rfl) optN ?_ | refine ARun.nilBox rfl rfl rfl rfl (Ev.plain rfl) (atO hi) optN ?_
    refine ARun.fieldBox (fo := 0) rfl rfl rfl rfl Tryd.underlying62 rfl rfl sz60 (by decide) (Ev.plain rfl) (atO hi) optN ?_
    refine ARun.indexBox (fo := 0 + j * 3) rfl rfl rfl rfl Tryd.underlying60 sz59 (Ev.plain rfl) (atO hi) (Ev.plain rfl) (j := j) (fun hg => by first | rfl | omega) (fun hg => by first | decide | omega) rfl optN ?_
    refine ARun.fieldBox (fo := 0 + j * 3 + 0) rfl rfl rfl rfl Tryd.underlying59 rfl rfl sz9 (by decide) (Ev.plain rfl) (atO hi) optN ?_
    refine ARun.loadBox rfl rfl rfl rfl Tryd.underlying9 rfl (Ev.plain rfl) (atO hi) (dk_s d j hj) optN ?_
    refine ARun.move (.inr rfl) rfl rfl rfl (Ev.plain rfl) optN ?_
    refine ARun.move (.inr rfl) rfl rfl rfl (Ev.plain rfl) optN ?_
    refine ⟨_, _, rfl, hG, ?_⟩
    refine thenA_n ?_
    refine AWP.ret ?_
    refine endF.toG (congrArg (fun c => H.set i (AO.box c)) rfl) ?_
    refine endF.many (.inr rfl) (rs := [.tmp 4, .tmp 5]) rfl (.cons (.tmp rfl) (.cons (.tmp rfl) .nil)) (by simp) ?_ (by rw [List.length_set]; exact hN)
    rw [readP, if_neg (by simp [hup])]; rfl
set_option maxHeartbeats 1000000 in
theorem synced_fn (d : Dk) (a : Int) : FnM Tryd.prog 21 (fun i => [.box i 0, .int .i64 a]) (aDk d) (.int .i64 (syncedP d a)) (aDk d) := by
  refine FnM.of Tryd.func21 rfl rfl (fun i => by simp) (fun H i m hHm hi hG => ?_)
  have hN : NoH H.length (.int .i64 (syncedP d a)) := (by simp [AV.cells, aDk, aRD, rdc, aCh])
  refine AWP.seq ?_
  refine AWP.region (fun _ => ?_)
  refine ARun.move (.inr rfl) rfl rfl rfl (Ev.plain rfl) optN ?_
  refine ⟨_, _, rfl, hG, ?_⟩
  refine thenA_n ?_
  refine AWP.seq ?_
  refine AWP.seq ?_
  refine AWP.region (fun _ => ?_)
  refine ARun.move (.inl rfl) rfl rfl rfl (Ev.plain rfl) optN ?_
  refine ARun.callR rfl rfl rfl rfl cf29 (Ev.plain rfl) (.cons (Ev.plain rfl) .nil) rfl (fun hg => FnM.keep (made_fn d) (atO hi)) optN ?_
  refine ARun.not rfl rfl rfl rfl (Ev.plain rfl) optN ?_
  refine ARun.move (.inl rfl) rfl rfl rfl (Ev.plain rfl) optN ?_
  refine ARun.move (.inl rfl) rfl rfl rfl (Ev.plain rfl) optS ?_
  refine ARun.cmp rfl rfl rfl rfl (Ev.opt rfl (fun h => h)) (Ev.plain rfl) rfl optS ?_
  refine ARun.pick rfl rfl rfl rfl (Ev.plain rfl) (Ev.plain rfl) (Ev.opt rfl (by first | exact pkF | exact pkF2 | simp +contextual)) (orB _ _) optN ?_
  refine ARun.move (.inl rfl) rfl rfl rfl (Ev.plain rfl) optN ?_
  refine ARun.move (.inl rfl) rfl rfl rfl (Ev.plain rfl) optS ?_
  refine ARun.cmp rfl rfl rfl rfl (Ev.opt rfl (fun h => h)) (Ev.plain rfl) rfl optS ?_
  refine ARun.pick rfl rfl rfl rfl (Ev.plain rfl) (Ev.plain rfl) (Ev.opt rfl (by first | exact pkF | exact pkF2 | simp +contextual)) (orB _ _) optN ?_
  refine ⟨_, _, rfl, hG, ?_⟩
  refine thenA_n ?_
  refine AWP.cond rfl (fun h0 => ?_) (fun h0 => ?_)
  · skip
    simp [madeP] at h0
    refine AWP.seq ?_
    refine AWP.region (fun _ => ?_)
    refine ARun.move (.inr rfl) rfl rfl rfl (Ev.plain rfl) optN ?_
    refine ⟨_, _, rfl, hG, ?_⟩
    refine thenA_n ?_
    refine AWP.ret ?_
    refine thenA_r ?_
    refine endF.toG (congrArg (fun c => H.set i (AO.box c)) rfl) ?_
    refine endF.one (.inr rfl) rfl (.tmp rfl) ?_ (by rw [List.length_set]; exact hN)
    rw [syncedP, if_pos (by omega)]; rfl
  · skip
    simp [madeP] at h0
    obtain ⟨j, rfl, hj⟩ : ∃ j : Nat, a = (j : Int) ∧ j < 2 := ⟨a.toNat, by omega, by omega⟩
    refine AWP.skip ?_
    refine thenA_n ?_
    refine AWP.seq ?_
    refine AWP.region (fun _ => ?_)
    refine ARun.move (.inl rfl) rfl rfl rfl (Ev.plain rfl) optN ?_
    refine ARun.move (.inl rfl) rfl rfl rfl (Ev.plain rfl) optN ?_
    first | refine ARun.nilPe rfl rfl rfl rfl (Ev.plain rfl) optN ?_ | refine ARun.nilFn rfl rfl rfl rfl (Ev.plain rfl) optN ?_ | refine ARun.nilBox rfl rfl rfl rfl (Ev.plain rfl) (atO hi) optN ?_
    refine ARun.fieldBox (fo := 0) rfl rfl rfl rfl Tryd.underlying62 rfl rfl sz60 (by decide) (Ev.plain rfl) (atO hi) optN ?_
    refine ARun.indexBox (fo := 0 + j * 3) rfl rfl rfl rfl Tryd.underlying60 sz59 (Ev.plain rfl) (atO hi) (Ev.plain rfl) (j := j) (fun hg => by first | rfl | omega) (fun hg => by first | decide | omega) rfl optN ?_
    refine ARun.fieldBox (fo := 0 + j * 3 + 1) rfl rfl rfl rfl Tryd.underlying59 rfl rfl sz3 (by decide) (Ev.plain rfl) (atO hi) optN ?_
    refine ARun.loadBox rfl rfl rfl rfl Tryd.underlying3 rfl (Ev.plain rfl) (atO hi) (dk_safe d j hj) optN ?_
    refine ARun.move (.inr rfl) rfl rfl rfl (Ev.plain rfl) optN ?_
    refine ⟨_, _, rfl, hG, ?_⟩
    refine thenA_n ?_
    refine AWP.ret ?_
    refine endF.toG (congrArg (fun c => H.set i (AO.box c)) rfl) ?_
    refine endF.one (.inr rfl) rfl (.tmp rfl) ?_ (by rw [List.length_set]; exact hN)
    rw [syncedP, if_neg (by omega)]; rfl
end Go.Proofs.YtfjmmebjfllciaaDoor
