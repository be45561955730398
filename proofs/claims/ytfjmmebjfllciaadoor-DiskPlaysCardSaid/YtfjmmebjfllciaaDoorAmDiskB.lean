/- More of it. -/
import Derived.Test.YtfjmmebjfllciaaDoorAmDiskA
namespace Go.Proofs.YtfjmmebjfllciaaDoor
set_option linter.unusedVariables false
set_option linter.unusedSimpArgs false
open Go.RowKit
set_option maxRecDepth 100000
theorem code_new (op : ByteArray) (c : Int) : (Er.new op c).code = c := by
  unfold Er.new
  by_cases h : c = 0
  · rw [if_pos h, h]; rfl
  · rw [if_neg h, code_of rfl]
    show (match (some c : Option Int) with | some c => if c = 0 then 2 else c | Option.none => 2) = c
    simp [h]
theorem new_zero (op : ByteArray) : Er.new op 0 = .none := rfl
theorem left_ok (f : Fl) (h : 0 ≤ f.safe ∧ f.safe ≤ f.s.size) : f.safe = (f.safe.toNat : Int) := by omega
set_option maxHeartbeats 1000000 in
theorem arm_fn (d : Dk) (k : Int) : FnM Tryd.prog 33 (fun i => [.box i 0, .int .i64 k]) (aDk d) (aEr (Er.new ⟨#[100, 105, 115, 107]⟩ (armP d k).2)) (aDk (armP d k).1) := by
  refine FnM.of Tryd.func33 rfl rfl (fun i => by simp) (fun H i m hHm hi hG => ?_)
  have hN : NoH H.length (aEr (Er.new ⟨#[100, 105, 115, 107]⟩ (armP d k).2)) := (by simp [AV.cells, aDk, aRD, rdc, aCh])
  refine AWP.seq ?_
  refine AWP.region (fun _ => ?_)
  refine ARun.move (.inr rfl) rfl rfl rfl (Ev.plain rfl) optN ?_
  refine ⟨_, _, rfl, hG, ?_⟩
  refine thenA_n ?_
  refine AWP.seq ?_
  refine AWP.region (fun _ => ?_)
  refine ARun.move (.inl rfl) rfl rfl rfl (Ev.plain rfl) optN ?_
  refine ARun.callR rfl rfl rfl rfl cf24 (Ev.plain rfl) (.cons (Ev.plain rfl) (.cons (Ev.plain rfl) .nil)) rfl (fun hg => FnM.keep (up_fn d 0) (atO hi)) optN ?_
  refine ARun.move (.inr rfl) rfl rfl rfl (Ev.plain rfl) optN ?_
  refine ⟨_, _, rfl, hG, ?_⟩
  refine thenA_n ?_
  refine AWP.seq ?_
  refine AWP.seq ?_
  refine AWP.region (fun _ => ?_)
  refine ARun.move (.inl rfl) rfl rfl rfl (Ev.plain rfl) optN ?_
  refine ARun.cmp rfl rfl rfl rfl (Ev.plain rfl) (Ev.plain rfl) rfl optN ?_
  refine ARun.move (.inl rfl) rfl rfl rfl (Ev.plain rfl) optN ?_
  refine ARun.move (.inl rfl) rfl rfl rfl (Ev.plain rfl) optS ?_
  refine ARun.cmp rfl rfl rfl rfl (Ev.opt rfl (fun h => h)) (Ev.plain rfl) rfl optS ?_
  refine ARun.move (.inl rfl) rfl rfl rfl (Ev.opt rfl (fun h => h)) optS ?_
  refine ARun.move (.inl rfl) rfl rfl rfl (Ev.plain rfl) optS ?_
  refine ARun.cmp rfl rfl rfl rfl (Ev.opt rfl (fun h => h)) (Ev.plain rfl) rfl optS ?_
  refine ARun.pick rfl rfl rfl rfl (Ev.opt rfl (fun h => h)) (Ev.plain rfl) (Ev.opt rfl (by first | exact pkF | exact pkF2 | simp +contextual)) (orB _ _) optS ?_
  refine ARun.pick rfl rfl rfl rfl (Ev.plain rfl) (Ev.opt rfl (by first | exact pkT | exact pkT2 | simp +contextual)) (Ev.plain rfl) (andB _ _) optN ?_
  refine ⟨_, _, rfl, hG, ?_⟩
  refine thenA_n ?_
  refine AWP.cond rfl (fun h0 => ?_) (fun h0 => ?_)
  · skip
    try simp at h0
    refine AWP.region (fun _ => ?_)
    refine ARun.move (.inr rfl) rfl rfl rfl (Ev.plain rfl) optN ?_
    refine ⟨_, _, rfl, hG, ?_⟩
    refine thenA_n ?_
    refine AWP.seq ?_
    refine AWP.seq ?_
    refine AWP.region (fun _ => ?_)
    refine ARun.move (.inl rfl) rfl rfl rfl (Ev.plain rfl) optN ?_
    refine ARun.cmp rfl rfl rfl rfl (Ev.plain rfl) (Ev.plain rfl) rfl optN ?_
    refine ⟨_, _, rfl, hG, ?_⟩
    refine thenA_n ?_
    refine AWP.cond rfl (fun h1 => ?_) (fun h1 => ?_)
    · skip
      try simp at h1
      refine AWP.seq ?_
      refine AWP.region (fun _ => ?_)
      refine ARun.move (.inl rfl) rfl rfl rfl (Ev.plain rfl) optN ?_
      refine ARun.call rfl rfl rfl rfl cf23 (Ev.plain rfl) (.cons (Ev.plain rfl) .nil) rfl (fun hg => told_fn _) optN ?_
      refine ARun.move (.inr rfl) rfl rfl rfl (Ev.plain rfl) optN ?_
      refine ⟨_, _, rfl, hG, ?_⟩
      refine thenA_n ?_
      refine AWP.ret ?_
      refine thenA_r ?_
      refine endF.toG (congrArg (fun c => H.set i (AO.box c)) (by rw [armP, if_neg (by simp [h0.1]), if_pos h0.2])) ?_
      refine endF.one (.inr rfl) rfl (.tmp rfl) ?_ (by rw [List.length_set]; exact hN)
      rw [armP, if_neg (by simp [h0.1]), if_pos h0.2]
    · skip
      simp at h1
  · skip
    try simp at h0
    refine AWP.skip ?_
    refine thenA_n ?_
    refine AWP.seq ?_
    refine AWP.seq ?_
    refine AWP.region (fun _ => ?_)
    refine ARun.move (.inl rfl) rfl rfl rfl (Ev.plain rfl) optN ?_
    refine ARun.cmp rfl rfl rfl rfl (Ev.plain rfl) (Ev.plain rfl) rfl optN ?_
    refine ⟨_, _, rfl, hG, ?_⟩
    refine thenA_n ?_
    refine AWP.cond rfl (fun h2 => ?_) (fun h2 => ?_)
    · skip
      try simp at h2
      refine AWP.seq ?_
      refine AWP.region (fun _ => ?_)
      refine ARun.move (.inl rfl) rfl rfl rfl (Ev.plain rfl) optN ?_
      refine ARun.call rfl rfl rfl rfl cf23 (Ev.plain rfl) (.cons (Ev.plain rfl) .nil) rfl (fun hg => told_fn _) optN ?_
      refine ARun.move (.inr rfl) rfl rfl rfl (Ev.plain rfl) optN ?_
      refine ⟨_, _, rfl, hG, ?_⟩
      refine thenA_n ?_
      refine AWP.ret ?_
      refine thenA_r ?_
      refine endF.toG (congrArg (fun c => H.set i (AO.box c)) (by rw [armP, if_pos h2])) ?_
      refine endF.one (.inr rfl) rfl (.tmp rfl) ?_ (by rw [List.length_set]; exact hN)
      rw [armP, if_pos h2]
    · skip
      try simp at h2
      refine AWP.skip ?_
      refine thenA_n ?_
      refine AWP.seq ?_
      refine AWP.region (fun _ => ?_)
      refine ARun.move (.inl rfl) rfl rfl rfl (Ev.plain rfl) optN ?_
      refine ARun.move (.inl rfl) rfl rfl rfl (Ev.plain rfl) optN ?_
      first | refine ARun.nilPe rfl rfl rfl rfl (Ev.plain rfl) optN ?_ | refine ARun.nilFn rfl rfl rfl rfl (Ev.plain rfl) optN ?_ | refine ARun.nilBox rfl rfl rfl rfl (Ev.plain rfl) (atO hi) optN ?_
      refine ARun.fieldBox (fo := 8) rfl rfl rfl rfl Tryd.underlying62 rfl rfl sz3 (by decide) (Ev.plain rfl) (atO hi) optN ?_
      refine ARun.storeO1 hi hG rfl rfl rfl sz3 (Ev.plain rfl) (Ev.plain rfl) (by first | rfl | exact aEr_one _ | exact aFl_one _) (Nat.le_of_ble_eq_true rfl) rfl (by first | exact noH_aDk _ _ | (simp; done) | (simp [cAV]; done)) (fun hG => ?_)
      refine ⟨_, _, rfl, hG, ?_⟩
      refine thenA_n ?_
      refine AWP.seq ?_
      refine AWP.region (fun _ => ?_)
      refine ARun.move (.inr rfl) rfl rfl rfl (Ev.plain rfl) optN ?_
      refine ⟨_, _, rfl, hG, ?_⟩
      refine thenA_n ?_
      refine AWP.ret ?_
      refine endF.toG (congrArg (fun c => H.set i (AO.box c)) (by rw [armP, if_neg (by simp [h2]), if_neg (by have := h0 h2; omega)]; rfl)) ?_
      refine endF.one (.inr rfl) rfl (.tmp rfl) ?_ (by rw [List.length_set]; exact hN)
      rw [armP, if_neg (by simp [h2]), if_neg (by have := h0 h2; omega)]; rfl
set_option maxHeartbeats 1000000 in
theorem off_fn (d : Dk) : FnM Tryd.prog 11 (fun i => [.box i 0]) (aDk d) (aEr (Er.new ⟨#[100, 105, 115, 107]⟩ (offP d).2)) (aDk (offP d).1) := by
  refine FnM.of Tryd.func11 rfl rfl (fun i => by simp) (fun H i m hHm hi hG => ?_)
  have hN : NoH H.length (aEr (Er.new ⟨#[100, 105, 115, 107]⟩ (offP d).2)) := (by simp [AV.cells, aDk, aRD, rdc, aCh])
  refine AWP.seq ?_
  refine AWP.region (fun _ => ?_)
  refine ARun.move (.inr rfl) rfl rfl rfl (Ev.plain rfl) optN ?_
  refine ⟨_, _, rfl, hG, ?_⟩
  refine thenA_n ?_
  refine AWP.seq ?_
  refine AWP.seq ?_
  refine AWP.region (fun _ => ?_)
  refine ARun.move (.inl rfl) rfl rfl rfl (Ev.plain rfl) optN ?_
  refine ARun.callR rfl rfl rfl rfl cf29 (Ev.plain rfl) (.cons (Ev.plain rfl) .nil) rfl (fun hg => FnM.keep (made_fn d) (atO hi)) optN ?_
  refine ARun.not rfl rfl rfl rfl (Ev.plain rfl) optN ?_
  refine ⟨_, _, rfl, hG, ?_⟩
  refine thenA_n ?_
  refine AWP.cond rfl (fun h0 => ?_) (fun h0 => ?_)
  · skip
    simp [madeP] at h0
    refine AWP.seq ?_
    refine AWP.region (fun _ => ?_)
    refine ARun.call rfl rfl rfl rfl cf23 (Ev.plain rfl) (.cons (Ev.plain rfl) .nil) rfl (fun hg => told_fn 1) optN ?_
    refine ARun.move (.inr rfl) rfl rfl rfl (Ev.plain rfl) optN ?_
    refine ⟨_, _, rfl, hG, ?_⟩
    refine thenA_n ?_
    refine AWP.ret ?_
    refine thenA_r ?_
    refine endF.toG (congrArg (fun c => H.set i (AO.box c)) (by rw [offP, if_pos h0])) ?_
    refine endF.one (.inr rfl) rfl (.tmp rfl) ?_ (by rw [List.length_set]; exact hN)
    rw [offP, if_pos h0]
  · skip
    simp [madeP] at h0
    refine AWP.skip ?_
    refine thenA_n ?_
    refine AWP.seq ?_
    refine AWP.region (fun _ => ?_)
    refine ARun.move (.inl rfl) rfl rfl rfl (Ev.plain rfl) optN ?_
    first | refine ARun.nilPe rfl rfl rfl rfl (Ev.plain rfl) optN ?_ | refine ARun.nilFn rfl rfl rfl rfl (Ev.plain rfl) optN ?_ | refine ARun.nilBox rfl rfl rfl rfl (Ev.plain rfl) (atO hi) optN ?_
    refine ARun.fieldBox (fo := 9) rfl rfl rfl rfl Tryd.underlying62 rfl rfl sz4 (by decide) (Ev.plain rfl) (atO hi) optN ?_
    refine ARun.storeO1 hi hG rfl rfl rfl sz4 (Ev.plain rfl) (Ev.plain rfl) (by first | rfl | exact aEr_one _ | exact aFl_one _) (Nat.le_of_ble_eq_true rfl) rfl (by first | exact noH_aDk _ _ | (simp; done) | (simp [cAV]; done)) (fun hG => ?_)
    refine ⟨_, _, rfl, hG, ?_⟩
    refine thenA_n ?_
    refine AWP.seq ?_
    refine AWP.region (fun _ => ?_)
    refine ARun.move (.inr rfl) rfl rfl rfl (Ev.plain rfl) optN ?_
    refine ⟨_, _, rfl, hG, ?_⟩
    refine thenA_n ?_
    refine AWP.ret ?_
    refine endF.toG (congrArg (fun c => H.set i (AO.box c)) (by rw [offP, if_neg (by omega)]; rfl)) ?_
    refine endF.one (.inr rfl) rfl (.tmp rfl) ?_ (by rw [List.length_set]; exact hN)
    rw [offP, if_neg (by omega)]; rfl
set_option maxHeartbeats 1000000 in
theorem dead_fn (d : Dk) : FnM Tryd.prog 20 (fun i => [.box i 0]) (aDk d) (.bool (deadP d)) (aDk d) := by
  refine FnM.of Tryd.func20 rfl rfl (fun i => by simp) (fun H i m hHm hi hG => ?_)
  have hN : NoH H.length (.bool (deadP d)) := (by simp [AV.cells, aDk, aRD, rdc, aCh])
  refine AWP.seq ?_
  refine AWP.region (fun _ => ?_)
  refine ARun.move (.inr rfl) rfl rfl rfl (Ev.plain rfl) optN ?_
  refine ⟨_, _, rfl, hG, ?_⟩
  refine thenA_n ?_
  refine AWP.seq ?_
  refine AWP.region (fun _ => ?_)
  refine ARun.move (.inl rfl) rfl rfl rfl (Ev.plain rfl) optN ?_
  refine ARun.callR rfl rfl rfl rfl cf29 (Ev.plain rfl) (.cons (Ev.plain rfl) .nil) rfl (fun hg => FnM.keep (made_fn d) (atO hi)) optN ?_
  refine ARun.not rfl rfl rfl rfl (Ev.plain rfl) optN ?_
  refine ARun.move (.inl rfl) rfl rfl rfl (Ev.plain rfl) optN ?_
  refine ARun.move (.inl rfl) rfl rfl rfl (Ev.plain rfl) optS ?_
  first | refine ARun.nilPe rfl rfl rfl rfl (Ev.opt rfl (fun h => h)) optS ?_ | refine ARun.nilFn rfl rfl rfl rfl (Ev.opt rfl (fun h => h)) optS ?_ | refine ARun.nilBox rfl rfl rfl rfl (Ev.opt rfl (fun h => h)) (atO hi) optS ?_
  refine ARun.fieldBox (fo := 9) rfl rfl rfl rfl Tryd.underlying62 rfl rfl sz4 (by decide) (Ev.opt rfl (fun h => h)) (atO hi) optS ?_
  refine ARun.loadBox rfl rfl rfl rfl Tryd.underlying4 rfl (Ev.opt rfl (fun h => h)) (atO hi) rfl optS ?_
  refine ARun.pick rfl rfl rfl rfl (Ev.plain rfl) (Ev.plain rfl) (Ev.opt rfl (by first | exact pkF | exact pkF2 | simp +contextual)) (orB _ _) optN ?_
  refine ARun.move (.inr rfl) rfl rfl rfl (Ev.plain rfl) optN ?_
  refine ⟨_, _, rfl, hG, ?_⟩
  refine thenA_n ?_
  refine AWP.ret ?_
  refine endF.toG (congrArg (fun c => H.set i (AO.box c)) rfl) ?_
  refine endF.one (.inr rfl) rfl (.tmp rfl) ?_ (by rw [List.length_set]; exact hN)
  by_cases h : 0 < d.room
  · simp [deadP, madeP, h, show ¬ d.room ≤ 0 by omega]
  · simp [deadP, madeP, h, show d.room ≤ 0 by omega]
set_option maxHeartbeats 1000000 in
theorem ops_fn (d : Dk) : FnM Tryd.prog 22 (fun i => [.box i 0]) (aDk d) (.int .i64 (opsP d)) (aDk d) := by
  refine FnM.of Tryd.func22 rfl rfl (fun i => by simp) (fun H i m hHm hi hG => ?_)
  have hN : NoH H.length (.int .i64 (opsP d)) := (by simp [AV.cells, aDk, aRD, rdc, aCh])
  refine AWP.seq ?_
  refine AWP.region (fun _ => ?_)
  refine ARun.move (.inr rfl) rfl rfl rfl (Ev.plain rfl) optN ?_
  refine ⟨_, _, rfl, hG, ?_⟩
  refine thenA_n ?_
  refine AWP.seq ?_
  refine AWP.seq ?_
  refine AWP.region (fun _ => ?_)
  refine ARun.move (.inl rfl) rfl rfl rfl (Ev.plain rfl) optN ?_
  refine ARun.callR rfl rfl rfl rfl cf29 (Ev.plain rfl) (.cons (Ev.plain rfl) .nil) rfl (fun hg => FnM.keep (made_fn d) (atO hi)) optN ?_
  refine ARun.not rfl rfl rfl rfl (Ev.plain rfl) optN ?_
  refine ⟨_, _, rfl, hG, ?_⟩
  refine thenA_n ?_
  refine AWP.cond rfl (fun h0 => ?_) (fun h0 => ?_)
  · skip
    simp [madeP] at h0
    refine AWP.seq ?_
    refine AWP.region (fun _ => ?_)
    refine ARun.move (.inr rfl) rfl rfl rfl (Ev.plain rfl) optN ?_
    refine ⟨_, _, rfl, hG, ?_⟩
    refine thenA_n ?_
    refine AWP.ret ?_
    refine thenA_r ?_
    refine endF.toG (congrArg (fun c => H.set i (AO.box c)) rfl) ?_
    refine endF.one (.inr rfl) rfl (.tmp rfl) ?_ (by rw [List.length_set]; exact hN)
    rw [opsP, if_pos h0]; rfl
  · skip
    simp [madeP] at h0
    refine AWP.skip ?_
    refine thenA_n ?_
    refine AWP.seq ?_
    refine AWP.region (fun _ => ?_)
    refine ARun.move (.inl rfl) rfl rfl rfl (Ev.plain rfl) optN ?_
    first | refine ARun.nilPe rfl rfl rfl rfl (Ev.plain rfl) optN ?_ | refine ARun.nilFn rfl rfl rfl rfl (Ev.plain rfl) optN ?_ | refine ARun.nilBox rfl rfl rfl rfl (Ev.plain rfl) (atO hi) optN ?_
    refine ARun.fieldBox (fo := 7) rfl rfl rfl rfl Tryd.underlying62 rfl rfl sz3 (by decide) (Ev.plain rfl) (atO hi) optN ?_
    refine ARun.loadBox rfl rfl rfl rfl Tryd.underlying3 rfl (Ev.plain rfl) (atO hi) rfl optN ?_
    refine ARun.move (.inr rfl) rfl rfl rfl (Ev.plain rfl) optN ?_
    refine ⟨_, _, rfl, hG, ?_⟩
    refine thenA_n ?_
    refine AWP.ret ?_
    refine endF.toG (congrArg (fun c => H.set i (AO.box c)) rfl) ?_
    refine endF.one (.inr rfl) rfl (.tmp rfl) ?_ (by rw [List.length_set]; exact hN)
    rw [opsP, if_neg (by omega)]
set_option maxHeartbeats 1000000 in
theorem left_fn (f : Fl) (c : Ch) (h : 0 ≤ f.safe ∧ f.safe ≤ f.s.size) (hs : f.s.size ≤ 1000000) (hc : c.trash.size ≤ 1000000) : FnP Tryd.prog 30 [aFi f, aCh c] (aFi (leftP f c)) := by
  have e0 := left_ok f h
  have hk : (keepP f c : Int) = min (max c.keep 0) ((f.s.size : Int) - f.safe) := by unfold keepP; omega
  have hx := set_size f.s f.safe.toNat f.s.size (by omega) (Nat.le_refl _)
  refine FnP.of Tryd.func30 rfl rfl (by simp) (by simp [aFi]) (fun G hG => ?_)
  have hN : NoH G.length (aFi (leftP f c)) := (by simp [aFi])
  refine AWP.seq ?_
  refine AWP.region (fun _ => ?_)
  refine ARun.boxPe rfl rfl rfl rfl (Ev.plain rfl) rfl rfl optN ?_
  refine ARun.boxPe rfl rfl rfl rfl (Ev.plain rfl) rfl rfl optN ?_
  refine ARun.alloc (j := 0) hG rfl rfl rfl rfl rfl zv59 rfl optN ?_
  refine ⟨_, _, rfl, hG, ?_⟩
  refine thenA_n ?_
  refine AWP.seq ?_
  refine AWP.seq ?_
  refine AWP.region (fun _ => ?_)
  refine ARun.fieldPe rfl rfl rfl rfl Tryd.underlying59 rfl rfl sz4 (by decide) (Ev.plain rfl) rfl optN ?_
  refine ARun.loadPe rfl rfl rfl rfl Tryd.underlying4 rfl (Ev.plain rfl) rfl optN ?_
  refine ARun.move (.inl rfl) rfl rfl rfl (Ev.plain rfl) optN ?_
  refine ARun.fieldPe rfl rfl rfl rfl Tryd.underlying23 rfl rfl sz4 (by decide) (Ev.plain rfl) rfl optS ?_
  refine ARun.loadPe rfl rfl rfl rfl Tryd.underlying4 rfl (Ev.opt rfl (fun h => h)) rfl optS ?_
  refine ARun.pick rfl rfl rfl rfl (Ev.plain rfl) (Ev.opt rfl (by first | exact pkT | exact pkT2 | simp +contextual)) (Ev.plain rfl) (andB _ _) optN ?_
  refine ⟨_, _, rfl, hG, ?_⟩
  refine thenA_n ?_
  refine AWP.cond rfl (fun h0 => ?_) (fun h0 => ?_)
  · skip
    simp at h0
    refine AWP.seq ?_
    refine AWP.region (fun _ => ?_)
    refine ARun.build rfl rfl rfl rfl so59 .nil rfl rfl optN ?_
    refine ARun.storeL hG rfl rfl rfl sz59 (Ev.plain rfl) (Ev.plain rfl) rfl rfl rfl rfl rfl (Nat.le_of_ble_eq_true rfl) rfl rfl ?_
    refine ⟨_, _, rfl, hG, ?_⟩
    refine thenA_n ?_
    refine AWP.ret ?_
    refine thenA_r ?_
    refine endF.one (.inr rfl) rfl (.cellA rfl ((hG.at _ _).trans rfl) Tryd.underlying59 rfl sz59 rfl rfl) ?_ hN
    rw [leftP, if_pos h0]; rfl
  · skip
    simp at h0
    refine AWP.skip ?_
    refine thenA_n ?_
    refine AWP.seq ?_
    refine AWP.region (fun _ => ?_)
    refine ARun.fieldPe rfl rfl rfl rfl Tryd.underlying59 rfl rfl sz9 (by decide) (Ev.plain rfl) rfl optN ?_
    refine ARun.loadPe rfl rfl rfl rfl Tryd.underlying9 rfl (Ev.plain rfl) rfl optN ?_
    refine ARun.fieldPe rfl rfl rfl rfl Tryd.underlying59 rfl rfl sz3 (by decide) (Ev.plain rfl) rfl optN ?_
    refine ARun.loadPe rfl rfl rfl rfl Tryd.underlying3 rfl (Ev.plain rfl) rfl optN ?_
    refine ARun.cutStr (a := f.safe.toNat) (b := f.s.size) rfl rfl rfl rfl Tryd.underlying9 (Ev.plain rfl) ⟨_, _, (Ev.plain rfl), fun hg => (by (try simp at hg); omega)⟩ (fun _ => rfl) (fun hg => (by (try simp at hg); omega)) rfl optN ?_
    refine ARun.move (.inr rfl) rfl rfl rfl (Ev.plain rfl) optN ?_
    refine ⟨_, _, rfl, hG, ?_⟩
    refine thenA_n ?_
    refine AWP.seq ?_
    refine AWP.region (fun _ => ?_)
    refine ARun.fieldPe rfl rfl rfl rfl Tryd.underlying23 rfl rfl sz3 (by decide) (Ev.plain rfl) rfl optN ?_
    refine ARun.loadPe rfl rfl rfl rfl Tryd.underlying3 rfl (Ev.plain rfl) rfl optN ?_
    refine ARun.minmax rfl rfl rfl rfl (Ev.plain rfl) (Ev.plain rfl) (.inr ⟨rfl, rfl⟩) optN ?_
    refine ARun.move (.inl rfl) rfl rfl rfl (Ev.plain rfl) optN ?_
    refine ARun.lenStr rfl rfl rfl rfl Tryd.underlying9 (Ev.plain rfl) optN ?_
    refine ARun.minmax rfl rfl rfl rfl (Ev.plain rfl) (Ev.plain rfl) (.inl ⟨rfl, rfl⟩) optN ?_
    refine ARun.move (.inr rfl) rfl rfl rfl (Ev.plain rfl) optN ?_
    refine ⟨_, _, rfl, hG, ?_⟩
    refine thenA_n ?_
    refine AWP.seq ?_
    refine AWP.draw mixed (by kernel_rfl) (fun _ => ?_)
    refine ARun.fieldPe rfl rfl rfl rfl Tryd.underlying59 rfl rfl sz9 (by decide) (Ev.plain rfl) rfl optN ?_
    refine ARun.loadPe rfl rfl rfl rfl Tryd.underlying9 rfl (Ev.plain rfl) rfl optN ?_
    refine ARun.fieldPe rfl rfl rfl rfl Tryd.underlying59 rfl rfl sz3 (by decide) (Ev.plain rfl) rfl optN ?_
    refine ARun.loadPe rfl rfl rfl rfl Tryd.underlying3 rfl (Ev.plain rfl) rfl optN ?_
    refine ARun.move (.inl rfl) rfl rfl rfl (Ev.plain rfl) optN ?_
    first | refine ARun.arith rfl rfl rfl rfl (Ev.plain rfl) (Ev.plain rfl) rfl (fun hg => i64w (by (try simp at hg); omega)) optN ?_ | refine ARun.arith rfl rfl rfl rfl (Ev.plain rfl) (Ev.plain rfl) rfl (fun _ => rfl) optN ?_
    refine ARun.cutStr (a := 0) (b := (f.safe.toNat + keepP f c)) rfl rfl rfl rfl Tryd.underlying9 (Ev.plain rfl) (fun _ => rfl) ⟨_, _, (Ev.plain rfl), fun hg => (by (try simp at hg); omega)⟩ (fun hg => (by (try simp at hg); omega)) rfl optN ?_
    refine ARun.fieldPe rfl rfl rfl rfl Tryd.underlying23 rfl rfl sz9 (by decide) (Ev.plain rfl) rfl optN ?_
    refine ARun.loadPe rfl rfl rfl rfl Tryd.underlying9 rfl (Ev.plain rfl) rfl optN ?_
    refine ARun.fieldPe rfl rfl rfl rfl Tryd.underlying23 rfl rfl sz9 (by decide) (Ev.plain rfl) rfl optN ?_
    refine ARun.loadPe rfl rfl rfl rfl Tryd.underlying9 rfl (Ev.plain rfl) rfl optN ?_
    refine ARun.lenStr rfl rfl rfl rfl Tryd.underlying9 (Ev.plain rfl) optN ?_
    refine ARun.move (.inl rfl) rfl rfl rfl (Ev.plain rfl) optN ?_
    refine ARun.lenStr rfl rfl rfl rfl Tryd.underlying9 (Ev.plain rfl) optN ?_
    refine ARun.move (.inl rfl) rfl rfl rfl (Ev.plain rfl) optN ?_
    first | refine ARun.arith rfl rfl rfl rfl (Ev.plain rfl) (Ev.plain rfl) rfl (fun hg => i64w (by (try simp at hg); omega)) optN ?_ | refine ARun.arith rfl rfl rfl rfl (Ev.plain rfl) (Ev.plain rfl) rfl (fun _ => rfl) optN ?_
    refine ARun.minmax rfl rfl rfl rfl (Ev.plain rfl) (Ev.plain rfl) (.inl ⟨rfl, rfl⟩) optN ?_
    refine ARun.cutStr (a := 0) (b := (min c.trash.size (f.s.size - f.safe.toNat - keepP f c))) rfl rfl rfl rfl Tryd.underlying9 (Ev.plain rfl) (fun _ => rfl) ⟨_, _, (Ev.plain rfl), fun hg => (by (try simp at hg); omega)⟩ (fun hg => (by (try simp at hg); omega)) rfl optN ?_
    refine ARun.cat rfl rfl rfl rfl (Ev.plain rfl) (Ev.plain rfl) (fun hg => (by simp at *; omega)) optN ?_
    refine ARun.move (.inr rfl) rfl rfl rfl (Ev.plain rfl) optN ?_
    refine ⟨by kernel_rfl, _, _, rfl, hG, ?_⟩
    refine thenA_n ?_
    refine AWP.seq ?_
    refine AWP.region (fun _ => ?_)
    refine ARun.move (.inl rfl) rfl rfl rfl (Ev.plain rfl) optN ?_
    refine ARun.move (.inl rfl) rfl rfl rfl (Ev.plain rfl) optN ?_
    refine ARun.lenStr rfl rfl rfl rfl Tryd.underlying9 (Ev.plain rfl) optN ?_
    refine ARun.build rfl rfl rfl rfl so59 (.cons (Ev.plain rfl) (.cons (Ev.plain rfl) .nil)) rfl rfl optN ?_
    refine ARun.storeL hG rfl rfl rfl sz59 (Ev.plain rfl) (Ev.plain rfl) rfl rfl rfl rfl rfl (Nat.le_of_ble_eq_true rfl) rfl rfl ?_
    refine ⟨_, _, rfl, hG, ?_⟩
    refine thenA_n ?_
    refine AWP.ret ?_
    refine endF.one (.inr rfl) rfl (.cellA rfl ((hG.at _ _).trans rfl) Tryd.underlying59 rfl sz59 rfl rfl) ?_ hN
    rw [leftP, if_neg (by rintro ⟨x, y⟩; rw [h0 x] at y; cases y)]; rfl
theorem left_at (f : Fl) (c : Ch) (h : 0 ≤ f.safe ∧ f.safe ≤ f.s.size) (hs : f.s.size ≤ 1000000) (hc : c.trash.size ≤ 1000000) {cs ds : List AV} (h1 : cs = (aFi f).cells) (h2 : ds = (aCh c).cells) : FnP Tryd.prog 30 [.agg cs, .agg ds] (aFi (leftP f c)) := by
  subst h1 h2; exact left_fn f c h hs hc
set_option maxHeartbeats 1000000 in
theorem boot_fn (d : Dk) (a b : Ch) (hok : DOk d) (ha : a.trash.size ≤ 1000000) (hb : b.trash.size ≤ 1000000) : FnM Tryd.prog 12 (fun i => [.box i 0, aCh a, aCh b]) (aDk d) (aEr (Er.new ⟨#[100, 105, 115, 107]⟩ (bootP d a b).2)) (aDk (bootP d a b).1) := by
  refine FnM.of Tryd.func12 rfl rfl (fun i => by simp) (fun H i m hHm hi hG => ?_)
  have hN : NoH H.length (aEr (Er.new ⟨#[100, 105, 115, 107]⟩ (bootP d a b).2)) := (by simp [AV.cells, aDk, aRD, rdc, aCh])
  refine AWP.seq ?_
  refine AWP.region (fun _ => ?_)
  refine ARun.boxPe rfl rfl rfl rfl (Ev.plain rfl) rfl rfl optN ?_
  refine ARun.boxPe rfl rfl rfl rfl (Ev.plain rfl) rfl rfl optN ?_
  refine ARun.move (.inr rfl) rfl rfl rfl (Ev.plain rfl) optN ?_
  refine ⟨_, _, rfl, hG, ?_⟩
  refine thenA_n ?_
  refine AWP.seq ?_
  refine AWP.seq ?_
  refine AWP.region (fun _ => ?_)
  refine ARun.move (.inl rfl) rfl rfl rfl (Ev.plain rfl) optN ?_
  refine ARun.callR rfl rfl rfl rfl cf29 (Ev.plain rfl) (.cons (Ev.plain rfl) .nil) rfl (fun hg => FnM.keep (made_fn d) (atO hi)) optN ?_
  refine ARun.not rfl rfl rfl rfl (Ev.plain rfl) optN ?_
  refine ⟨_, _, rfl, hG, ?_⟩
  refine thenA_n ?_
  refine AWP.cond rfl (fun h0 => ?_) (fun h0 => ?_)
  · skip
    simp [madeP] at h0
    refine AWP.seq ?_
    refine AWP.region (fun _ => ?_)
    refine ARun.call rfl rfl rfl rfl cf23 (Ev.plain rfl) (.cons (Ev.plain rfl) .nil) rfl (fun hg => told_fn 1) optN ?_
    refine ARun.move (.inr rfl) rfl rfl rfl (Ev.plain rfl) optN ?_
    refine ⟨_, _, rfl, hG, ?_⟩
    refine thenA_n ?_
    refine AWP.ret ?_
    refine thenA_r ?_
    refine endF.toG (congrArg (fun c => H.set i (AO.box c)) (by rw [bootP, if_pos h0])) ?_
    refine endF.one (.inr rfl) rfl (.tmp rfl) ?_ (by rw [List.length_set]; exact hN)
    rw [bootP, if_pos h0]
  · skip
    simp [madeP] at h0
    have hfull := hok.full
    have hroom := hok.room
    refine AWP.skip ?_
    refine thenA_n ?_
    refine AWP.seq ?_
    refine AWP.draw mixed (by kernel_rfl) (fun _ => ?_)
    refine ARun.move (.inl rfl) rfl rfl rfl (Ev.plain rfl) optN ?_
    refine ARun.move (.inl rfl) rfl rfl rfl (Ev.plain rfl) optN ?_
    first | refine ARun.nilPe rfl rfl rfl rfl (Ev.plain rfl) optN ?_ | refine ARun.nilFn rfl rfl rfl rfl (Ev.plain rfl) optN ?_ | refine ARun.nilBox rfl rfl rfl rfl (Ev.plain rfl) (atO hi) optN ?_
    refine ARun.fieldBox (fo := 0) rfl rfl rfl rfl Tryd.underlying62 rfl rfl sz60 (by decide) (Ev.plain rfl) (atO hi) optN ?_
    refine ARun.indexBox (fo := 0) rfl rfl rfl rfl Tryd.underlying60 sz59 (Ev.plain rfl) (atO hi) (Ev.plain rfl) (j := 0) (fun hg => by first | rfl | omega) (fun hg => by first | decide | omega) rfl optN ?_
    refine ARun.loadBoxA rfl rfl rfl rfl Tryd.underlying59 rfl sz59 (Ev.plain rfl) (atO hi) rfl rfl optN ?_
    refine ARun.loadPeA rfl rfl rfl rfl Tryd.underlying23 rfl sz23 (Ev.plain rfl) rfl optN ?_
    refine ARun.call rfl rfl rfl rfl cf30 (Ev.plain rfl) (.cons (Ev.plain rfl) (.cons (Ev.plain rfl) .nil)) rfl (fun hg => left_at d.f0 a hok.s0 (by omega) ha rfl rfl) optN ?_
    refine ARun.move (.inl rfl) rfl rfl rfl (Ev.plain rfl) optN ?_
    first | refine ARun.nilPe rfl rfl rfl rfl (Ev.plain rfl) optN ?_ | refine ARun.nilFn rfl rfl rfl rfl (Ev.plain rfl) optN ?_ | refine ARun.nilBox rfl rfl rfl rfl (Ev.plain rfl) (atO hi) optN ?_
    refine ARun.fieldBox (fo := 0) rfl rfl rfl rfl Tryd.underlying62 rfl rfl sz60 (by decide) (Ev.plain rfl) (atO hi) optN ?_
    refine ARun.indexBox (fo := 3) rfl rfl rfl rfl Tryd.underlying60 sz59 (Ev.plain rfl) (atO hi) (Ev.plain rfl) (j := 1) (fun hg => by first | rfl | omega) (fun hg => by first | decide | omega) rfl optN ?_
    refine ARun.loadBoxA rfl rfl rfl rfl Tryd.underlying59 rfl sz59 (Ev.plain rfl) (atO hi) rfl rfl optN ?_
    refine ARun.loadPeA rfl rfl rfl rfl Tryd.underlying23 rfl sz23 (Ev.plain rfl) rfl optN ?_
    refine ARun.call rfl rfl rfl rfl cf30 (Ev.plain rfl) (.cons (Ev.plain rfl) (.cons (Ev.plain rfl) .nil)) rfl (fun hg => left_at d.f1 b hok.s1 (by omega) hb rfl rfl) optN ?_
    refine ARun.buildArr rfl rfl rfl rfl Tryd.underlying60 sz59 zv60 (.cons (Ev.plain rfl) (.cons (Ev.plain rfl) .nil)) rfl rfl optN ?_
    first | refine ARun.nilPe rfl rfl rfl rfl (Ev.plain rfl) optN ?_ | refine ARun.nilFn rfl rfl rfl rfl (Ev.plain rfl) optN ?_ | refine ARun.nilBox rfl rfl rfl rfl (Ev.plain rfl) (atO hi) optN ?_
    refine ARun.fieldBox (fo := 0) rfl rfl rfl rfl Tryd.underlying62 rfl rfl sz60 (by decide) (Ev.plain rfl) (atO hi) optN ?_
    refine ARun.storeO hi hG rfl rfl rfl sz60 (Ev.plain rfl) (Ev.plain rfl) rfl rfl rfl rfl (Nat.le_of_ble_eq_true rfl) rfl (by first | exact noH_aDk _ _ | (simp; done) | (simp [cAV]; done) | (show ∀ x, x ∈ [AV.str (leftP d.f0 a).s, AV.int .i64 (leftP d.f0 a).safe, AV.bool (leftP d.f0 a).half, AV.str (leftP d.f1 b).s, AV.int .i64 (leftP d.f1 b).safe, AV.bool (leftP d.f1 b).half] → NoH _ x; simp)) (fun hG => ?_)
    refine ⟨by kernel_rfl, _, _, rfl, hG, ?_⟩
    refine thenA_n ?_
    refine AWP.seq ?_
    refine AWP.region (fun _ => ?_)
    refine ARun.move (.inl rfl) rfl rfl rfl (Ev.plain rfl) optN ?_
    refine ARun.move (.inl rfl) rfl rfl rfl (Ev.plain rfl) optN ?_
    first | refine ARun.nilPe rfl rfl rfl rfl (Ev.plain rfl) optN ?_ | refine ARun.nilFn rfl rfl rfl rfl (Ev.plain rfl) optN ?_ | refine ARun.nilBox rfl rfl rfl rfl (Ev.plain rfl) (atO hi) optN ?_
    refine ARun.fieldBox (fo := 8) rfl rfl rfl rfl Tryd.underlying62 rfl rfl sz3 (by decide) (Ev.plain rfl) (atO hi) optN ?_
    refine ARun.storeO1 hi hG rfl rfl rfl sz3 (Ev.plain rfl) (Ev.plain rfl) (by first | rfl | exact aEr_one _ | exact aFl_one _) (Nat.le_of_ble_eq_true rfl) rfl (by first | exact noH_aDk _ _ | (simp; done) | (simp [cAV]; done) | (show ∀ x, x ∈ [AV.str (leftP d.f0 a).s, AV.int .i64 (leftP d.f0 a).safe, AV.bool (leftP d.f0 a).half, AV.str (leftP d.f1 b).s, AV.int .i64 (leftP d.f1 b).safe, AV.bool (leftP d.f1 b).half] → NoH _ x; simp)) (fun hG => ?_)
    first | refine ARun.nilPe rfl rfl rfl rfl (Ev.plain rfl) optN ?_ | refine ARun.nilFn rfl rfl rfl rfl (Ev.plain rfl) optN ?_ | refine ARun.nilBox rfl rfl rfl rfl (Ev.plain rfl) (atO hi) optN ?_
    refine ARun.fieldBox (fo := 9) rfl rfl rfl rfl Tryd.underlying62 rfl rfl sz4 (by decide) (Ev.plain rfl) (atO hi) optN ?_
    refine ARun.storeO1 hi hG rfl rfl rfl sz4 (Ev.plain rfl) (Ev.plain rfl) (by first | rfl | exact aEr_one _ | exact aFl_one _) (Nat.le_of_ble_eq_true rfl) rfl (by first | exact noH_aDk _ _ | (simp; done) | (simp [cAV]; done) | (show ∀ x, x ∈ [AV.str (leftP d.f0 a).s, AV.int .i64 (leftP d.f0 a).safe, AV.bool (leftP d.f0 a).half, AV.str (leftP d.f1 b).s, AV.int .i64 (leftP d.f1 b).safe, AV.bool (leftP d.f1 b).half] → NoH _ x; simp)) (fun hG => ?_)
    refine ⟨_, _, rfl, hG, ?_⟩
    refine thenA_n ?_
    refine AWP.seq ?_
    refine AWP.region (fun _ => ?_)
    refine ARun.move (.inr rfl) rfl rfl rfl (Ev.plain rfl) optN ?_
    refine ⟨_, _, rfl, hG, ?_⟩
    refine thenA_n ?_
    refine AWP.ret ?_
    refine endF.toG (congrArg (fun c => H.set i (AO.box c)) (by rw [bootP, if_neg (by omega)]; rfl)) ?_
    refine endF.one (.inr rfl) rfl (.tmp rfl) ?_ (by rw [List.length_set]; exact hN)
    rw [bootP, if_neg (by omega)]; rfl
set_option maxHeartbeats 1000000 in
theorem do_fn (d : Dk) (x : ActP) (hok : DOk d) (ha : x.a.trash.size ≤ 1000000) (hb : x.b.trash.size ≤ 1000000) : FnM Tryd.prog 17 (fun i => [.box i 0, .agg [.int .i64 x.kind, .int .i64 x.n, .str x.text, .int .i64 x.a.keep, .str x.a.trash, .bool x.a.reset, .int .i64 x.b.keep, .str x.b.trash, .bool x.b.reset]]) (aDk d) (.tup [.str (doP d x).2.1, .int .i64 (doP d x).2.2]) (aDk (doP d x).1) := by
  refine FnM.of Tryd.func17 rfl rfl (fun i => by simp) (fun H i m hHm hi hG => ?_)
  have hN : NoH H.length (.tup [.str (doP d x).2.1, .int .i64 (doP d x).2.2]) := (by simp [AV.cells, aDk, aRD, rdc, aCh])
  refine AWP.seq ?_
  refine AWP.region (fun _ => ?_)
  refine ARun.boxPe rfl rfl rfl rfl (Ev.plain rfl) rfl rfl optN ?_
  refine ARun.move (.inr rfl) rfl rfl rfl (Ev.plain rfl) optN ?_
  refine ARun.move (.inr rfl) rfl rfl rfl (Ev.plain rfl) optN ?_
  refine ⟨_, _, rfl, hG, ?_⟩
  refine thenA_n ?_
  refine AWP.seq ?_
  refine AWP.region (fun _ => ?_)
  refine ARun.move (.inr rfl) rfl rfl rfl (Ev.plain rfl) optN ?_
  refine ⟨_, _, rfl, hG, ?_⟩
  refine thenA_n ?_
  refine AWP.seq ?_
  refine AWP.region (fun _ => ?_)
  refine ARun.move (.inr rfl) rfl rfl rfl (Ev.plain rfl) optN ?_
  refine ⟨_, _, rfl, hG, ?_⟩
  refine thenA_n ?_
  refine AWP.seq ?_
  refine AWP.seq ?_
  refine AWP.region (fun _ => ?_)
  refine ARun.fieldPe rfl rfl rfl rfl Tryd.underlying50 rfl rfl sz3 (by decide) (Ev.plain rfl) rfl optN ?_
  refine ARun.loadPe rfl rfl rfl rfl Tryd.underlying3 rfl (Ev.plain rfl) rfl optN ?_
  refine ⟨_, _, rfl, hG, ?_⟩
  refine thenA_n ?_
  refine AWP.block ?_
  refine AWP.seq ?_
  refine AWP.region (fun _ => ?_)
  refine ARun.cmp rfl rfl rfl rfl (Ev.plain rfl) (Ev.plain rfl) rfl optN ?_
  refine ARun.move (.inr rfl) rfl rfl rfl (Ev.plain rfl) optN ?_
  refine ⟨_, _, rfl, hG, ?_⟩
  refine thenA_n ?_
  refine AWP.cond rfl (fun h0 => ?_) (fun h0 => ?_)
  · skip
    simp at h0
    refine AWP.region (fun _ => ?_)
    refine ARun.move (.inl rfl) rfl rfl rfl (Ev.plain rfl) optN ?_
    refine ARun.fieldPe rfl rfl rfl rfl Tryd.underlying50 rfl rfl sz3 (by decide) (Ev.plain rfl) rfl optN ?_
    refine ARun.loadPe rfl rfl rfl rfl Tryd.underlying3 rfl (Ev.plain rfl) rfl optN ?_
    refine ARun.fieldPe rfl rfl rfl rfl Tryd.underlying50 rfl rfl sz9 (by decide) (Ev.plain rfl) rfl optN ?_
    refine ARun.loadPe rfl rfl rfl rfl Tryd.underlying9 rfl (Ev.plain rfl) rfl optN ?_
    refine ARun.callO hi hG rfl rfl rfl rfl cf9 (Ev.plain rfl) (.cons (Ev.plain rfl) (.cons (Ev.plain rfl) (.cons (Ev.plain rfl) .nil))) rfl (append_fn d x.n x.text hok _ _ (atO hi)) (by first | exact noH_aDk _ _ | (simp; done) | (simp [cAV]; done)) optN (fun hG => ?_)
    refine ARun.move (.inr rfl) rfl rfl rfl (Ev.plain rfl) optN ?_
    refine ⟨_, _, rfl, hG, ?_⟩
    refine blockA_n ?_
    refine thenA_n ?_
    refine AWP.seq ?_
    refine AWP.region (fun _ => ?_)
    refine ARun.move (.inl rfl) rfl rfl rfl (Ev.plain rfl) optN ?_
    refine ARun.move (.inl rfl) rfl rfl rfl (Ev.plain rfl) optN ?_
    refine ARun.call rfl rfl rfl rfl cf16 (Ev.plain rfl) (.cons (Ev.plain rfl) .nil) rfl (fun hg => code_fn _) optN ?_
    refine ARun.move (.inr rfl) rfl rfl rfl (Ev.plain rfl) optN ?_
    refine ARun.move (.inr rfl) rfl rfl rfl (Ev.plain rfl) optN ?_
    refine ⟨_, _, rfl, hG, ?_⟩
    refine thenA_n ?_
    refine AWP.ret ?_
    refine endF.toG (congrArg (fun c => H.set i (AO.box c)) (by rw [doP, if_pos h0])) ?_
    refine endF.many (.inr rfl) (rs := [.tmp 4, .tmp 5]) rfl (.cons (.tmp rfl) (.cons (.tmp rfl) .nil)) (by simp) ?_ (by rw [List.length_set]; exact hN)
    rw [doP, if_pos h0]
    simp only [code_new]
    rfl
  · skip
    simp at h0
    refine AWP.seq ?_
    refine AWP.region (fun _ => ?_)
    refine ARun.cmp rfl rfl rfl rfl (Ev.plain rfl) (Ev.plain rfl) rfl optN ?_
    refine ARun.move (.inr rfl) rfl rfl rfl (Ev.plain rfl) optN ?_
    refine ⟨_, _, rfl, hG, ?_⟩
    refine thenA_n ?_
    refine AWP.cond rfl (fun h1 => ?_) (fun h1 => ?_)
    · skip
      simp at h1
      refine AWP.region (fun _ => ?_)
      refine ARun.move (.inl rfl) rfl rfl rfl (Ev.plain rfl) optN ?_
      refine ARun.fieldPe rfl rfl rfl rfl Tryd.underlying50 rfl rfl sz3 (by decide) (Ev.plain rfl) rfl optN ?_
      refine ARun.loadPe rfl rfl rfl rfl Tryd.underlying3 rfl (Ev.plain rfl) rfl optN ?_
      refine ARun.callO hi hG rfl rfl rfl rfl cf10 (Ev.plain rfl) (.cons (Ev.plain rfl) (.cons (Ev.plain rfl) .nil)) rfl (syncF_fn d x.n hok _ _ (atO hi)) (by first | exact noH_aDk _ _ | (simp; done) | (simp [cAV]; done)) optN (fun hG => ?_)
      refine ARun.move (.inr rfl) rfl rfl rfl (Ev.plain rfl) optN ?_
      refine ⟨_, _, rfl, hG, ?_⟩
      refine blockA_n ?_
      refine thenA_n ?_
      refine AWP.seq ?_
      refine AWP.region (fun _ => ?_)
      refine ARun.move (.inl rfl) rfl rfl rfl (Ev.plain rfl) optN ?_
      refine ARun.move (.inl rfl) rfl rfl rfl (Ev.plain rfl) optN ?_
      refine ARun.call rfl rfl rfl rfl cf16 (Ev.plain rfl) (.cons (Ev.plain rfl) .nil) rfl (fun hg => code_fn _) optN ?_
      refine ARun.move (.inr rfl) rfl rfl rfl (Ev.plain rfl) optN ?_
      refine ARun.move (.inr rfl) rfl rfl rfl (Ev.plain rfl) optN ?_
      refine ⟨_, _, rfl, hG, ?_⟩
      refine thenA_n ?_
      refine AWP.ret ?_
      refine endF.toG (congrArg (fun c => H.set i (AO.box c)) (by rw [doP, if_neg h0, if_pos h1])) ?_
      refine endF.many (.inr rfl) (rs := [.tmp 4, .tmp 5]) rfl (.cons (.tmp rfl) (.cons (.tmp rfl) .nil)) (by simp) ?_ (by rw [List.length_set]; exact hN)
      rw [doP, if_neg h0, if_pos h1]
      simp only [code_new]
      rfl
    · skip
      simp at h1
      refine AWP.seq ?_
      refine AWP.region (fun _ => ?_)
      refine ARun.cmp rfl rfl rfl rfl (Ev.plain rfl) (Ev.plain rfl) rfl optN ?_
      refine ARun.move (.inr rfl) rfl rfl rfl (Ev.plain rfl) optN ?_
      refine ⟨_, _, rfl, hG, ?_⟩
      refine thenA_n ?_
      refine AWP.cond rfl (fun h2 => ?_) (fun h2 => ?_)
      · skip
        simp at h2
        refine AWP.region (fun _ => ?_)
        refine ARun.move (.inl rfl) rfl rfl rfl (Ev.plain rfl) optN ?_
        refine ARun.fieldPe rfl rfl rfl rfl Tryd.underlying50 rfl rfl sz3 (by decide) (Ev.plain rfl) rfl optN ?_
        refine ARun.loadPe rfl rfl rfl rfl Tryd.underlying3 rfl (Ev.plain rfl) rfl optN ?_
        refine ARun.callO hi hG rfl rfl rfl rfl cf32 (Ev.plain rfl) (.cons (Ev.plain rfl) (.cons (Ev.plain rfl) .nil)) rfl (reset_fn d x.n hok _ _ (atO hi)) (by first | exact noH_aDk _ _ | (simp; done) | (simp [cAV]; done)) optN (fun hG => ?_)
        refine ARun.move (.inr rfl) rfl rfl rfl (Ev.plain rfl) optN ?_
        refine ⟨_, _, rfl, hG, ?_⟩
        refine blockA_n ?_
        refine thenA_n ?_
        refine AWP.seq ?_
        refine AWP.region (fun _ => ?_)
        refine ARun.move (.inl rfl) rfl rfl rfl (Ev.plain rfl) optN ?_
        refine ARun.move (.inl rfl) rfl rfl rfl (Ev.plain rfl) optN ?_
        refine ARun.call rfl rfl rfl rfl cf16 (Ev.plain rfl) (.cons (Ev.plain rfl) .nil) rfl (fun hg => code_fn _) optN ?_
        refine ARun.move (.inr rfl) rfl rfl rfl (Ev.plain rfl) optN ?_
        refine ARun.move (.inr rfl) rfl rfl rfl (Ev.plain rfl) optN ?_
        refine ⟨_, _, rfl, hG, ?_⟩
        refine thenA_n ?_
        refine AWP.ret ?_
        refine endF.toG (congrArg (fun c => H.set i (AO.box c)) (by rw [doP, if_neg h0, if_neg h1, if_pos h2])) ?_
        refine endF.many (.inr rfl) (rs := [.tmp 4, .tmp 5]) rfl (.cons (.tmp rfl) (.cons (.tmp rfl) .nil)) (by simp) ?_ (by rw [List.length_set]; exact hN)
        rw [doP, if_neg h0, if_neg h1, if_pos h2]
        simp only [code_new]
        rfl
      · skip
        simp at h2
        refine AWP.seq ?_
        refine AWP.region (fun _ => ?_)
        refine ARun.cmp rfl rfl rfl rfl (Ev.plain rfl) (Ev.plain rfl) rfl optN ?_
        refine ARun.move (.inr rfl) rfl rfl rfl (Ev.plain rfl) optN ?_
        refine ⟨_, _, rfl, hG, ?_⟩
        refine thenA_n ?_
        refine AWP.cond rfl (fun h3 => ?_) (fun h3 => ?_)
        · skip
          simp at h3
          refine AWP.region (fun _ => ?_)
          refine ARun.move (.inl rfl) rfl rfl rfl (Ev.plain rfl) optN ?_
          refine ARun.fieldPe rfl rfl rfl rfl Tryd.underlying50 rfl rfl sz3 (by decide) (Ev.plain rfl) rfl optN ?_
          refine ARun.loadPe rfl rfl rfl rfl Tryd.underlying3 rfl (Ev.plain rfl) rfl optN ?_
          refine ARun.callR rfl rfl rfl rfl cf13 (Ev.plain rfl) (.cons (Ev.plain rfl) (.cons (Ev.plain rfl) .nil)) rfl (fun hg => FnM.keep (read_fn d x.n) (atO hi)) optN ?_
          refine ARun.move (.inl rfl) rfl rfl rfl (Ev.plain rfl) optN ?_
          refine ARun.extract rfl rfl rfl rfl (Ev.plain rfl) rfl optN ?_
          refine ARun.extract rfl rfl rfl rfl (Ev.plain rfl) rfl optN ?_
          refine ARun.move (.inr rfl) rfl rfl rfl (Ev.plain rfl) optN ?_
          refine ARun.move (.inr rfl) rfl rfl rfl (Ev.plain rfl) optN ?_
          refine ⟨_, _, rfl, hG, ?_⟩
          refine blockA_n ?_
          refine thenA_n ?_
          refine AWP.seq ?_
          refine AWP.region (fun _ => ?_)
          refine ARun.move (.inl rfl) rfl rfl rfl (Ev.plain rfl) optN ?_
          refine ARun.move (.inl rfl) rfl rfl rfl (Ev.plain rfl) optN ?_
          refine ARun.call rfl rfl rfl rfl cf16 (Ev.plain rfl) (.cons (Ev.plain rfl) .nil) rfl (fun hg => code_fn _) optN ?_
          refine ARun.move (.inr rfl) rfl rfl rfl (Ev.plain rfl) optN ?_
          refine ARun.move (.inr rfl) rfl rfl rfl (Ev.plain rfl) optN ?_
          refine ⟨_, _, rfl, hG, ?_⟩
          refine thenA_n ?_
          refine AWP.ret ?_
          refine endF.toG (congrArg (fun c => H.set i (AO.box c)) (by rw [doP, if_neg h0, if_neg h1, if_neg h2, if_pos h3])) ?_
          refine endF.many (.inr rfl) (rs := [.tmp 4, .tmp 5]) rfl (.cons (.tmp rfl) (.cons (.tmp rfl) .nil)) (by simp) ?_ (by rw [List.length_set]; exact hN)
          rw [doP, if_neg h0, if_neg h1, if_neg h2, if_pos h3]
          simp only [code_new]
        · skip
          simp at h3
          refine AWP.seq ?_
          refine AWP.region (fun _ => ?_)
          refine ARun.cmp rfl rfl rfl rfl (Ev.plain rfl) (Ev.plain rfl) rfl optN ?_
          refine ARun.move (.inr rfl) rfl rfl rfl (Ev.plain rfl) optN ?_
          refine ⟨_, _, rfl, hG, ?_⟩
          refine thenA_n ?_
          refine AWP.cond rfl (fun h4 => ?_) (fun h4 => ?_)
          · skip
            simp at h4
            refine AWP.region (fun _ => ?_)
            refine ARun.move (.inl rfl) rfl rfl rfl (Ev.plain rfl) optN ?_
            refine ARun.fieldPe rfl rfl rfl rfl Tryd.underlying50 rfl rfl sz3 (by decide) (Ev.plain rfl) rfl optN ?_
            refine ARun.loadPe rfl rfl rfl rfl Tryd.underlying3 rfl (Ev.plain rfl) rfl optN ?_
            refine ARun.callO hi hG rfl rfl rfl rfl cf33 (Ev.plain rfl) (.cons (Ev.plain rfl) (.cons (Ev.plain rfl) .nil)) rfl (arm_fn d x.n _ _ (atO hi)) (by first | exact noH_aDk _ _ | (simp; done) | (simp [cAV]; done)) optN (fun hG => ?_)
            refine ARun.move (.inr rfl) rfl rfl rfl (Ev.plain rfl) optN ?_
            refine ⟨_, _, rfl, hG, ?_⟩
            refine blockA_n ?_
            refine thenA_n ?_
            refine AWP.seq ?_
            refine AWP.region (fun _ => ?_)
            refine ARun.move (.inl rfl) rfl rfl rfl (Ev.plain rfl) optN ?_
            refine ARun.move (.inl rfl) rfl rfl rfl (Ev.plain rfl) optN ?_
            refine ARun.call rfl rfl rfl rfl cf16 (Ev.plain rfl) (.cons (Ev.plain rfl) .nil) rfl (fun hg => code_fn _) optN ?_
            refine ARun.move (.inr rfl) rfl rfl rfl (Ev.plain rfl) optN ?_
            refine ARun.move (.inr rfl) rfl rfl rfl (Ev.plain rfl) optN ?_
            refine ⟨_, _, rfl, hG, ?_⟩
            refine thenA_n ?_
            refine AWP.ret ?_
            refine endF.toG (congrArg (fun c => H.set i (AO.box c)) (by rw [doP, if_neg h0, if_neg h1, if_neg h2, if_neg h3, if_pos h4])) ?_
            refine endF.many (.inr rfl) (rs := [.tmp 4, .tmp 5]) rfl (.cons (.tmp rfl) (.cons (.tmp rfl) .nil)) (by simp) ?_ (by rw [List.length_set]; exact hN)
            rw [doP, if_neg h0, if_neg h1, if_neg h2, if_neg h3, if_pos h4]
            simp only [code_new]
            rfl
          · skip
            simp at h4
            refine AWP.seq ?_
            refine AWP.region (fun _ => ?_)
            refine ARun.cmp rfl rfl rfl rfl (Ev.plain rfl) (Ev.plain rfl) rfl optN ?_
            refine ARun.move (.inr rfl) rfl rfl rfl (Ev.plain rfl) optN ?_
            refine ⟨_, _, rfl, hG, ?_⟩
            refine thenA_n ?_
            refine AWP.cond rfl (fun h5 => ?_) (fun h5 => ?_)
            · skip
              simp at h5
              refine AWP.region (fun _ => ?_)
              refine ARun.move (.inl rfl) rfl rfl rfl (Ev.plain rfl) optN ?_
              refine ARun.callO hi hG rfl rfl rfl rfl cf11 (Ev.plain rfl) (.cons (Ev.plain rfl) .nil) rfl (off_fn d _ _ (atO hi)) (by first | exact noH_aDk _ _ | (simp; done) | (simp [cAV]; done)) optN (fun hG => ?_)
              refine ARun.move (.inr rfl) rfl rfl rfl (Ev.plain rfl) optN ?_
              refine ⟨_, _, rfl, hG, ?_⟩
              refine blockA_n ?_
              refine thenA_n ?_
              refine AWP.seq ?_
              refine AWP.region (fun _ => ?_)
              refine ARun.move (.inl rfl) rfl rfl rfl (Ev.plain rfl) optN ?_
              refine ARun.move (.inl rfl) rfl rfl rfl (Ev.plain rfl) optN ?_
              refine ARun.call rfl rfl rfl rfl cf16 (Ev.plain rfl) (.cons (Ev.plain rfl) .nil) rfl (fun hg => code_fn _) optN ?_
              refine ARun.move (.inr rfl) rfl rfl rfl (Ev.plain rfl) optN ?_
              refine ARun.move (.inr rfl) rfl rfl rfl (Ev.plain rfl) optN ?_
              refine ⟨_, _, rfl, hG, ?_⟩
              refine thenA_n ?_
              refine AWP.ret ?_
              refine endF.toG (congrArg (fun c => H.set i (AO.box c)) (by rw [doP, if_neg h0, if_neg h1, if_neg h2, if_neg h3, if_neg h4, if_pos h5])) ?_
              refine endF.many (.inr rfl) (rs := [.tmp 4, .tmp 5]) rfl (.cons (.tmp rfl) (.cons (.tmp rfl) .nil)) (by simp) ?_ (by rw [List.length_set]; exact hN)
              rw [doP, if_neg h0, if_neg h1, if_neg h2, if_neg h3, if_neg h4, if_pos h5]
              simp only [code_new]
              rfl
            · skip
              simp at h5
              refine AWP.seq ?_
              refine AWP.region (fun _ => ?_)
              refine ARun.cmp rfl rfl rfl rfl (Ev.plain rfl) (Ev.plain rfl) rfl optN ?_
              refine ARun.move (.inr rfl) rfl rfl rfl (Ev.plain rfl) optN ?_
              refine ⟨_, _, rfl, hG, ?_⟩
              refine thenA_n ?_
              refine AWP.cond rfl (fun h6 => ?_) (fun h6 => ?_)
              · skip
                simp at h6
                refine AWP.region (fun _ => ?_)
                refine ARun.move (.inl rfl) rfl rfl rfl (Ev.plain rfl) optN ?_
                refine ARun.fieldPe rfl rfl rfl rfl Tryd.underlying50 rfl rfl sz23 (by decide) (Ev.plain rfl) rfl optN ?_
                refine ARun.loadPeA rfl rfl rfl rfl Tryd.underlying23 rfl sz23 (Ev.plain rfl) rfl optN ?_
                refine ARun.fieldPe rfl rfl rfl rfl Tryd.underlying50 rfl rfl sz23 (by decide) (Ev.plain rfl) rfl optN ?_
                refine ARun.loadPeA rfl rfl rfl rfl Tryd.underlying23 rfl sz23 (Ev.plain rfl) rfl optN ?_
                refine ARun.callO hi hG rfl rfl rfl rfl cf12 (Ev.plain rfl) (.cons (Ev.plain rfl) (.cons (Ev.plain rfl) (.cons (Ev.plain rfl) .nil))) rfl (boot_fn d x.a x.b hok ha hb _ _ (atO hi)) (by first | exact noH_aDk _ _ | (simp; done) | (simp [cAV]; done)) optN (fun hG => ?_)
                refine ARun.move (.inr rfl) rfl rfl rfl (Ev.plain rfl) optN ?_
                refine ⟨_, _, rfl, hG, ?_⟩
                refine blockA_n ?_
                refine thenA_n ?_
                refine AWP.seq ?_
                refine AWP.region (fun _ => ?_)
                refine ARun.move (.inl rfl) rfl rfl rfl (Ev.plain rfl) optN ?_
                refine ARun.move (.inl rfl) rfl rfl rfl (Ev.plain rfl) optN ?_
                refine ARun.call rfl rfl rfl rfl cf16 (Ev.plain rfl) (.cons (Ev.plain rfl) .nil) rfl (fun hg => code_fn _) optN ?_
                refine ARun.move (.inr rfl) rfl rfl rfl (Ev.plain rfl) optN ?_
                refine ARun.move (.inr rfl) rfl rfl rfl (Ev.plain rfl) optN ?_
                refine ⟨_, _, rfl, hG, ?_⟩
                refine thenA_n ?_
                refine AWP.ret ?_
                refine endF.toG (congrArg (fun c => H.set i (AO.box c)) (by rw [doP, if_neg h0, if_neg h1, if_neg h2, if_neg h3, if_neg h4, if_neg h5, if_pos h6])) ?_
                refine endF.many (.inr rfl) (rs := [.tmp 4, .tmp 5]) rfl (.cons (.tmp rfl) (.cons (.tmp rfl) .nil)) (by simp) ?_ (by rw [List.length_set]; exact hN)
                rw [doP, if_neg h0, if_neg h1, if_neg h2, if_neg h3, if_neg h4, if_neg h5, if_pos h6]
                simp only [code_new]
                rfl
              · skip
                simp at h6
                refine AWP.skip ?_
                refine blockA_n ?_
                refine thenA_n ?_
                refine AWP.seq ?_
                refine AWP.region (fun _ => ?_)
                refine ARun.move (.inl rfl) rfl rfl rfl (Ev.plain rfl) optN ?_
                refine ARun.move (.inl rfl) rfl rfl rfl (Ev.plain rfl) optN ?_
                refine ARun.call rfl rfl rfl rfl cf16 (Ev.plain rfl) (.cons (Ev.plain rfl) .nil) rfl (fun hg => code_fn .none) optN ?_
                refine ARun.move (.inr rfl) rfl rfl rfl (Ev.plain rfl) optN ?_
                refine ARun.move (.inr rfl) rfl rfl rfl (Ev.plain rfl) optN ?_
                refine ⟨_, _, rfl, hG, ?_⟩
                refine thenA_n ?_
                refine AWP.ret ?_
                refine endF.toG (congrArg (fun c => H.set i (AO.box c)) (by rw [doP, if_neg h0, if_neg h1, if_neg h2, if_neg h3, if_neg h4, if_neg h5, if_neg h6])) ?_
                refine endF.many (.inr rfl) (rs := [.tmp 4, .tmp 5]) rfl (.cons (.tmp rfl) (.cons (.tmp rfl) .nil)) (by simp) ?_ (by rw [List.length_set]; exact hN)
                rw [doP, if_neg h0, if_neg h1, if_neg h2, if_neg h3, if_neg h4, if_neg h5, if_neg h6]
                simp only [code_new]
                rfl
end Go.Proofs.YtfjmmebjfllciaaDoor
