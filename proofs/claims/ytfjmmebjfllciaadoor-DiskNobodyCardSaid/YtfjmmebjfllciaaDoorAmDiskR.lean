/- The reference. -/
import Derived.Test.YtfjmmebjfllciaaDoorAmErrF
import Derived.Test.YtfjmmebjfllciaaDoorDiskPlain
namespace Go.Proofs.YtfjmmebjfllciaaDoor
set_option linter.unusedVariables false
set_option linter.unusedSimpArgs false
open Go.RowKit
set_option maxRecDepth 100000
/-- bounds -/
structure ROk (r : RD) : Prop where
  s0 : r.s0.size ≤ 1000000
  s1 : r.s1.size ≤ 1000000
  l0 : r.l0.size ≤ 1000000
  l1 : r.l1.size ≤ 1000000
  ops : 0 ≤ r.ops ∧ r.ops ≤ 1000000
  arm : 0 ≤ r.arm ∧ r.arm ≤ 1000000
theorem ROk.sj {r : RD} (h : ROk r) (j : Nat) : (r.s j).size ≤ 1000000 := by unfold RD.s; have := h.s0; have := h.s1; split <;> assumption
theorem ROk.lj {r : RD} (h : ROk r) (j : Nat) : (r.l j).size ≤ 1000000 := by unfold RD.l; have := h.l0; have := h.l1; split <;> assumption
theorem goesR_s (r : RD) (j : Nat) : (goesR r).1.s j = r.s j := by
  unfold goesR; by_cases h : r.arm = 1
  · rw [if_pos h]; rfl
  · rw [if_neg h]; by_cases h : 0 < r.arm
    · rw [if_pos h]; rfl
    · rw [if_neg h]; rfl
theorem goesR_l (r : RD) (j : Nat) : (goesR r).1.l j = r.l j := by
  unfold goesR; by_cases h : r.arm = 1
  · rw [if_pos h]; rfl
  · rw [if_neg h]; by_cases h : 0 < r.arm
    · rw [if_pos h]; rfl
    · rw [if_neg h]; rfl
theorem wrongR_ok {r : RD} {a : Int} (h : wrongR r a = 0) : r.dead = false ∧ ∃ j : Nat, a = (j : Int) ∧ j < 2 := by
  unfold wrongR at h
  split at h
  · cases h
  · split at h
    · cases h
    · rename_i h1 h2
      exact ⟨by simpa using h1, a.toNat, by omega, by omega⟩
theorem ba_all (s : ByteArray) (n : Nat) (h : s.size ≤ n) : s.extract 0 n = s := by
  have := ba_split s s.size
  rw [show s.extract s.size s.size = ByteArray.empty from by apply ByteArray.ext; simp, ByteArray.append_empty] at this
  rw [← this]
  apply ByteArray.ext
  simp
  omega
theorem leftR_k {safe loose : ByteArray} {half : Bool} {c : Ch} (h0 : half = true → c.reset = false) (k : Nat) (hk : k = min (max c.keep 0).toNat loose.size) (t : ByteArray) (ht : t = c.trash.extract 0 (min c.trash.size (loose.size - k))) : leftR safe loose half c = safe ++ loose.extract 0 k ++ t := by
  subst hk ht
  rw [leftR, if_neg (by rintro ⟨x, y⟩; rw [h0 x] at y; cases y)]
theorem ba_min (s : ByteArray) (n m : Nat) (h : min s.size n = m) : s.extract 0 (min s.size n) = s.extract 0 m := by rw [h]
set_option maxHeartbeats 1000000 in
theorem wrongR_fn (r : RD) (a : Int) : FnP Tryd.prog 50 [aRD r, .int .i64 a] (.int .i64 (wrongR r a)) := by
  refine FnP.of Tryd.func50 rfl rfl (by simp) (by simp [AV.cells, aDk, aRD, rdc, aCh]) (fun G hG => ?_)
  have hN : NoH G.length (.int .i64 (wrongR r a)) := (by simp [AV.cells, aDk, aRD, rdc, aCh])
  refine AWP.seq ?_
  refine AWP.region (fun _ => ?_)
  refine ARun.boxPe rfl rfl rfl rfl (Ev.plain rfl) rfl rfl optN ?_
  refine ARun.move (.inr rfl) rfl rfl rfl (Ev.plain rfl) optN ?_
  refine ⟨_, _, rfl, hG, ?_⟩
  refine thenA_n ?_
  refine AWP.seq ?_
  refine AWP.seq ?_
  refine AWP.region (fun _ => ?_)
  refine ARun.fieldPe rfl rfl rfl rfl Tryd.underlying42 rfl rfl sz4 (by decide) (Ev.plain rfl) rfl optN ?_
  refine ARun.loadPe rfl rfl rfl rfl Tryd.underlying4 rfl (Ev.plain rfl) rfl optN ?_
  refine ⟨_, _, rfl, hG, ?_⟩
  refine thenA_n ?_
  refine AWP.cond rfl (fun h0 => ?_) (fun h0 => ?_)
  · skip
    try simp at h0
    refine AWP.seq ?_
    refine AWP.region (fun _ => ?_)
    refine ARun.move (.inr rfl) rfl rfl rfl (Ev.plain rfl) optN ?_
    refine ⟨_, _, rfl, hG, ?_⟩
    refine thenA_n ?_
    refine AWP.ret ?_
    refine thenA_r ?_
    refine endF.one (.inr rfl) rfl (.tmp rfl) ?_ hN
    rw [wrongR, if_pos h0]; rfl
  · skip
    try simp at h0
    refine AWP.skip ?_
    refine thenA_n ?_
    refine AWP.seq ?_
    refine AWP.seq ?_
    refine AWP.region (fun _ => ?_)
    refine ARun.move (.inl rfl) rfl rfl rfl (Ev.plain rfl) optN ?_
    refine ARun.cmp rfl rfl rfl rfl (Ev.plain rfl) (Ev.plain rfl) rfl optN ?_
    refine ARun.move (.inl rfl) rfl rfl rfl (Ev.plain rfl) optN ?_
    refine ARun.move (.inl rfl) rfl rfl rfl (Ev.plain rfl) optS ?_
    refine ARun.cmp rfl rfl rfl rfl (Ev.opt rfl (fun h => h)) (Ev.plain rfl) rfl optS ?_
    refine ARun.pick rfl rfl rfl rfl (Ev.plain rfl) (Ev.opt rfl (by first | exact pkT | exact pkT2 | simp +contextual)) (Ev.plain rfl) (andB _ _) optN ?_
    refine ⟨_, _, rfl, hG, ?_⟩
    refine thenA_n ?_
    refine AWP.cond rfl (fun h1 => ?_) (fun h1 => ?_)
    · skip
      try simp at h1
      refine AWP.seq ?_
      refine AWP.region (fun _ => ?_)
      refine ARun.move (.inr rfl) rfl rfl rfl (Ev.plain rfl) optN ?_
      refine ⟨_, _, rfl, hG, ?_⟩
      refine thenA_n ?_
      refine AWP.ret ?_
      refine thenA_r ?_
      refine endF.one (.inr rfl) rfl (.tmp rfl) ?_ hN
      rw [wrongR, if_neg (by simp [h0]), if_pos h1]; rfl
    · skip
      try simp at h1
      refine AWP.skip ?_
      refine thenA_n ?_
      refine AWP.seq ?_
      refine AWP.region (fun _ => ?_)
      refine ARun.move (.inr rfl) rfl rfl rfl (Ev.plain rfl) optN ?_
      refine ⟨_, _, rfl, hG, ?_⟩
      refine thenA_n ?_
      refine AWP.ret ?_
      refine endF.one (.inr rfl) rfl (.tmp rfl) ?_ hN
      rw [wrongR, if_neg (by simp [h0]), if_neg (by intro h; exact h.2 (h1 h.1))]; rfl
set_option maxHeartbeats 1000000 in
theorem goesR_fn (r : RD) (hr : ROk r) : FnP Tryd.prog 51 [aRD r] (.tup [aRD (goesR r).1, .bool (goesR r).2]) := by
  have hops := hr.ops
  have harm := hr.arm
  refine FnP.of Tryd.func51 rfl rfl (by simp) (by simp [AV.cells, aDk, aRD, rdc, aCh]) (fun G hG => ?_)
  have hN : NoH G.length (.tup [aRD (goesR r).1, .bool (goesR r).2]) := (by simp [AV.cells, aDk, aRD, rdc, aCh])
  refine AWP.seq ?_
  refine AWP.region (fun _ => ?_)
  refine ARun.box (j := 0) hG rfl rfl rfl rfl rfl (Ev.plain rfl) rfl rfl optN ?_
  refine ARun.alloc (j := 1) hG rfl rfl rfl rfl rfl zv42 rfl optN ?_
  refine ARun.move (.inr rfl) rfl rfl rfl (Ev.plain rfl) optN ?_
  refine ⟨_, _, rfl, hG, ?_⟩
  refine thenA_n ?_
  refine AWP.seq ?_
  refine AWP.region (fun _ => ?_)
  refine ARun.fieldBox (fo := 7) rfl rfl rfl rfl Tryd.underlying42 rfl rfl sz3 (by decide) (Ev.plain rfl) ((hG.at _ _).trans rfl) optN ?_
  refine ARun.loadBox rfl rfl rfl rfl Tryd.underlying3 rfl (Ev.plain rfl) ((hG.at _ _).trans rfl) rfl optN ?_
  first | refine ARun.arith rfl rfl rfl rfl (Ev.plain rfl) (Ev.plain rfl) rfl (fun hg => i64w (by (try simp at hg); omega)) optN ?_ | refine ARun.arith rfl rfl rfl rfl (Ev.plain rfl) (Ev.plain rfl) rfl (fun _ => rfl) optN ?_
  refine ARun.fieldBox (fo := 7) rfl rfl rfl rfl Tryd.underlying42 rfl rfl sz3 (by decide) (Ev.plain rfl) ((hG.at _ _).trans rfl) optN ?_
  refine ARun.storeL1 hG rfl rfl rfl sz3 (Ev.plain rfl) (Ev.plain rfl) rfl (by first | rfl | exact aEr_one _ | exact aFl_one _) (Nat.le_of_ble_eq_true rfl) rfl rfl ?_
  refine ⟨_, _, rfl, hG, ?_⟩
  refine thenA_n ?_
  refine AWP.seq ?_
  refine AWP.seq ?_
  refine AWP.region (fun _ => ?_)
  refine ARun.fieldBox (fo := 8) rfl rfl rfl rfl Tryd.underlying42 rfl rfl sz3 (by decide) (Ev.plain rfl) ((hG.at _ _).trans rfl) optN ?_
  refine ARun.loadBox rfl rfl rfl rfl Tryd.underlying3 rfl (Ev.plain rfl) ((hG.at _ _).trans rfl) rfl optN ?_
  refine ARun.cmp rfl rfl rfl rfl (Ev.plain rfl) (Ev.plain rfl) rfl optN ?_
  refine ⟨_, _, rfl, hG, ?_⟩
  refine thenA_n ?_
  refine AWP.cond rfl (fun h0 => ?_) (fun h0 => ?_)
  · skip
    try simp at h0
    refine AWP.seq ?_
    refine AWP.region (fun _ => ?_)
    refine ARun.fieldBox (fo := 8) rfl rfl rfl rfl Tryd.underlying42 rfl rfl sz3 (by decide) (Ev.plain rfl) ((hG.at _ _).trans rfl) optN ?_
    refine ARun.storeL1 hG rfl rfl rfl sz3 (Ev.plain rfl) (Ev.plain rfl) rfl (by first | rfl | exact aEr_one _ | exact aFl_one _) (Nat.le_of_ble_eq_true rfl) rfl rfl ?_
    refine ⟨_, _, rfl, hG, ?_⟩
    refine thenA_n ?_
    refine AWP.seq ?_
    refine AWP.region (fun _ => ?_)
    refine ARun.fieldBox (fo := 9) rfl rfl rfl rfl Tryd.underlying42 rfl rfl sz4 (by decide) (Ev.plain rfl) ((hG.at _ _).trans rfl) optN ?_
    refine ARun.storeL1 hG rfl rfl rfl sz4 (Ev.plain rfl) (Ev.plain rfl) rfl (by first | rfl | exact aEr_one _ | exact aFl_one _) (Nat.le_of_ble_eq_true rfl) rfl rfl ?_
    refine ⟨_, _, rfl, hG, ?_⟩
    refine thenA_n ?_
    refine AWP.seq ?_
    refine AWP.region (fun _ => ?_)
    refine ARun.loadBoxA rfl rfl rfl rfl Tryd.underlying42 rfl sz42 (Ev.plain rfl) ((hG.at _ _).trans rfl) rfl rfl optN ?_
    refine ARun.storeL hG rfl rfl rfl sz42 (Ev.plain rfl) (Ev.plain rfl) rfl rfl rfl rfl rfl (Nat.le_of_ble_eq_true rfl) rfl rfl ?_
    refine ARun.move (.inr rfl) rfl rfl rfl (Ev.plain rfl) optN ?_
    refine ⟨_, _, rfl, hG, ?_⟩
    refine thenA_n ?_
    refine AWP.ret ?_
    refine thenA_r ?_
    refine endF.many (.inr rfl) (rs := [.cell 2 42, .tmp 3]) rfl (.cons (.cellA rfl ((hG.at _ _).trans rfl) Tryd.underlying42 rfl sz42 rfl rfl) (.cons (.tmp rfl) .nil)) (by simp) ?_ hN
    rw [goesR, if_pos h0]; rfl
  · skip
    try simp at h0
    refine AWP.skip ?_
    refine thenA_n ?_
    refine AWP.seq ?_
    refine AWP.seq ?_
    refine AWP.region (fun _ => ?_)
    refine ARun.fieldBox (fo := 8) rfl rfl rfl rfl Tryd.underlying42 rfl rfl sz3 (by decide) (Ev.plain rfl) ((hG.at _ _).trans rfl) optN ?_
    refine ARun.loadBox rfl rfl rfl rfl Tryd.underlying3 rfl (Ev.plain rfl) ((hG.at _ _).trans rfl) rfl optN ?_
    refine ARun.cmp rfl rfl rfl rfl (Ev.plain rfl) (Ev.plain rfl) rfl optN ?_
    refine ⟨_, _, rfl, hG, ?_⟩
    refine thenA_n ?_
    refine AWP.cond rfl (fun h1 => ?_) (fun h1 => ?_)
    · skip
      try simp at h1
      refine AWP.region (fun _ => ?_)
      refine ARun.fieldBox (fo := 8) rfl rfl rfl rfl Tryd.underlying42 rfl rfl sz3 (by decide) (Ev.plain rfl) ((hG.at _ _).trans rfl) optN ?_
      refine ARun.loadBox rfl rfl rfl rfl Tryd.underlying3 rfl (Ev.plain rfl) ((hG.at _ _).trans rfl) rfl optN ?_
      first | refine ARun.arith rfl rfl rfl rfl (Ev.plain rfl) (Ev.plain rfl) rfl (fun hg => i64w (by (try simp at hg); omega)) optN ?_ | refine ARun.arith rfl rfl rfl rfl (Ev.plain rfl) (Ev.plain rfl) rfl (fun _ => rfl) optN ?_
      refine ARun.fieldBox (fo := 8) rfl rfl rfl rfl Tryd.underlying42 rfl rfl sz3 (by decide) (Ev.plain rfl) ((hG.at _ _).trans rfl) optN ?_
      refine ARun.storeL1 hG rfl rfl rfl sz3 (Ev.plain rfl) (Ev.plain rfl) rfl (by first | rfl | exact aEr_one _ | exact aFl_one _) (Nat.le_of_ble_eq_true rfl) rfl rfl ?_
      refine ⟨_, _, rfl, hG, ?_⟩
      refine thenA_n ?_
      refine AWP.seq ?_
      refine AWP.region (fun _ => ?_)
      refine ARun.loadBoxA rfl rfl rfl rfl Tryd.underlying42 rfl sz42 (Ev.plain rfl) ((hG.at _ _).trans rfl) rfl rfl optN ?_
      refine ARun.storeL hG rfl rfl rfl sz42 (Ev.plain rfl) (Ev.plain rfl) rfl rfl rfl rfl rfl (Nat.le_of_ble_eq_true rfl) rfl rfl ?_
      refine ARun.move (.inr rfl) rfl rfl rfl (Ev.plain rfl) optN ?_
      refine ⟨_, _, rfl, hG, ?_⟩
      refine thenA_n ?_
      refine AWP.ret ?_
      refine endF.many (.inr rfl) (rs := [.cell 2 42, .tmp 3]) rfl (.cons (.cellA rfl ((hG.at _ _).trans rfl) Tryd.underlying42 rfl sz42 rfl rfl) (.cons (.tmp rfl) .nil)) (by simp) ?_ hN
      rw [goesR, if_neg h0, if_pos h1]; rfl
    · skip
      try simp at h1
      refine AWP.skip ?_
      refine thenA_n ?_
      refine AWP.seq ?_
      refine AWP.region (fun _ => ?_)
      refine ARun.loadBoxA rfl rfl rfl rfl Tryd.underlying42 rfl sz42 (Ev.plain rfl) ((hG.at _ _).trans rfl) rfl rfl optN ?_
      refine ARun.storeL hG rfl rfl rfl sz42 (Ev.plain rfl) (Ev.plain rfl) rfl rfl rfl rfl rfl (Nat.le_of_ble_eq_true rfl) rfl rfl ?_
      refine ARun.move (.inr rfl) rfl rfl rfl (Ev.plain rfl) optN ?_
      refine ⟨_, _, rfl, hG, ?_⟩
      refine thenA_n ?_
      refine AWP.ret ?_
      refine endF.many (.inr rfl) (rs := [.cell 2 42, .tmp 3]) rfl (.cons (.cellA rfl ((hG.at _ _).trans rfl) Tryd.underlying42 rfl sz42 rfl rfl) (.cons (.tmp rfl) .nil)) (by simp) ?_ hN
      rw [goesR, if_neg h0, if_neg (by omega)]; rfl
set_option maxHeartbeats 1000000 in
theorem appendR_fn (r : RD) (a : Int) (x : ByteArray) (hr : ROk r) (hx : x.size ≤ 1000000) : FnP Tryd.prog 34 [aRD r, .int .i64 a, .str x] (.tup [aRD (appendR r a x).1, .int .i64 (appendR r a x).2]) := by
  have b1 := hr.s0; have b2 := hr.s1; have b3 := hr.l0; have b4 := hr.l1
  refine FnP.of Tryd.func34 rfl rfl (by simp) (by simp [AV.cells, aDk, aRD, rdc, aCh]) (fun G hG => ?_)
  have hN : NoH G.length (.tup [aRD (appendR r a x).1, .int .i64 (appendR r a x).2]) := (by simp [AV.cells, aDk, aRD, rdc, aCh])
  refine AWP.seq ?_
  refine AWP.region (fun _ => ?_)
  refine ARun.box (j := 0) hG rfl rfl rfl rfl rfl (Ev.plain rfl) rfl rfl optN ?_
  refine ARun.alloc (j := 1) hG rfl rfl rfl rfl rfl zv42 rfl optN ?_
  refine ARun.move (.inr rfl) rfl rfl rfl (Ev.plain rfl) optN ?_
  refine ⟨_, _, rfl, hG, ?_⟩
  refine thenA_n ?_
  refine AWP.seq ?_
  refine AWP.region (fun _ => ?_)
  refine ARun.loadBoxA rfl rfl rfl rfl Tryd.underlying42 rfl sz42 (Ev.plain rfl) ((hG.at _ _).trans rfl) rfl rfl optN ?_
  refine ARun.move (.inl rfl) rfl rfl rfl (Ev.plain rfl) optN ?_
  refine ARun.call rfl rfl rfl rfl cf50 (Ev.plain rfl) (.cons (Ev.plain rfl) (.cons (Ev.plain rfl) .nil)) rfl (fun hg => wrongR_fn r a) optN ?_
  refine ARun.move (.inr rfl) rfl rfl rfl (Ev.plain rfl) optN ?_
  refine ⟨_, _, rfl, hG, ?_⟩
  refine thenA_n ?_
  refine AWP.seq ?_
  refine AWP.seq ?_
  refine AWP.region (fun _ => ?_)
  refine ARun.move (.inl rfl) rfl rfl rfl (Ev.plain rfl) optN ?_
  refine ARun.cmp rfl rfl rfl rfl (Ev.plain rfl) (Ev.plain rfl) rfl optN ?_
  refine ⟨_, _, rfl, hG, ?_⟩
  refine thenA_n ?_
  refine AWP.cond rfl (fun h0 => ?_) (fun h0 => ?_)
  · skip
    have hne : wrongR r a ≠ 0 := by simpa using h0
    refine AWP.seq ?_
    refine AWP.region (fun _ => ?_)
    refine ARun.loadBoxA rfl rfl rfl rfl Tryd.underlying42 rfl sz42 (Ev.plain rfl) ((hG.at _ _).trans rfl) rfl rfl optN ?_
    refine ARun.move (.inl rfl) rfl rfl rfl (Ev.plain rfl) optN ?_
    refine ARun.storeL hG rfl rfl rfl sz42 (Ev.plain rfl) (Ev.plain rfl) rfl rfl rfl rfl rfl (Nat.le_of_ble_eq_true rfl) rfl rfl ?_
    refine ARun.move (.inr rfl) rfl rfl rfl (Ev.plain rfl) optN ?_
    refine ⟨_, _, rfl, hG, ?_⟩
    refine thenA_n ?_
    refine AWP.ret ?_
    refine thenA_r ?_
    refine endF.many (.inr rfl) (rs := [.cell 6 42, .tmp 7]) rfl (.cons (.cellA rfl ((hG.at _ _).trans rfl) Tryd.underlying42 rfl sz42 rfl rfl) (.cons (.tmp rfl) .nil)) (by simp) ?_ hN
    rw [appendR, if_pos hne]; rfl
  · skip
    obtain ⟨hdd, j, rfl, hj⟩ := wrongR_ok (r := r) (a := a) (by simpa using h0)
    have hup : wrongR r (j : Int) = 0 := by simpa using h0
    have hjn : ((j : Int)).toNat = j := rfl
    refine AWP.skip ?_
    refine thenA_n ?_
    refine AWP.seq ?_
    refine AWP.region (fun _ => ?_)
    refine ARun.fieldBox (fo := 0) rfl rfl rfl rfl Tryd.underlying42 rfl rfl sz39 (by decide) (Ev.plain rfl) ((hG.at _ _).trans rfl) optN ?_
    refine ARun.indexBox (fo := 0) rfl rfl rfl rfl Tryd.underlying39 sz9 (Ev.plain rfl) ((hG.at _ _).trans rfl) (Ev.plain rfl) (j := 0) (fun hg => by first | rfl | omega) (fun hg => by first | decide | omega) rfl optN ?_
    refine ARun.loadBox rfl rfl rfl rfl Tryd.underlying9 rfl (Ev.plain rfl) ((hG.at _ _).trans rfl) rfl optN ?_
    refine ARun.lenStr rfl rfl rfl rfl Tryd.underlying9 (Ev.plain rfl) optN ?_
    refine ARun.fieldBox (fo := 0) rfl rfl rfl rfl Tryd.underlying42 rfl rfl sz39 (by decide) (Ev.plain rfl) ((hG.at _ _).trans rfl) optN ?_
    refine ARun.indexBox (fo := 1) rfl rfl rfl rfl Tryd.underlying39 sz9 (Ev.plain rfl) ((hG.at _ _).trans rfl) (Ev.plain rfl) (j := 1) (fun hg => by first | rfl | omega) (fun hg => by first | decide | omega) rfl optN ?_
    refine ARun.loadBox rfl rfl rfl rfl Tryd.underlying9 rfl (Ev.plain rfl) ((hG.at _ _).trans rfl) rfl optN ?_
    refine ARun.lenStr rfl rfl rfl rfl Tryd.underlying9 (Ev.plain rfl) optN ?_
    first | refine ARun.arith rfl rfl rfl rfl (Ev.plain rfl) (Ev.plain rfl) rfl (fun hg => i64w (by (try simp at hg); omega)) optN ?_ | refine ARun.arith rfl rfl rfl rfl (Ev.plain rfl) (Ev.plain rfl) rfl (fun _ => rfl) optN ?_
    refine ARun.fieldBox (fo := 2) rfl rfl rfl rfl Tryd.underlying42 rfl rfl sz39 (by decide) (Ev.plain rfl) ((hG.at _ _).trans rfl) optN ?_
    refine ARun.indexBox (fo := 2) rfl rfl rfl rfl Tryd.underlying39 sz9 (Ev.plain rfl) ((hG.at _ _).trans rfl) (Ev.plain rfl) (j := 0) (fun hg => by first | rfl | omega) (fun hg => by first | decide | omega) rfl optN ?_
    refine ARun.loadBox rfl rfl rfl rfl Tryd.underlying9 rfl (Ev.plain rfl) ((hG.at _ _).trans rfl) rfl optN ?_
    refine ARun.lenStr rfl rfl rfl rfl Tryd.underlying9 (Ev.plain rfl) optN ?_
    first | refine ARun.arith rfl rfl rfl rfl (Ev.plain rfl) (Ev.plain rfl) rfl (fun hg => i64w (by (try simp at hg); omega)) optN ?_ | refine ARun.arith rfl rfl rfl rfl (Ev.plain rfl) (Ev.plain rfl) rfl (fun _ => rfl) optN ?_
    refine ARun.fieldBox (fo := 2) rfl rfl rfl rfl Tryd.underlying42 rfl rfl sz39 (by decide) (Ev.plain rfl) ((hG.at _ _).trans rfl) optN ?_
    refine ARun.indexBox (fo := 3) rfl rfl rfl rfl Tryd.underlying39 sz9 (Ev.plain rfl) ((hG.at _ _).trans rfl) (Ev.plain rfl) (j := 1) (fun hg => by first | rfl | omega) (fun hg => by first | decide | omega) rfl optN ?_
    refine ARun.loadBox rfl rfl rfl rfl Tryd.underlying9 rfl (Ev.plain rfl) ((hG.at _ _).trans rfl) rfl optN ?_
    refine ARun.lenStr rfl rfl rfl rfl Tryd.underlying9 (Ev.plain rfl) optN ?_
    first | refine ARun.arith rfl rfl rfl rfl (Ev.plain rfl) (Ev.plain rfl) rfl (fun hg => i64w (by (try simp at hg); omega)) optN ?_ | refine ARun.arith rfl rfl rfl rfl (Ev.plain rfl) (Ev.plain rfl) rfl (fun _ => rfl) optN ?_
    refine ARun.move (.inr rfl) rfl rfl rfl (Ev.plain rfl) optN ?_
    refine ⟨_, _, rfl, hG, ?_⟩
    refine thenA_n ?_
    refine AWP.seq ?_
    refine AWP.seq ?_
    refine AWP.region (fun _ => ?_)
    refine ARun.move (.inl rfl) rfl rfl rfl (Ev.plain rfl) optN ?_
    refine ARun.move (.inl rfl) rfl rfl rfl (Ev.plain rfl) optN ?_
    refine ARun.lenStr rfl rfl rfl rfl Tryd.underlying9 (Ev.plain rfl) optN ?_
    first | refine ARun.arith rfl rfl rfl rfl (Ev.plain rfl) (Ev.plain rfl) rfl (fun hg => i64w (by (try simp at hg); omega)) optN ?_ | refine ARun.arith rfl rfl rfl rfl (Ev.plain rfl) (Ev.plain rfl) rfl (fun _ => rfl) optN ?_
    refine ARun.fieldBox (fo := 6) rfl rfl rfl rfl Tryd.underlying42 rfl rfl sz3 (by decide) (Ev.plain rfl) ((hG.at _ _).trans rfl) optN ?_
    refine ARun.loadBox rfl rfl rfl rfl Tryd.underlying3 rfl (Ev.plain rfl) ((hG.at _ _).trans rfl) rfl optN ?_
    refine ARun.cmp rfl rfl rfl rfl (Ev.plain rfl) (Ev.plain rfl) rfl optN ?_
    refine ⟨_, _, rfl, hG, ?_⟩
    refine thenA_n ?_
    refine AWP.cond rfl (fun h1 => ?_) (fun h1 => ?_)
    · skip
      try simp at h1
      refine AWP.seq ?_
      refine AWP.region (fun _ => ?_)
      refine ARun.loadBoxA rfl rfl rfl rfl Tryd.underlying42 rfl sz42 (Ev.plain rfl) ((hG.at _ _).trans rfl) rfl rfl optN ?_
      refine ARun.storeL hG rfl rfl rfl sz42 (Ev.plain rfl) (Ev.plain rfl) rfl rfl rfl rfl rfl (Nat.le_of_ble_eq_true rfl) rfl rfl ?_
      refine ARun.move (.inr rfl) rfl rfl rfl (Ev.plain rfl) optN ?_
      refine ⟨_, _, rfl, hG, ?_⟩
      refine thenA_n ?_
      refine AWP.ret ?_
      refine thenA_r ?_
      refine endF.many (.inr rfl) (rs := [.cell 6 42, .tmp 7]) rfl (.cons (.cellA rfl ((hG.at _ _).trans rfl) Tryd.underlying42 rfl sz42 rfl rfl) (.cons (.tmp rfl) .nil)) (by simp) ?_ hN
      rw [appendR, if_neg (by simp [hup]), if_pos (by omega)]; rfl
    · skip
      try simp at h1
      have c1 := goesR_l r j
      have c2 := hr.lj j
      rw [← c1] at c2
      refine AWP.skip ?_
      refine thenA_n ?_
      refine AWP.seq ?_
      refine AWP.region (fun _ => ?_)
      refine ARun.loadBoxA rfl rfl rfl rfl Tryd.underlying42 rfl sz42 (Ev.plain rfl) ((hG.at _ _).trans rfl) rfl rfl optN ?_
      refine ARun.call rfl rfl rfl rfl cf51 (Ev.plain rfl) (.cons (Ev.plain rfl) .nil) rfl (fun hg => goesR_fn r hr) optN ?_
      refine ARun.move (.inl rfl) rfl rfl rfl (Ev.plain rfl) optN ?_
      refine ARun.extract rfl rfl rfl rfl (Ev.plain rfl) rfl optN ?_
      refine ARun.extract rfl rfl rfl rfl (Ev.plain rfl) rfl optN ?_
      refine ARun.storeL hG rfl rfl rfl sz42 (Ev.plain rfl) (Ev.plain rfl) rfl rfl rfl rfl rfl (Nat.le_of_ble_eq_true rfl) rfl rfl ?_
      refine ARun.move (.inr rfl) rfl rfl rfl (Ev.plain rfl) optN ?_
      refine ⟨_, _, rfl, hG, ?_⟩
      refine thenA_n ?_
      refine AWP.seq ?_
      refine AWP.region (fun _ => ?_)
      refine ARun.move (.inl rfl) rfl rfl rfl (Ev.plain rfl) optN ?_
      refine ARun.move (.inl rfl) rfl rfl rfl (Ev.plain rfl) optN ?_
      refine ARun.fieldBox (fo := 2) rfl rfl rfl rfl Tryd.underlying42 rfl rfl sz39 (by decide) (Ev.plain rfl) ((hG.at _ _).trans rfl) optN ?_
      refine ARun.indexBox (fo := 2 + j * 1) rfl rfl rfl rfl Tryd.underlying39 sz9 (Ev.plain rfl) ((hG.at _ _).trans rfl) (Ev.plain rfl) (j := j) (fun hg => by first | rfl | omega) (fun hg => by first | decide | omega) rfl optN ?_
      refine ARun.loadBox rfl rfl rfl rfl Tryd.underlying9 rfl (Ev.plain rfl) ((hG.at _ _).trans rfl) (rd_l (goesR r).1 j hj) optN ?_
      refine ARun.move (.inl rfl) rfl rfl rfl (Ev.plain rfl) optN ?_
      refine ARun.cat rfl rfl rfl rfl (Ev.plain rfl) (Ev.plain rfl) (fun hg => (by omega)) optN ?_
      refine ARun.fieldBox (fo := 2) rfl rfl rfl rfl Tryd.underlying42 rfl rfl sz39 (by decide) (Ev.plain rfl) ((hG.at _ _).trans rfl) optN ?_
      refine ARun.indexBox (fo := 2 + j * 1) rfl rfl rfl rfl Tryd.underlying39 sz9 (Ev.plain rfl) ((hG.at _ _).trans rfl) (Ev.plain rfl) (j := j) (fun hg => by first | rfl | omega) (fun hg => by first | decide | omega) rfl optN ?_
      refine ARun.storeL1 hG rfl rfl rfl sz9 (Ev.plain rfl) (Ev.plain rfl) rfl (by first | rfl | exact aEr_one _ | exact aFl_one _) (by first | (show 2 + j * 1 + 1 ≤ 10; omega) | (show 0 + j * 1 + 1 ≤ 10; omega) | (show 4 + j * 1 + 1 ≤ 10; omega)) (rd_set_l (goesR r).1 j hj _) rfl ?_
      refine ⟨_, _, rfl, hG, ?_⟩
      refine thenA_n ?_
      refine AWP.seq ?_
      refine AWP.seq ?_
      refine AWP.region (fun _ => ?_)
      refine ARun.move (.inl rfl) rfl rfl rfl (Ev.plain rfl) optN ?_
      refine ⟨_, _, rfl, hG, ?_⟩
      refine thenA_n ?_
      refine AWP.cond rfl (fun h2 => ?_) (fun h2 => ?_)
      · skip
        try simp at h2
        refine AWP.seq ?_
        refine AWP.region (fun _ => ?_)
        refine ARun.loadBoxA rfl rfl rfl rfl Tryd.underlying42 rfl sz42 (Ev.plain rfl) ((hG.at _ _).trans rfl) rfl rfl optN ?_
        refine ARun.storeL hG rfl rfl rfl sz42 (Ev.plain rfl) (Ev.plain rfl) rfl rfl rfl rfl rfl (Nat.le_of_ble_eq_true rfl) rfl rfl ?_
        refine ARun.move (.inr rfl) rfl rfl rfl (Ev.plain rfl) optN ?_
        refine ⟨_, _, rfl, hG, ?_⟩
        refine thenA_n ?_
        refine AWP.ret ?_
        refine thenA_r ?_
        refine endF.many (.inr rfl) (rs := [.cell 6 42, .tmp 7]) rfl (.cons (.cellA rfl ((hG.at _ _).trans rfl) Tryd.underlying42 rfl sz42 rfl rfl) (.cons (.tmp rfl) .nil)) (by simp) ?_ hN
        rw [appendR, if_neg (by simp [hup]), if_neg (by omega), if_pos h2]; rfl
      · skip
        try simp at h2
        refine AWP.skip ?_
        refine thenA_n ?_
        refine AWP.seq ?_
        refine AWP.region (fun _ => ?_)
        refine ARun.loadBoxA rfl rfl rfl rfl Tryd.underlying42 rfl sz42 (Ev.plain rfl) ((hG.at _ _).trans rfl) rfl rfl optN ?_
        refine ARun.storeL hG rfl rfl rfl sz42 (Ev.plain rfl) (Ev.plain rfl) rfl rfl rfl rfl rfl (Nat.le_of_ble_eq_true rfl) rfl rfl ?_
        refine ARun.move (.inr rfl) rfl rfl rfl (Ev.plain rfl) optN ?_
        refine ⟨_, _, rfl, hG, ?_⟩
        refine thenA_n ?_
        refine AWP.ret ?_
        refine endF.many (.inr rfl) (rs := [.cell 6 42, .tmp 7]) rfl (.cons (.cellA rfl ((hG.at _ _).trans rfl) Tryd.underlying42 rfl sz42 rfl rfl) (.cons (.tmp rfl) .nil)) (by simp) ?_ hN
        rw [appendR, if_neg (by simp [hup]), if_neg (by omega), if_neg (by simp [h2])]; rfl
set_option maxHeartbeats 1000000 in
theorem syncR_fn (r : RD) (a : Int) (hr : ROk r) : FnP Tryd.prog 35 [aRD r, .int .i64 a] (.tup [aRD (syncR r a).1, .int .i64 (syncR r a).2]) := by
  have b1 := hr.s0; have b2 := hr.s1; have b3 := hr.l0; have b4 := hr.l1
  refine FnP.of Tryd.func35 rfl rfl (by simp) (by simp [AV.cells, aDk, aRD, rdc, aCh]) (fun G hG => ?_)
  have hN : NoH G.length (.tup [aRD (syncR r a).1, .int .i64 (syncR r a).2]) := (by simp [AV.cells, aDk, aRD, rdc, aCh])
  refine AWP.seq ?_
  refine AWP.region (fun _ => ?_)
  refine ARun.box (j := 0) hG rfl rfl rfl rfl rfl (Ev.plain rfl) rfl rfl optN ?_
  refine ARun.alloc (j := 1) hG rfl rfl rfl rfl rfl zv42 rfl optN ?_
  refine ARun.move (.inr rfl) rfl rfl rfl (Ev.plain rfl) optN ?_
  refine ⟨_, _, rfl, hG, ?_⟩
  refine thenA_n ?_
  refine AWP.seq ?_
  refine AWP.region (fun _ => ?_)
  refine ARun.loadBoxA rfl rfl rfl rfl Tryd.underlying42 rfl sz42 (Ev.plain rfl) ((hG.at _ _).trans rfl) rfl rfl optN ?_
  refine ARun.move (.inl rfl) rfl rfl rfl (Ev.plain rfl) optN ?_
  refine ARun.call rfl rfl rfl rfl cf50 (Ev.plain rfl) (.cons (Ev.plain rfl) (.cons (Ev.plain rfl) .nil)) rfl (fun hg => wrongR_fn r a) optN ?_
  refine ARun.move (.inr rfl) rfl rfl rfl (Ev.plain rfl) optN ?_
  refine ⟨_, _, rfl, hG, ?_⟩
  refine thenA_n ?_
  refine AWP.seq ?_
  refine AWP.seq ?_
  refine AWP.region (fun _ => ?_)
  refine ARun.move (.inl rfl) rfl rfl rfl (Ev.plain rfl) optN ?_
  refine ARun.cmp rfl rfl rfl rfl (Ev.plain rfl) (Ev.plain rfl) rfl optN ?_
  refine ⟨_, _, rfl, hG, ?_⟩
  refine thenA_n ?_
  refine AWP.cond rfl (fun h0 => ?_) (fun h0 => ?_)
  · skip
    have hne : wrongR r a ≠ 0 := by simpa using h0
    refine AWP.seq ?_
    refine AWP.region (fun _ => ?_)
    refine ARun.loadBoxA rfl rfl rfl rfl Tryd.underlying42 rfl sz42 (Ev.plain rfl) ((hG.at _ _).trans rfl) rfl rfl optN ?_
    refine ARun.move (.inl rfl) rfl rfl rfl (Ev.plain rfl) optN ?_
    refine ARun.storeL hG rfl rfl rfl sz42 (Ev.plain rfl) (Ev.plain rfl) rfl rfl rfl rfl rfl (Nat.le_of_ble_eq_true rfl) rfl rfl ?_
    refine ARun.move (.inr rfl) rfl rfl rfl (Ev.plain rfl) optN ?_
    refine ⟨_, _, rfl, hG, ?_⟩
    refine thenA_n ?_
    refine AWP.ret ?_
    refine thenA_r ?_
    refine endF.many (.inr rfl) (rs := [.cell 4 42, .tmp 5]) rfl (.cons (.cellA rfl ((hG.at _ _).trans rfl) Tryd.underlying42 rfl sz42 rfl rfl) (.cons (.tmp rfl) .nil)) (by simp) ?_ hN
    rw [syncR, if_pos hne]; rfl
  · skip
    obtain ⟨hdd, j, rfl, hj⟩ := wrongR_ok (r := r) (a := a) (by simpa using h0)
    have hup : wrongR r (j : Int) = 0 := by simpa using h0
    have hjn : ((j : Int)).toNat = j := rfl
    refine AWP.skip ?_
    refine thenA_n ?_
    refine AWP.seq ?_
    refine AWP.region (fun _ => ?_)
    refine ARun.loadBoxA rfl rfl rfl rfl Tryd.underlying42 rfl sz42 (Ev.plain rfl) ((hG.at _ _).trans rfl) rfl rfl optN ?_
    refine ARun.call rfl rfl rfl rfl cf51 (Ev.plain rfl) (.cons (Ev.plain rfl) .nil) rfl (fun hg => goesR_fn r hr) optN ?_
    refine ARun.move (.inl rfl) rfl rfl rfl (Ev.plain rfl) optN ?_
    refine ARun.extract rfl rfl rfl rfl (Ev.plain rfl) rfl optN ?_
    refine ARun.extract rfl rfl rfl rfl (Ev.plain rfl) rfl optN ?_
    refine ARun.storeL hG rfl rfl rfl sz42 (Ev.plain rfl) (Ev.plain rfl) rfl rfl rfl rfl rfl (Nat.le_of_ble_eq_true rfl) rfl rfl ?_
    refine ARun.move (.inr rfl) rfl rfl rfl (Ev.plain rfl) optN ?_
    refine ⟨_, _, rfl, hG, ?_⟩
    refine thenA_n ?_
    refine AWP.seq ?_
    refine AWP.seq ?_
    refine AWP.region (fun _ => ?_)
    refine ARun.move (.inl rfl) rfl rfl rfl (Ev.plain rfl) optN ?_
    refine ⟨_, _, rfl, hG, ?_⟩
    refine thenA_n ?_
    refine AWP.cond rfl (fun h1 => ?_) (fun h1 => ?_)
    · skip
      try simp at h1
      refine AWP.seq ?_
      refine AWP.region (fun _ => ?_)
      refine ARun.loadBoxA rfl rfl rfl rfl Tryd.underlying42 rfl sz42 (Ev.plain rfl) ((hG.at _ _).trans rfl) rfl rfl optN ?_
      refine ARun.storeL hG rfl rfl rfl sz42 (Ev.plain rfl) (Ev.plain rfl) rfl rfl rfl rfl rfl (Nat.le_of_ble_eq_true rfl) rfl rfl ?_
      refine ARun.move (.inr rfl) rfl rfl rfl (Ev.plain rfl) optN ?_
      refine ⟨_, _, rfl, hG, ?_⟩
      refine thenA_n ?_
      refine AWP.ret ?_
      refine thenA_r ?_
      refine endF.many (.inr rfl) (rs := [.cell 4 42, .tmp 5]) rfl (.cons (.cellA rfl ((hG.at _ _).trans rfl) Tryd.underlying42 rfl sz42 rfl rfl) (.cons (.tmp rfl) .nil)) (by simp) ?_ hN
      rw [syncR, if_neg (by simp [hup]), if_pos h1]; rfl
    · skip
      try simp at h1
      have c1 := goesR_l r j
      have c2 := hr.lj j
      rw [← c1] at c2
      have c3 := goesR_s r j
      have c4 := hr.sj j
      rw [← c3] at c4
      refine AWP.skip ?_
      refine thenA_n ?_
      refine AWP.seq ?_
      refine AWP.draw mixed (by kernel_rfl) (fun _ => ?_)
      refine ARun.move (.inl rfl) rfl rfl rfl (Ev.plain rfl) optN ?_
      refine ARun.move (.inl rfl) rfl rfl rfl (Ev.plain rfl) optN ?_
      refine ARun.fieldBox (fo := 0) rfl rfl rfl rfl Tryd.underlying42 rfl rfl sz39 (by decide) (Ev.plain rfl) ((hG.at _ _).trans rfl) optN ?_
      refine ARun.indexBox (fo := 0 + j * 1) rfl rfl rfl rfl Tryd.underlying39 sz9 (Ev.plain rfl) ((hG.at _ _).trans rfl) (Ev.plain rfl) (j := j) (fun hg => by first | rfl | omega) (fun hg => by first | decide | omega) rfl optN ?_
      refine ARun.loadBox rfl rfl rfl rfl Tryd.underlying9 rfl (Ev.plain rfl) ((hG.at _ _).trans rfl) (rd_s (goesR r).1 j hj) optN ?_
      refine ARun.move (.inl rfl) rfl rfl rfl (Ev.plain rfl) optN ?_
      refine ARun.fieldBox (fo := 2) rfl rfl rfl rfl Tryd.underlying42 rfl rfl sz39 (by decide) (Ev.plain rfl) ((hG.at _ _).trans rfl) optN ?_
      refine ARun.indexBox (fo := 2 + j * 1) rfl rfl rfl rfl Tryd.underlying39 sz9 (Ev.plain rfl) ((hG.at _ _).trans rfl) (Ev.plain rfl) (j := j) (fun hg => by first | rfl | omega) (fun hg => by first | decide | omega) rfl optN ?_
      refine ARun.loadBox rfl rfl rfl rfl Tryd.underlying9 rfl (Ev.plain rfl) ((hG.at _ _).trans rfl) (rd_l (goesR r).1 j hj) optN ?_
      refine ARun.cat rfl rfl rfl rfl (Ev.plain rfl) (Ev.plain rfl) (fun hg => (by omega)) optN ?_
      refine ARun.fieldBox (fo := 0) rfl rfl rfl rfl Tryd.underlying42 rfl rfl sz39 (by decide) (Ev.plain rfl) ((hG.at _ _).trans rfl) optN ?_
      refine ARun.indexBox (fo := 0 + j * 1) rfl rfl rfl rfl Tryd.underlying39 sz9 (Ev.plain rfl) ((hG.at _ _).trans rfl) (Ev.plain rfl) (j := j) (fun hg => by first | rfl | omega) (fun hg => by first | decide | omega) rfl optN ?_
      refine ARun.storeL1 hG rfl rfl rfl sz9 (Ev.plain rfl) (Ev.plain rfl) rfl (by first | rfl | exact aEr_one _ | exact aFl_one _) (by first | (show 2 + j * 1 + 1 ≤ 10; omega) | (show 0 + j * 1 + 1 ≤ 10; omega) | (show 4 + j * 1 + 1 ≤ 10; omega)) (rd_set_s (goesR r).1 j hj _) rfl ?_
      refine ⟨by kernel_rfl, _, _, rfl, hG, ?_⟩
      refine thenA_n ?_
      refine AWP.seq ?_
      refine AWP.region (fun _ => ?_)
      refine ARun.move (.inl rfl) rfl rfl rfl (Ev.plain rfl) optN ?_
      refine ARun.fieldBox (fo := 2) rfl rfl rfl rfl Tryd.underlying42 rfl rfl sz39 (by decide) (Ev.plain rfl) ((hG.at _ _).trans rfl) optN ?_
      refine ARun.indexBox (fo := 2 + j * 1) rfl rfl rfl rfl Tryd.underlying39 sz9 (Ev.plain rfl) ((hG.at _ _).trans rfl) (Ev.plain rfl) (j := j) (fun hg => by first | rfl | omega) (fun hg => by first | decide | omega) rfl optN ?_
      refine ARun.storeL1 hG rfl rfl rfl sz9 (Ev.plain rfl) (Ev.plain rfl) rfl (by first | rfl | exact aEr_one _ | exact aFl_one _) (by first | (show 2 + j * 1 + 1 ≤ 10; omega) | (show 0 + j * 1 + 1 ≤ 10; omega) | (show 4 + j * 1 + 1 ≤ 10; omega)) (rd_set_l (RD.setS _ _ _) j hj _) rfl ?_
      refine ⟨_, _, rfl, hG, ?_⟩
      refine thenA_n ?_
      refine AWP.seq ?_
      refine AWP.region (fun _ => ?_)
      refine ARun.loadBoxA rfl rfl rfl rfl Tryd.underlying42 rfl sz42 (Ev.plain rfl) ((hG.at _ _).trans rfl) rfl rfl optN ?_
      refine ARun.storeL hG rfl rfl rfl sz42 (Ev.plain rfl) (Ev.plain rfl) rfl rfl rfl rfl rfl (Nat.le_of_ble_eq_true rfl) rfl rfl ?_
      refine ARun.move (.inr rfl) rfl rfl rfl (Ev.plain rfl) optN ?_
      refine ⟨_, _, rfl, hG, ?_⟩
      refine thenA_n ?_
      refine AWP.ret ?_
      refine endF.many (.inr rfl) (rs := [.cell 4 42, .tmp 5]) rfl (.cons (.cellA rfl ((hG.at _ _).trans rfl) Tryd.underlying42 rfl sz42 rfl rfl) (.cons (.tmp rfl) .nil)) (by simp) ?_ hN
      rw [syncR, if_neg (by simp [hup]), if_neg (by simp [h1])]; rfl
set_option maxHeartbeats 1000000 in
theorem resetR_fn (r : RD) (a : Int) (hr : ROk r) : FnP Tryd.prog 36 [aRD r, .int .i64 a] (.tup [aRD (resetR r a).1, .int .i64 (resetR r a).2]) := by
  refine FnP.of Tryd.func36 rfl rfl (by simp) (by simp [AV.cells, aDk, aRD, rdc, aCh]) (fun G hG => ?_)
  have hN : NoH G.length (.tup [aRD (resetR r a).1, .int .i64 (resetR r a).2]) := (by simp [AV.cells, aDk, aRD, rdc, aCh])
  refine AWP.seq ?_
  refine AWP.region (fun _ => ?_)
  refine ARun.box (j := 0) hG rfl rfl rfl rfl rfl (Ev.plain rfl) rfl rfl optN ?_
  refine ARun.alloc (j := 1) hG rfl rfl rfl rfl rfl zv42 rfl optN ?_
  refine ARun.move (.inr rfl) rfl rfl rfl (Ev.plain rfl) optN ?_
  refine ⟨_, _, rfl, hG, ?_⟩
  refine thenA_n ?_
  refine AWP.seq ?_
  refine AWP.region (fun _ => ?_)
  refine ARun.loadBoxA rfl rfl rfl rfl Tryd.underlying42 rfl sz42 (Ev.plain rfl) ((hG.at _ _).trans rfl) rfl rfl optN ?_
  refine ARun.move (.inl rfl) rfl rfl rfl (Ev.plain rfl) optN ?_
  refine ARun.call rfl rfl rfl rfl cf50 (Ev.plain rfl) (.cons (Ev.plain rfl) (.cons (Ev.plain rfl) .nil)) rfl (fun hg => wrongR_fn r a) optN ?_
  refine ARun.move (.inr rfl) rfl rfl rfl (Ev.plain rfl) optN ?_
  refine ⟨_, _, rfl, hG, ?_⟩
  refine thenA_n ?_
  refine AWP.seq ?_
  refine AWP.seq ?_
  refine AWP.region (fun _ => ?_)
  refine ARun.move (.inl rfl) rfl rfl rfl (Ev.plain rfl) optN ?_
  refine ARun.cmp rfl rfl rfl rfl (Ev.plain rfl) (Ev.plain rfl) rfl optN ?_
  refine ⟨_, _, rfl, hG, ?_⟩
  refine thenA_n ?_
  refine AWP.cond rfl (fun h0 => ?_) (fun h0 => ?_)
  · skip
    have hne : wrongR r a ≠ 0 := by simpa using h0
    refine AWP.seq ?_
    refine AWP.region (fun _ => ?_)
    refine ARun.loadBoxA rfl rfl rfl rfl Tryd.underlying42 rfl sz42 (Ev.plain rfl) ((hG.at _ _).trans rfl) rfl rfl optN ?_
    refine ARun.move (.inl rfl) rfl rfl rfl (Ev.plain rfl) optN ?_
    refine ARun.storeL hG rfl rfl rfl sz42 (Ev.plain rfl) (Ev.plain rfl) rfl rfl rfl rfl rfl (Nat.le_of_ble_eq_true rfl) rfl rfl ?_
    refine ARun.move (.inr rfl) rfl rfl rfl (Ev.plain rfl) optN ?_
    refine ⟨_, _, rfl, hG, ?_⟩
    refine thenA_n ?_
    refine AWP.ret ?_
    refine thenA_r ?_
    refine endF.many (.inr rfl) (rs := [.cell 4 42, .tmp 5]) rfl (.cons (.cellA rfl ((hG.at _ _).trans rfl) Tryd.underlying42 rfl sz42 rfl rfl) (.cons (.tmp rfl) .nil)) (by simp) ?_ hN
    rw [resetR, if_pos hne]; rfl
  · skip
    obtain ⟨hdd, j, rfl, hj⟩ := wrongR_ok (r := r) (a := a) (by simpa using h0)
    have hup : wrongR r (j : Int) = 0 := by simpa using h0
    have hjn : ((j : Int)).toNat = j := rfl
    refine AWP.skip ?_
    refine thenA_n ?_
    refine AWP.seq ?_
    refine AWP.region (fun _ => ?_)
    refine ARun.loadBoxA rfl rfl rfl rfl Tryd.underlying42 rfl sz42 (Ev.plain rfl) ((hG.at _ _).trans rfl) rfl rfl optN ?_
    refine ARun.call rfl rfl rfl rfl cf51 (Ev.plain rfl) (.cons (Ev.plain rfl) .nil) rfl (fun hg => goesR_fn r hr) optN ?_
    refine ARun.move (.inl rfl) rfl rfl rfl (Ev.plain rfl) optN ?_
    refine ARun.extract rfl rfl rfl rfl (Ev.plain rfl) rfl optN ?_
    refine ARun.extract rfl rfl rfl rfl (Ev.plain rfl) rfl optN ?_
    refine ARun.storeL hG rfl rfl rfl sz42 (Ev.plain rfl) (Ev.plain rfl) rfl rfl rfl rfl rfl (Nat.le_of_ble_eq_true rfl) rfl rfl ?_
    refine ARun.move (.inr rfl) rfl rfl rfl (Ev.plain rfl) optN ?_
    refine ⟨_, _, rfl, hG, ?_⟩
    refine thenA_n ?_
    refine AWP.seq ?_
    refine AWP.seq ?_
    refine AWP.region (fun _ => ?_)
    refine ARun.move (.inl rfl) rfl rfl rfl (Ev.plain rfl) optN ?_
    refine ⟨_, _, rfl, hG, ?_⟩
    refine thenA_n ?_
    refine AWP.cond rfl (fun h1 => ?_) (fun h1 => ?_)
    · skip
      try simp at h1
      refine AWP.seq ?_
      refine AWP.region (fun _ => ?_)
      refine ARun.move (.inl rfl) rfl rfl rfl (Ev.plain rfl) optN ?_
      refine ARun.fieldBox (fo := 4) rfl rfl rfl rfl Tryd.underlying42 rfl rfl sz40 (by decide) (Ev.plain rfl) ((hG.at _ _).trans rfl) optN ?_
      refine ARun.indexBox (fo := 4 + j * 1) rfl rfl rfl rfl Tryd.underlying40 sz4 (Ev.plain rfl) ((hG.at _ _).trans rfl) (Ev.plain rfl) (j := j) (fun hg => by first | rfl | omega) (fun hg => by first | decide | omega) rfl optN ?_
      refine ARun.storeL1 hG rfl rfl rfl sz4 (Ev.plain rfl) (Ev.plain rfl) rfl (by first | rfl | exact aEr_one _ | exact aFl_one _) (by first | (show 2 + j * 1 + 1 ≤ 10; omega) | (show 0 + j * 1 + 1 ≤ 10; omega) | (show 4 + j * 1 + 1 ≤ 10; omega)) (rd_set_h (goesR r).1 j hj _) rfl ?_
      refine ⟨_, _, rfl, hG, ?_⟩
      refine thenA_n ?_
      refine AWP.seq ?_
      refine AWP.region (fun _ => ?_)
      refine ARun.loadBoxA rfl rfl rfl rfl Tryd.underlying42 rfl sz42 (Ev.plain rfl) ((hG.at _ _).trans rfl) rfl rfl optN ?_
      refine ARun.storeL hG rfl rfl rfl sz42 (Ev.plain rfl) (Ev.plain rfl) rfl rfl rfl rfl rfl (Nat.le_of_ble_eq_true rfl) rfl rfl ?_
      refine ARun.move (.inr rfl) rfl rfl rfl (Ev.plain rfl) optN ?_
      refine ⟨_, _, rfl, hG, ?_⟩
      refine thenA_n ?_
      refine AWP.ret ?_
      refine thenA_r ?_
      refine endF.many (.inr rfl) (rs := [.cell 4 42, .tmp 5]) rfl (.cons (.cellA rfl ((hG.at _ _).trans rfl) Tryd.underlying42 rfl sz42 rfl rfl) (.cons (.tmp rfl) .nil)) (by simp) ?_ hN
      rw [resetR, if_neg (by simp [hup]), if_pos h1]; rfl
    · skip
      try simp at h1
      refine AWP.skip ?_
      refine thenA_n ?_
      refine AWP.seq ?_
      refine AWP.region (fun _ => ?_)
      refine ARun.move (.inl rfl) rfl rfl rfl (Ev.plain rfl) optN ?_
      refine ARun.move (.inl rfl) rfl rfl rfl (Ev.plain rfl) optN ?_
      refine ARun.move (.inl rfl) rfl rfl rfl (Ev.plain rfl) optN ?_
      refine ARun.fieldBox (fo := 0) rfl rfl rfl rfl Tryd.underlying42 rfl rfl sz39 (by decide) (Ev.plain rfl) ((hG.at _ _).trans rfl) optN ?_
      refine ARun.indexBox (fo := 0 + j * 1) rfl rfl rfl rfl Tryd.underlying39 sz9 (Ev.plain rfl) ((hG.at _ _).trans rfl) (Ev.plain rfl) (j := j) (fun hg => by first | rfl | omega) (fun hg => by first | decide | omega) rfl optN ?_
      refine ARun.storeL1 hG rfl rfl rfl sz9 (Ev.plain rfl) (Ev.plain rfl) rfl (by first | rfl | exact aEr_one _ | exact aFl_one _) (by first | (show 2 + j * 1 + 1 ≤ 10; omega) | (show 0 + j * 1 + 1 ≤ 10; omega) | (show 4 + j * 1 + 1 ≤ 10; omega)) (rd_set_s (goesR r).1 j hj _) rfl ?_
      refine ARun.fieldBox (fo := 2) rfl rfl rfl rfl Tryd.underlying42 rfl rfl sz39 (by decide) (Ev.plain rfl) ((hG.at _ _).trans rfl) optN ?_
      refine ARun.indexBox (fo := 2 + j * 1) rfl rfl rfl rfl Tryd.underlying39 sz9 (Ev.plain rfl) ((hG.at _ _).trans rfl) (Ev.plain rfl) (j := j) (fun hg => by first | rfl | omega) (fun hg => by first | decide | omega) rfl optN ?_
      refine ARun.storeL1 hG rfl rfl rfl sz9 (Ev.plain rfl) (Ev.plain rfl) rfl (by first | rfl | exact aEr_one _ | exact aFl_one _) (by first | (show 2 + j * 1 + 1 ≤ 10; omega) | (show 0 + j * 1 + 1 ≤ 10; omega) | (show 4 + j * 1 + 1 ≤ 10; omega)) (rd_set_l (RD.setS _ _ _) j hj _) rfl ?_
      refine ARun.fieldBox (fo := 4) rfl rfl rfl rfl Tryd.underlying42 rfl rfl sz40 (by decide) (Ev.plain rfl) ((hG.at _ _).trans rfl) optN ?_
      refine ARun.indexBox (fo := 4 + j * 1) rfl rfl rfl rfl Tryd.underlying40 sz4 (Ev.plain rfl) ((hG.at _ _).trans rfl) (Ev.plain rfl) (j := j) (fun hg => by first | rfl | omega) (fun hg => by first | decide | omega) rfl optN ?_
      refine ARun.storeL1 hG rfl rfl rfl sz4 (Ev.plain rfl) (Ev.plain rfl) rfl (by first | rfl | exact aEr_one _ | exact aFl_one _) (by first | (show 2 + j * 1 + 1 ≤ 10; omega) | (show 0 + j * 1 + 1 ≤ 10; omega) | (show 4 + j * 1 + 1 ≤ 10; omega)) (rd_set_h (RD.setL _ _ _) j hj _) rfl ?_
      refine ⟨_, _, rfl, hG, ?_⟩
      refine thenA_n ?_
      refine AWP.seq ?_
      refine AWP.region (fun _ => ?_)
      refine ARun.loadBoxA rfl rfl rfl rfl Tryd.underlying42 rfl sz42 (Ev.plain rfl) ((hG.at _ _).trans rfl) rfl rfl optN ?_
      refine ARun.storeL hG rfl rfl rfl sz42 (Ev.plain rfl) (Ev.plain rfl) rfl rfl rfl rfl rfl (Nat.le_of_ble_eq_true rfl) rfl rfl ?_
      refine ARun.move (.inr rfl) rfl rfl rfl (Ev.plain rfl) optN ?_
      refine ⟨_, _, rfl, hG, ?_⟩
      refine thenA_n ?_
      refine AWP.ret ?_
      refine endF.many (.inr rfl) (rs := [.cell 4 42, .tmp 5]) rfl (.cons (.cellA rfl ((hG.at _ _).trans rfl) Tryd.underlying42 rfl sz42 rfl rfl) (.cons (.tmp rfl) .nil)) (by simp) ?_ hN
      rw [resetR, if_neg (by simp [hup]), if_neg (by simp [h1])]; rfl
set_option maxHeartbeats 1000000 in
theorem readR_fn (r : RD) (a : Int) (hr : ROk r) : FnP Tryd.prog 37 [aRD r, .int .i64 a] (.tup [.str (readR r a).1, .int .i64 (readR r a).2]) := by
  have b1 := hr.s0; have b2 := hr.s1; have b3 := hr.l0; have b4 := hr.l1
  refine FnP.of Tryd.func37 rfl rfl (by simp) (by simp [AV.cells, aDk, aRD, rdc, aCh]) (fun G hG => ?_)
  have hN : NoH G.length (.tup [.str (readR r a).1, .int .i64 (readR r a).2]) := (by simp [AV.cells, aDk, aRD, rdc, aCh])
  refine AWP.seq ?_
  refine AWP.region (fun _ => ?_)
  refine ARun.box (j := 0) hG rfl rfl rfl rfl rfl (Ev.plain rfl) rfl rfl optN ?_
  refine ARun.move (.inr rfl) rfl rfl rfl (Ev.plain rfl) optN ?_
  refine ARun.move (.inr rfl) rfl rfl rfl (Ev.plain rfl) optN ?_
  refine ⟨_, _, rfl, hG, ?_⟩
  refine thenA_n ?_
  refine AWP.seq ?_
  refine AWP.region (fun _ => ?_)
  refine ARun.loadBoxA rfl rfl rfl rfl Tryd.underlying42 rfl sz42 (Ev.plain rfl) ((hG.at _ _).trans rfl) rfl rfl optN ?_
  refine ARun.move (.inl rfl) rfl rfl rfl (Ev.plain rfl) optN ?_
  refine ARun.call rfl rfl rfl rfl cf50 (Ev.plain rfl) (.cons (Ev.plain rfl) (.cons (Ev.plain rfl) .nil)) rfl (fun hg => wrongR_fn r a) optN ?_
  refine ARun.move (.inr rfl) rfl rfl rfl (Ev.plain rfl) optN ?_
  refine ⟨_, _, rfl, hG, ?_⟩
  refine thenA_n ?_
  refine AWP.seq ?_
  refine AWP.seq ?_
  refine AWP.region (fun _ => ?_)
  refine ARun.move (.inl rfl) rfl rfl rfl (Ev.plain rfl) optN ?_
  refine ARun.cmp rfl rfl rfl rfl (Ev.plain rfl) (Ev.plain rfl) rfl optN ?_
  refine ⟨_, _, rfl, hG, ?_⟩
  refine thenA_n ?_
  refine AWP.cond rfl (fun h0 => ?_) (fun h0 => ?_)
  · skip
    have hne : wrongR r a ≠ 0 := by simpa using h0
    refine AWP.seq ?_
    refine AWP.region (fun _ => ?_)
    refine ARun.move (.inl rfl) rfl rfl rfl (Ev.plain rfl) optN ?_
    refine ARun.move (.inr rfl) rfl rfl rfl (Ev.plain rfl) optN ?_
    refine ARun.move (.inr rfl) rfl rfl rfl (Ev.plain rfl) optN ?_
    refine ⟨_, _, rfl, hG, ?_⟩
    refine thenA_n ?_
    refine AWP.ret ?_
    refine thenA_r ?_
    refine endF.many (.inr rfl) (rs := [.tmp 4, .tmp 5]) rfl (.cons (.tmp rfl) (.cons (.tmp rfl) .nil)) (by simp) ?_ hN
    rw [readR, if_pos hne]; rfl
  · skip
    obtain ⟨hdd, j, rfl, hj⟩ := wrongR_ok (r := r) (a := a) (by simpa using h0)
    have hup : wrongR r (j : Int) = 0 := by simpa using h0
    have hjn : ((j : Int)).toNat = j := rfl
    refine AWP.skip ?_
    refine thenA_n ?_
    refine AWP.seq ?_
    refine AWP.draw mixed (by kernel_rfl) (fun _ => ?_)
    refine ARun.move (.inl rfl) rfl rfl rfl (Ev.plain rfl) optN ?_
    refine ARun.fieldBox (fo := 0) rfl rfl rfl rfl Tryd.underlying42 rfl rfl sz39 (by decide) (Ev.plain rfl) ((hG.at _ _).trans rfl) optN ?_
    refine ARun.indexBox (fo := 0 + j * 1) rfl rfl rfl rfl Tryd.underlying39 sz9 (Ev.plain rfl) ((hG.at _ _).trans rfl) (Ev.plain rfl) (j := j) (fun hg => by first | rfl | omega) (fun hg => by first | decide | omega) rfl optN ?_
    refine ARun.loadBox rfl rfl rfl rfl Tryd.underlying9 rfl (Ev.plain rfl) ((hG.at _ _).trans rfl) (rd_s r j hj) optN ?_
    refine ARun.move (.inl rfl) rfl rfl rfl (Ev.plain rfl) optN ?_
    refine ARun.fieldBox (fo := 2) rfl rfl rfl rfl Tryd.underlying42 rfl rfl sz39 (by decide) (Ev.plain rfl) ((hG.at _ _).trans rfl) optN ?_
    refine ARun.indexBox (fo := 2 + j * 1) rfl rfl rfl rfl Tryd.underlying39 sz9 (Ev.plain rfl) ((hG.at _ _).trans rfl) (Ev.plain rfl) (j := j) (fun hg => by first | rfl | omega) (fun hg => by first | decide | omega) rfl optN ?_
    refine ARun.loadBox rfl rfl rfl rfl Tryd.underlying9 rfl (Ev.plain rfl) ((hG.at _ _).trans rfl) (rd_l r j hj) optN ?_
    refine ARun.cat rfl rfl rfl rfl (Ev.plain rfl) (Ev.plain rfl) (fun hg => (by have := hr.sj j; have := hr.lj j; omega)) optN ?_
    refine ARun.move (.inr rfl) rfl rfl rfl (Ev.plain rfl) optN ?_
    refine ARun.move (.inr rfl) rfl rfl rfl (Ev.plain rfl) optN ?_
    refine ⟨by kernel_rfl, _, _, rfl, hG, ?_⟩
    refine thenA_n ?_
    refine AWP.ret ?_
    refine endF.many (.inr rfl) (rs := [.tmp 4, .tmp 5]) rfl (.cons (.tmp rfl) (.cons (.tmp rfl) .nil)) (by simp) ?_ hN
    rw [readR, if_neg (by simp [hup])]; rfl
set_option maxHeartbeats 1000000 in
theorem armR_fn (r : RD) (k : Int) : FnP Tryd.prog 38 [aRD r, .int .i64 k] (.tup [aRD (armR r k).1, .int .i64 (armR r k).2]) := by
  refine FnP.of Tryd.func38 rfl rfl (by simp) (by simp [AV.cells, aDk, aRD, rdc, aCh]) (fun G hG => ?_)
  have hN : NoH G.length (.tup [aRD (armR r k).1, .int .i64 (armR r k).2]) := (by simp [AV.cells, aDk, aRD, rdc, aCh])
  refine AWP.seq ?_
  refine AWP.region (fun _ => ?_)
  refine ARun.box (j := 0) hG rfl rfl rfl rfl rfl (Ev.plain rfl) rfl rfl optN ?_
  refine ARun.alloc (j := 1) hG rfl rfl rfl rfl rfl zv42 rfl optN ?_
  refine ARun.move (.inr rfl) rfl rfl rfl (Ev.plain rfl) optN ?_
  refine ⟨_, _, rfl, hG, ?_⟩
  refine thenA_n ?_
  refine AWP.seq ?_
  refine AWP.seq ?_
  refine AWP.region (fun _ => ?_)
  refine ARun.fieldBox (fo := 9) rfl rfl rfl rfl Tryd.underlying42 rfl rfl sz4 (by decide) (Ev.plain rfl) ((hG.at _ _).trans rfl) optN ?_
  refine ARun.loadBox rfl rfl rfl rfl Tryd.underlying4 rfl (Ev.plain rfl) ((hG.at _ _).trans rfl) rfl optN ?_
  refine ⟨_, _, rfl, hG, ?_⟩
  refine thenA_n ?_
  refine AWP.cond rfl (fun h0 => ?_) (fun h0 => ?_)
  · skip
    try simp at h0
    refine AWP.seq ?_
    refine AWP.region (fun _ => ?_)
    refine ARun.loadBoxA rfl rfl rfl rfl Tryd.underlying42 rfl sz42 (Ev.plain rfl) ((hG.at _ _).trans rfl) rfl rfl optN ?_
    refine ARun.storeL hG rfl rfl rfl sz42 (Ev.plain rfl) (Ev.plain rfl) rfl rfl rfl rfl rfl (Nat.le_of_ble_eq_true rfl) rfl rfl ?_
    refine ARun.move (.inr rfl) rfl rfl rfl (Ev.plain rfl) optN ?_
    refine ⟨_, _, rfl, hG, ?_⟩
    refine thenA_n ?_
    refine AWP.ret ?_
    refine thenA_r ?_
    refine endF.many (.inr rfl) (rs := [.cell 4 42, .tmp 5]) rfl (.cons (.cellA rfl ((hG.at _ _).trans rfl) Tryd.underlying42 rfl sz42 rfl rfl) (.cons (.tmp rfl) .nil)) (by simp) ?_ hN
    rw [armR, if_pos h0]; rfl
  · skip
    try simp at h0
    refine AWP.skip ?_
    refine thenA_n ?_
    refine AWP.seq ?_
    refine AWP.seq ?_
    refine AWP.region (fun _ => ?_)
    refine ARun.move (.inl rfl) rfl rfl rfl (Ev.plain rfl) optN ?_
    refine ARun.cmp rfl rfl rfl rfl (Ev.plain rfl) (Ev.plain rfl) rfl optN ?_
    refine ARun.move (.inl rfl) rfl rfl rfl (Ev.plain rfl) optN ?_
    refine ARun.move (.inl rfl) rfl rfl rfl (Ev.plain rfl) optS ?_
    refine ARun.cmp rfl rfl rfl rfl (Ev.opt rfl (fun h => h)) (Ev.plain rfl) rfl optS ?_
    refine ARun.pick rfl rfl rfl rfl (Ev.plain rfl) (Ev.plain rfl) (Ev.opt rfl (by first | exact pkF | exact pkF2 | simp +contextual)) (orB _ _) optN ?_
    refine ⟨_, _, rfl, hG, ?_⟩
    refine thenA_n ?_
    refine AWP.cond rfl (fun h1 => ?_) (fun h1 => ?_)
    · skip
      try simp at h1
      refine AWP.seq ?_
      refine AWP.region (fun _ => ?_)
      refine ARun.loadBoxA rfl rfl rfl rfl Tryd.underlying42 rfl sz42 (Ev.plain rfl) ((hG.at _ _).trans rfl) rfl rfl optN ?_
      refine ARun.storeL hG rfl rfl rfl sz42 (Ev.plain rfl) (Ev.plain rfl) rfl rfl rfl rfl rfl (Nat.le_of_ble_eq_true rfl) rfl rfl ?_
      refine ARun.move (.inr rfl) rfl rfl rfl (Ev.plain rfl) optN ?_
      refine ⟨_, _, rfl, hG, ?_⟩
      refine thenA_n ?_
      refine AWP.ret ?_
      refine thenA_r ?_
      refine endF.many (.inr rfl) (rs := [.cell 4 42, .tmp 5]) rfl (.cons (.cellA rfl ((hG.at _ _).trans rfl) Tryd.underlying42 rfl sz42 rfl rfl) (.cons (.tmp rfl) .nil)) (by simp) ?_ hN
      rw [armR, if_neg (by simp [h0]), if_pos (by omega)]; rfl
    · skip
      try simp at h1
      refine AWP.skip ?_
      refine thenA_n ?_
      refine AWP.seq ?_
      refine AWP.region (fun _ => ?_)
      refine ARun.move (.inl rfl) rfl rfl rfl (Ev.plain rfl) optN ?_
      refine ARun.fieldBox (fo := 8) rfl rfl rfl rfl Tryd.underlying42 rfl rfl sz3 (by decide) (Ev.plain rfl) ((hG.at _ _).trans rfl) optN ?_
      refine ARun.storeL1 hG rfl rfl rfl sz3 (Ev.plain rfl) (Ev.plain rfl) rfl (by first | rfl | exact aEr_one _ | exact aFl_one _) (Nat.le_of_ble_eq_true rfl) rfl rfl ?_
      refine ⟨_, _, rfl, hG, ?_⟩
      refine thenA_n ?_
      refine AWP.seq ?_
      refine AWP.region (fun _ => ?_)
      refine ARun.loadBoxA rfl rfl rfl rfl Tryd.underlying42 rfl sz42 (Ev.plain rfl) ((hG.at _ _).trans rfl) rfl rfl optN ?_
      refine ARun.storeL hG rfl rfl rfl sz42 (Ev.plain rfl) (Ev.plain rfl) rfl rfl rfl rfl rfl (Nat.le_of_ble_eq_true rfl) rfl rfl ?_
      refine ARun.move (.inr rfl) rfl rfl rfl (Ev.plain rfl) optN ?_
      refine ⟨_, _, rfl, hG, ?_⟩
      refine thenA_n ?_
      refine AWP.ret ?_
      refine endF.many (.inr rfl) (rs := [.cell 4 42, .tmp 5]) rfl (.cons (.cellA rfl ((hG.at _ _).trans rfl) Tryd.underlying42 rfl sz42 rfl rfl) (.cons (.tmp rfl) .nil)) (by simp) ?_ hN
      rw [armR, if_neg (by simp [h0]), if_neg (by omega)]; rfl
set_option maxHeartbeats 1000000 in
theorem offR_fn (r : RD) : FnP Tryd.prog 39 [aRD r] (aRD { r with dead := true }) := by
  refine FnP.of Tryd.func39 rfl rfl (by simp) (by simp [AV.cells, aDk, aRD, rdc, aCh]) (fun G hG => ?_)
  have hN : NoH G.length (aRD { r with dead := true }) := (by simp [AV.cells, aDk, aRD, rdc, aCh])
  refine AWP.seq ?_
  refine AWP.region (fun _ => ?_)
  refine ARun.box (j := 0) hG rfl rfl rfl rfl rfl (Ev.plain rfl) rfl rfl optN ?_
  refine ARun.alloc (j := 1) hG rfl rfl rfl rfl rfl zv42 rfl optN ?_
  refine ⟨_, _, rfl, hG, ?_⟩
  refine thenA_n ?_
  refine AWP.seq ?_
  refine AWP.region (fun _ => ?_)
  refine ARun.fieldBox (fo := 9) rfl rfl rfl rfl Tryd.underlying42 rfl rfl sz4 (by decide) (Ev.plain rfl) ((hG.at _ _).trans rfl) optN ?_
  refine ARun.storeL1 hG rfl rfl rfl sz4 (Ev.plain rfl) (Ev.plain rfl) rfl (by first | rfl | exact aEr_one _ | exact aFl_one _) (Nat.le_of_ble_eq_true rfl) rfl rfl ?_
  refine ⟨_, _, rfl, hG, ?_⟩
  refine thenA_n ?_
  refine AWP.seq ?_
  refine AWP.region (fun _ => ?_)
  refine ARun.loadBoxA rfl rfl rfl rfl Tryd.underlying42 rfl sz42 (Ev.plain rfl) ((hG.at _ _).trans rfl) rfl rfl optN ?_
  refine ARun.storeL hG rfl rfl rfl sz42 (Ev.plain rfl) (Ev.plain rfl) rfl rfl rfl rfl rfl (Nat.le_of_ble_eq_true rfl) rfl rfl ?_
  refine ⟨_, _, rfl, hG, ?_⟩
  refine thenA_n ?_
  refine AWP.ret ?_
  refine endF.one (.inr rfl) rfl (.cellA rfl ((hG.at _ _).trans rfl) Tryd.underlying42 rfl sz42 rfl rfl) ?_ hN
  rfl
set_option maxHeartbeats 1000000 in
theorem leftR_fn (s l : ByteArray) (b : Bool) (c : Ch) (hs : s.size ≤ 1000000) (hl : l.size ≤ 1000000) (hc : c.trash.size ≤ 1000000) : FnP Tryd.prog 52 [.str s, .str l, .bool b, aCh c] (.str (leftR s l b c)) := by
  have e1 := ba_all c.trash
  refine FnP.of Tryd.func52 rfl rfl (by simp) (by simp [AV.cells, aDk, aRD, rdc, aCh]) (fun G hG => ?_)
  have hN : NoH G.length (.str (leftR s l b c)) := (by simp [AV.cells, aDk, aRD, rdc, aCh])
  refine AWP.seq ?_
  refine AWP.region (fun _ => ?_)
  refine ARun.boxPe rfl rfl rfl rfl (Ev.plain rfl) rfl rfl optN ?_
  refine ARun.move (.inr rfl) rfl rfl rfl (Ev.plain rfl) optN ?_
  refine ⟨_, _, rfl, hG, ?_⟩
  refine thenA_n ?_
  refine AWP.seq ?_
  refine AWP.seq ?_
  refine AWP.region (fun _ => ?_)
  refine ARun.move (.inl rfl) rfl rfl rfl (Ev.plain rfl) optN ?_
  refine ARun.move (.inl rfl) rfl rfl rfl (Ev.plain rfl) optN ?_
  refine ARun.fieldPe rfl rfl rfl rfl Tryd.underlying75 rfl rfl sz4 (by decide) (Ev.plain rfl) rfl optS ?_
  refine ARun.loadPe rfl rfl rfl rfl Tryd.underlying4 rfl (Ev.opt rfl (fun h => h)) rfl optS ?_
  refine ARun.pick rfl rfl rfl rfl (Ev.plain rfl) (Ev.opt rfl (by first | exact pkT | exact pkT2 | simp +contextual)) (Ev.plain rfl) (andB _ _) optN ?_
  refine ⟨_, _, rfl, hG, ?_⟩
  refine thenA_n ?_
  refine AWP.cond rfl (fun h0 => ?_) (fun h0 => ?_)
  · skip
    try simp at h0
    refine AWP.seq ?_
    refine AWP.region (fun _ => ?_)
    refine ARun.move (.inr rfl) rfl rfl rfl (Ev.plain rfl) optN ?_
    refine ⟨_, _, rfl, hG, ?_⟩
    refine thenA_n ?_
    refine AWP.ret ?_
    refine thenA_r ?_
    refine endF.one (.inr rfl) rfl (.tmp rfl) ?_ hN
    rw [leftR, if_pos h0]; rfl
  · skip
    try simp at h0
    refine AWP.skip ?_
    refine thenA_n ?_
    refine AWP.seq ?_
    refine AWP.region (fun _ => ?_)
    refine ARun.fieldPe rfl rfl rfl rfl Tryd.underlying75 rfl rfl sz3 (by decide) (Ev.plain rfl) rfl optN ?_
    refine ARun.loadPe rfl rfl rfl rfl Tryd.underlying3 rfl (Ev.plain rfl) rfl optN ?_
    refine ARun.move (.inr rfl) rfl rfl rfl (Ev.plain rfl) optN ?_
    refine ⟨_, _, rfl, hG, ?_⟩
    refine thenA_n ?_
    refine AWP.seq ?_
    refine AWP.seq ?_
    refine AWP.region (fun _ => ?_)
    refine ARun.move (.inl rfl) rfl rfl rfl (Ev.plain rfl) optN ?_
    refine ARun.cmp rfl rfl rfl rfl (Ev.plain rfl) (Ev.plain rfl) rfl optN ?_
    refine ⟨_, _, rfl, hG, ?_⟩
    refine thenA_n ?_
    refine AWP.cond rfl (fun h1 => ?_) (fun h1 => ?_)
    · skip
      try simp at h1
      refine AWP.region (fun _ => ?_)
      refine ARun.move (.inr rfl) rfl rfl rfl (Ev.plain rfl) optN ?_
      refine ⟨_, _, rfl, hG, ?_⟩
      refine thenA_n ?_
      refine AWP.seq ?_
      refine AWP.seq ?_
      refine AWP.region (fun _ => ?_)
      refine ARun.move (.inl rfl) rfl rfl rfl (Ev.plain rfl) optN ?_
      refine ARun.move (.inl rfl) rfl rfl rfl (Ev.plain rfl) optN ?_
      refine ARun.lenStr rfl rfl rfl rfl Tryd.underlying9 (Ev.plain rfl) optN ?_
      refine ARun.cmp rfl rfl rfl rfl (Ev.plain rfl) (Ev.plain rfl) rfl optN ?_
      refine ⟨_, _, rfl, hG, ?_⟩
      refine thenA_n ?_
      refine AWP.cond rfl (fun h2 => ?_) (fun h2 => ?_)
      · skip
        simp at h2; omega
      · skip
        try simp at h2
        refine AWP.skip ?_
        refine thenA_n ?_
        refine AWP.seq ?_
        refine AWP.region (fun _ => ?_)
        refine ARun.fieldPe rfl rfl rfl rfl Tryd.underlying75 rfl rfl sz9 (by decide) (Ev.plain rfl) rfl optN ?_
        refine ARun.loadPe rfl rfl rfl rfl Tryd.underlying9 rfl (Ev.plain rfl) rfl optN ?_
        refine ARun.move (.inr rfl) rfl rfl rfl (Ev.plain rfl) optN ?_
        refine ⟨_, _, rfl, hG, ?_⟩
        refine thenA_n ?_
        refine AWP.seq ?_
        refine AWP.seq ?_
        refine AWP.region (fun _ => ?_)
        refine ARun.move (.inl rfl) rfl rfl rfl (Ev.plain rfl) optN ?_
        refine ARun.lenStr rfl rfl rfl rfl Tryd.underlying9 (Ev.plain rfl) optN ?_
        refine ARun.move (.inl rfl) rfl rfl rfl (Ev.plain rfl) optN ?_
        refine ARun.lenStr rfl rfl rfl rfl Tryd.underlying9 (Ev.plain rfl) optN ?_
        refine ARun.move (.inl rfl) rfl rfl rfl (Ev.plain rfl) optN ?_
        first | refine ARun.arith rfl rfl rfl rfl (Ev.plain rfl) (Ev.plain rfl) rfl (fun hg => i64w (by (try simp at hg); omega)) optN ?_ | refine ARun.arith rfl rfl rfl rfl (Ev.plain rfl) (Ev.plain rfl) rfl (fun _ => rfl) optN ?_
        refine ARun.cmp rfl rfl rfl rfl (Ev.plain rfl) (Ev.plain rfl) rfl optN ?_
        refine ⟨_, _, rfl, hG, ?_⟩
        refine thenA_n ?_
        refine AWP.cond rfl (fun h3 => ?_) (fun h3 => ?_)
        · skip
          try simp at h3
          refine AWP.region (fun _ => ?_)
          refine ARun.move (.inl rfl) rfl rfl rfl (Ev.plain rfl) optN ?_
          refine ARun.move (.inl rfl) rfl rfl rfl (Ev.plain rfl) optN ?_
          refine ARun.lenStr rfl rfl rfl rfl Tryd.underlying9 (Ev.plain rfl) optN ?_
          refine ARun.move (.inl rfl) rfl rfl rfl (Ev.plain rfl) optN ?_
          first | refine ARun.arith rfl rfl rfl rfl (Ev.plain rfl) (Ev.plain rfl) rfl (fun hg => i64w (by (try simp at hg); omega)) optN ?_ | refine ARun.arith rfl rfl rfl rfl (Ev.plain rfl) (Ev.plain rfl) rfl (fun _ => rfl) optN ?_
          refine ARun.cutStr (a := 0) (b := l.size) rfl rfl rfl rfl Tryd.underlying9 (Ev.plain rfl) (fun _ => rfl) ⟨_, _, (Ev.plain rfl), fun hg => (by (try simp at hg); omega)⟩ (fun hg => (by (try simp at hg); omega)) rfl optN ?_
          refine ARun.move (.inr rfl) rfl rfl rfl (Ev.plain rfl) optN ?_
          refine ⟨_, _, rfl, hG, ?_⟩
          refine thenA_n ?_
          refine AWP.seq ?_
          refine AWP.region (fun _ => ?_)
          refine ARun.move (.inl rfl) rfl rfl rfl (Ev.plain rfl) optN ?_
          refine ARun.move (.inl rfl) rfl rfl rfl (Ev.plain rfl) optN ?_
          refine ARun.move (.inl rfl) rfl rfl rfl (Ev.plain rfl) optN ?_
          refine ARun.cutStr (a := 0) (b := (0 + 0)) rfl rfl rfl rfl Tryd.underlying9 (Ev.plain rfl) (fun _ => rfl) ⟨_, _, (Ev.plain rfl), fun hg => (by (try simp at hg); omega)⟩ (fun hg => (by (try simp at hg); omega)) rfl optN ?_
          refine ARun.cat rfl rfl rfl rfl (Ev.plain rfl) (Ev.plain rfl) (fun hg => (by simp only [ByteArray.size_append, ByteArray.size_extract]; omega)) optN ?_
          refine ARun.move (.inl rfl) rfl rfl rfl (Ev.plain rfl) optN ?_
          refine ARun.cat rfl rfl rfl rfl (Ev.plain rfl) (Ev.plain rfl) (fun hg => (by simp only [ByteArray.size_append, ByteArray.size_extract]; omega)) optN ?_
          refine ARun.move (.inr rfl) rfl rfl rfl (Ev.plain rfl) optN ?_
          refine ⟨_, _, rfl, hG, ?_⟩
          refine thenA_n ?_
          refine AWP.ret ?_
          refine endF.one (.inr rfl) rfl (.tmp rfl) ?_ hN
          rw [leftR_k h0 0 (by omega) (c.trash.extract 0 l.size) (by rw [ba_min _ _ l.size (by omega)])]
        · skip
          try simp at h3
          refine AWP.skip ?_
          refine thenA_n ?_
          refine AWP.seq ?_
          refine AWP.region (fun _ => ?_)
          refine ARun.move (.inl rfl) rfl rfl rfl (Ev.plain rfl) optN ?_
          refine ARun.move (.inl rfl) rfl rfl rfl (Ev.plain rfl) optN ?_
          refine ARun.move (.inl rfl) rfl rfl rfl (Ev.plain rfl) optN ?_
          refine ARun.cutStr (a := 0) (b := (0 + 0)) rfl rfl rfl rfl Tryd.underlying9 (Ev.plain rfl) (fun _ => rfl) ⟨_, _, (Ev.plain rfl), fun hg => (by (try simp at hg); omega)⟩ (fun hg => (by (try simp at hg); omega)) rfl optN ?_
          refine ARun.cat rfl rfl rfl rfl (Ev.plain rfl) (Ev.plain rfl) (fun hg => (by simp only [ByteArray.size_append, ByteArray.size_extract]; omega)) optN ?_
          refine ARun.move (.inl rfl) rfl rfl rfl (Ev.plain rfl) optN ?_
          refine ARun.cat rfl rfl rfl rfl (Ev.plain rfl) (Ev.plain rfl) (fun hg => (by simp only [ByteArray.size_append, ByteArray.size_extract]; omega)) optN ?_
          refine ARun.move (.inr rfl) rfl rfl rfl (Ev.plain rfl) optN ?_
          refine ⟨_, _, rfl, hG, ?_⟩
          refine thenA_n ?_
          refine AWP.ret ?_
          refine endF.one (.inr rfl) rfl (.tmp rfl) ?_ hN
          rw [leftR_k h0 0 (by omega) c.trash (by rw [ba_all _ _ (by omega)])]
    · skip
      try simp at h1
      refine AWP.skip ?_
      refine thenA_n ?_
      refine AWP.seq ?_
      refine AWP.seq ?_
      refine AWP.region (fun _ => ?_)
      refine ARun.move (.inl rfl) rfl rfl rfl (Ev.plain rfl) optN ?_
      refine ARun.move (.inl rfl) rfl rfl rfl (Ev.plain rfl) optN ?_
      refine ARun.lenStr rfl rfl rfl rfl Tryd.underlying9 (Ev.plain rfl) optN ?_
      refine ARun.cmp rfl rfl rfl rfl (Ev.plain rfl) (Ev.plain rfl) rfl optN ?_
      refine ⟨_, _, rfl, hG, ?_⟩
      refine thenA_n ?_
      refine AWP.cond rfl (fun h4 => ?_) (fun h4 => ?_)
      · skip
        try simp at h4
        refine AWP.region (fun _ => ?_)
        refine ARun.move (.inl rfl) rfl rfl rfl (Ev.plain rfl) optN ?_
        refine ARun.lenStr rfl rfl rfl rfl Tryd.underlying9 (Ev.plain rfl) optN ?_
        refine ARun.move (.inr rfl) rfl rfl rfl (Ev.plain rfl) optN ?_
        refine ⟨_, _, rfl, hG, ?_⟩
        refine thenA_n ?_
        refine AWP.seq ?_
        refine AWP.region (fun _ => ?_)
        refine ARun.fieldPe rfl rfl rfl rfl Tryd.underlying75 rfl rfl sz9 (by decide) (Ev.plain rfl) rfl optN ?_
        refine ARun.loadPe rfl rfl rfl rfl Tryd.underlying9 rfl (Ev.plain rfl) rfl optN ?_
        refine ARun.move (.inr rfl) rfl rfl rfl (Ev.plain rfl) optN ?_
        refine ⟨_, _, rfl, hG, ?_⟩
        refine thenA_n ?_
        refine AWP.seq ?_
        refine AWP.seq ?_
        refine AWP.region (fun _ => ?_)
        refine ARun.move (.inl rfl) rfl rfl rfl (Ev.plain rfl) optN ?_
        refine ARun.lenStr rfl rfl rfl rfl Tryd.underlying9 (Ev.plain rfl) optN ?_
        refine ARun.move (.inl rfl) rfl rfl rfl (Ev.plain rfl) optN ?_
        refine ARun.lenStr rfl rfl rfl rfl Tryd.underlying9 (Ev.plain rfl) optN ?_
        refine ARun.move (.inl rfl) rfl rfl rfl (Ev.plain rfl) optN ?_
        first | refine ARun.arith rfl rfl rfl rfl (Ev.plain rfl) (Ev.plain rfl) rfl (fun hg => i64w (by (try simp at hg); omega)) optN ?_ | refine ARun.arith rfl rfl rfl rfl (Ev.plain rfl) (Ev.plain rfl) rfl (fun _ => rfl) optN ?_
        refine ARun.cmp rfl rfl rfl rfl (Ev.plain rfl) (Ev.plain rfl) rfl optN ?_
        refine ⟨_, _, rfl, hG, ?_⟩
        refine thenA_n ?_
        refine AWP.cond rfl (fun h5 => ?_) (fun h5 => ?_)
        · skip
          try simp at h5
          refine AWP.region (fun _ => ?_)
          refine ARun.move (.inl rfl) rfl rfl rfl (Ev.plain rfl) optN ?_
          refine ARun.move (.inl rfl) rfl rfl rfl (Ev.plain rfl) optN ?_
          refine ARun.lenStr rfl rfl rfl rfl Tryd.underlying9 (Ev.plain rfl) optN ?_
          refine ARun.move (.inl rfl) rfl rfl rfl (Ev.plain rfl) optN ?_
          first | refine ARun.arith rfl rfl rfl rfl (Ev.plain rfl) (Ev.plain rfl) rfl (fun hg => i64w (by (try simp at hg); omega)) optN ?_ | refine ARun.arith rfl rfl rfl rfl (Ev.plain rfl) (Ev.plain rfl) rfl (fun _ => rfl) optN ?_
          refine ARun.cutStr (a := 0) (b := (0 + 0)) rfl rfl rfl rfl Tryd.underlying9 (Ev.plain rfl) (fun _ => rfl) ⟨_, _, (Ev.plain rfl), fun hg => (by (try simp at hg); omega)⟩ (fun hg => (by (try simp at hg); omega)) rfl optN ?_
          refine ARun.move (.inr rfl) rfl rfl rfl (Ev.plain rfl) optN ?_
          refine ⟨_, _, rfl, hG, ?_⟩
          refine thenA_n ?_
          refine AWP.seq ?_
          refine AWP.region (fun _ => ?_)
          refine ARun.move (.inl rfl) rfl rfl rfl (Ev.plain rfl) optN ?_
          refine ARun.move (.inl rfl) rfl rfl rfl (Ev.plain rfl) optN ?_
          refine ARun.move (.inl rfl) rfl rfl rfl (Ev.plain rfl) optN ?_
          refine ARun.cutStr (a := 0) (b := l.size) rfl rfl rfl rfl Tryd.underlying9 (Ev.plain rfl) (fun _ => rfl) ⟨_, _, (Ev.plain rfl), fun hg => (by (try simp at hg); omega)⟩ (fun hg => (by (try simp at hg); omega)) rfl optN ?_
          refine ARun.cat rfl rfl rfl rfl (Ev.plain rfl) (Ev.plain rfl) (fun hg => (by simp only [ByteArray.size_append, ByteArray.size_extract]; omega)) optN ?_
          refine ARun.move (.inl rfl) rfl rfl rfl (Ev.plain rfl) optN ?_
          refine ARun.cat rfl rfl rfl rfl (Ev.plain rfl) (Ev.plain rfl) (fun hg => (by simp only [ByteArray.size_append, ByteArray.size_extract]; omega)) optN ?_
          refine ARun.move (.inr rfl) rfl rfl rfl (Ev.plain rfl) optN ?_
          refine ⟨_, _, rfl, hG, ?_⟩
          refine thenA_n ?_
          refine AWP.ret ?_
          refine endF.one (.inr rfl) rfl (.tmp rfl) ?_ hN
          rw [leftR_k h0 l.size (by omega) (c.trash.extract 0 0) (by rw [ba_min _ _ 0 (by omega)])]
        · skip
          replace h5 := of_decide_eq_false h5
          refine AWP.skip ?_
          refine thenA_n ?_
          refine AWP.seq ?_
          refine AWP.region (fun _ => ?_)
          refine ARun.move (.inl rfl) rfl rfl rfl (Ev.plain rfl) optN ?_
          refine ARun.move (.inl rfl) rfl rfl rfl (Ev.plain rfl) optN ?_
          refine ARun.move (.inl rfl) rfl rfl rfl (Ev.plain rfl) optN ?_
          refine ARun.cutStr (a := 0) (b := l.size) rfl rfl rfl rfl Tryd.underlying9 (Ev.plain rfl) (fun _ => rfl) ⟨_, _, (Ev.plain rfl), fun hg => (by (try simp at hg); omega)⟩ (fun hg => (by (try simp at hg); omega)) rfl optN ?_
          refine ARun.cat rfl rfl rfl rfl (Ev.plain rfl) (Ev.plain rfl) (fun hg => (by simp only [ByteArray.size_append, ByteArray.size_extract]; omega)) optN ?_
          refine ARun.move (.inl rfl) rfl rfl rfl (Ev.plain rfl) optN ?_
          refine ARun.cat rfl rfl rfl rfl (Ev.plain rfl) (Ev.plain rfl) (fun hg => (by simp only [ByteArray.size_append, ByteArray.size_extract]; omega)) optN ?_
          refine ARun.move (.inr rfl) rfl rfl rfl (Ev.plain rfl) optN ?_
          refine ⟨_, _, rfl, hG, ?_⟩
          refine thenA_n ?_
          refine AWP.ret ?_
          refine endF.one (.inr rfl) rfl (.tmp rfl) ?_ hN
          rw [leftR_k h0 l.size (by omega) c.trash (by rw [ba_all _ _ (by omega)])]
      · skip
        try simp at h4
        refine AWP.skip ?_
        refine thenA_n ?_
        refine AWP.seq ?_
        refine AWP.region (fun _ => ?_)
        refine ARun.fieldPe rfl rfl rfl rfl Tryd.underlying75 rfl rfl sz9 (by decide) (Ev.plain rfl) rfl optN ?_
        refine ARun.loadPe rfl rfl rfl rfl Tryd.underlying9 rfl (Ev.plain rfl) rfl optN ?_
        refine ARun.move (.inr rfl) rfl rfl rfl (Ev.plain rfl) optN ?_
        refine ⟨_, _, rfl, hG, ?_⟩
        refine thenA_n ?_
        refine AWP.seq ?_
        refine AWP.seq ?_
        refine AWP.region (fun _ => ?_)
        refine ARun.move (.inl rfl) rfl rfl rfl (Ev.plain rfl) optN ?_
        refine ARun.lenStr rfl rfl rfl rfl Tryd.underlying9 (Ev.plain rfl) optN ?_
        refine ARun.move (.inl rfl) rfl rfl rfl (Ev.plain rfl) optN ?_
        refine ARun.lenStr rfl rfl rfl rfl Tryd.underlying9 (Ev.plain rfl) optN ?_
        refine ARun.move (.inl rfl) rfl rfl rfl (Ev.plain rfl) optN ?_
        first | refine ARun.arith rfl rfl rfl rfl (Ev.plain rfl) (Ev.plain rfl) rfl (fun hg => i64w (by (try simp at hg); omega)) optN ?_ | refine ARun.arith rfl rfl rfl rfl (Ev.plain rfl) (Ev.plain rfl) rfl (fun _ => rfl) optN ?_
        refine ARun.cmp rfl rfl rfl rfl (Ev.plain rfl) (Ev.plain rfl) rfl optN ?_
        refine ⟨_, _, rfl, hG, ?_⟩
        refine thenA_n ?_
        refine AWP.cond rfl (fun h6 => ?_) (fun h6 => ?_)
        · skip
          try simp at h6
          refine AWP.region (fun _ => ?_)
          refine ARun.move (.inl rfl) rfl rfl rfl (Ev.plain rfl) optN ?_
          refine ARun.move (.inl rfl) rfl rfl rfl (Ev.plain rfl) optN ?_
          refine ARun.lenStr rfl rfl rfl rfl Tryd.underlying9 (Ev.plain rfl) optN ?_
          refine ARun.move (.inl rfl) rfl rfl rfl (Ev.plain rfl) optN ?_
          first | refine ARun.arith rfl rfl rfl rfl (Ev.plain rfl) (Ev.plain rfl) rfl (fun hg => i64w (by (try simp at hg); omega)) optN ?_ | refine ARun.arith rfl rfl rfl rfl (Ev.plain rfl) (Ev.plain rfl) rfl (fun _ => rfl) optN ?_
          refine ARun.cutStr (a := 0) (b := (l.size - c.keep.toNat)) rfl rfl rfl rfl Tryd.underlying9 (Ev.plain rfl) (fun _ => rfl) ⟨_, _, (Ev.plain rfl), fun hg => (by (try simp at hg); omega)⟩ (fun hg => (by (try simp at hg); omega)) rfl optN ?_
          refine ARun.move (.inr rfl) rfl rfl rfl (Ev.plain rfl) optN ?_
          refine ⟨_, _, rfl, hG, ?_⟩
          refine thenA_n ?_
          refine AWP.seq ?_
          refine AWP.region (fun _ => ?_)
          refine ARun.move (.inl rfl) rfl rfl rfl (Ev.plain rfl) optN ?_
          refine ARun.move (.inl rfl) rfl rfl rfl (Ev.plain rfl) optN ?_
          refine ARun.move (.inl rfl) rfl rfl rfl (Ev.plain rfl) optN ?_
          refine ARun.cutStr (a := 0) (b := c.keep.toNat) rfl rfl rfl rfl Tryd.underlying9 (Ev.plain rfl) (fun _ => rfl) ⟨_, _, (Ev.plain rfl), fun hg => (by (try simp at hg); omega)⟩ (fun hg => (by (try simp at hg); omega)) rfl optN ?_
          refine ARun.cat rfl rfl rfl rfl (Ev.plain rfl) (Ev.plain rfl) (fun hg => (by simp only [ByteArray.size_append, ByteArray.size_extract]; omega)) optN ?_
          refine ARun.move (.inl rfl) rfl rfl rfl (Ev.plain rfl) optN ?_
          refine ARun.cat rfl rfl rfl rfl (Ev.plain rfl) (Ev.plain rfl) (fun hg => (by simp only [ByteArray.size_append, ByteArray.size_extract]; omega)) optN ?_
          refine ARun.move (.inr rfl) rfl rfl rfl (Ev.plain rfl) optN ?_
          refine ⟨_, _, rfl, hG, ?_⟩
          refine thenA_n ?_
          refine AWP.ret ?_
          refine endF.one (.inr rfl) rfl (.tmp rfl) ?_ hN
          rw [leftR_k h0 c.keep.toNat (by omega) (c.trash.extract 0 (l.size - c.keep.toNat)) (by rw [ba_min _ _ (l.size - c.keep.toNat) (by omega)])]
        · skip
          try simp at h6
          refine AWP.skip ?_
          refine thenA_n ?_
          refine AWP.seq ?_
          refine AWP.region (fun _ => ?_)
          refine ARun.move (.inl rfl) rfl rfl rfl (Ev.plain rfl) optN ?_
          refine ARun.move (.inl rfl) rfl rfl rfl (Ev.plain rfl) optN ?_
          refine ARun.move (.inl rfl) rfl rfl rfl (Ev.plain rfl) optN ?_
          refine ARun.cutStr (a := 0) (b := c.keep.toNat) rfl rfl rfl rfl Tryd.underlying9 (Ev.plain rfl) (fun _ => rfl) ⟨_, _, (Ev.plain rfl), fun hg => (by (try simp at hg); omega)⟩ (fun hg => (by (try simp at hg); omega)) rfl optN ?_
          refine ARun.cat rfl rfl rfl rfl (Ev.plain rfl) (Ev.plain rfl) (fun hg => (by simp only [ByteArray.size_append, ByteArray.size_extract]; omega)) optN ?_
          refine ARun.move (.inl rfl) rfl rfl rfl (Ev.plain rfl) optN ?_
          refine ARun.cat rfl rfl rfl rfl (Ev.plain rfl) (Ev.plain rfl) (fun hg => (by simp only [ByteArray.size_append, ByteArray.size_extract]; omega)) optN ?_
          refine ARun.move (.inr rfl) rfl rfl rfl (Ev.plain rfl) optN ?_
          refine ⟨_, _, rfl, hG, ?_⟩
          refine thenA_n ?_
          refine AWP.ret ?_
          refine endF.one (.inr rfl) rfl (.tmp rfl) ?_ hN
          rw [leftR_k h0 c.keep.toNat (by omega) c.trash (by rw [ba_all _ _ (by omega)])]
set_option maxHeartbeats 1000000 in
theorem bootR_fn (r : RD) (a b : Ch) (hr : ROk r) (ha : a.trash.size ≤ 1000000) (hb : b.trash.size ≤ 1000000) : FnP Tryd.prog 40 [aRD r, aCh a, aCh b] (aRD (bootR r a b)) := by
  refine FnP.of Tryd.func40 rfl rfl (by simp) (by simp [AV.cells, aDk, aRD, rdc, aCh]) (fun G hG => ?_)
  have hN : NoH G.length (aRD (bootR r a b)) := (by simp [AV.cells, aDk, aRD, rdc, aCh])
  refine AWP.seq ?_
  refine AWP.region (fun _ => ?_)
  refine ARun.box (j := 0) hG rfl rfl rfl rfl rfl (Ev.plain rfl) rfl rfl optN ?_
  refine ARun.boxPe rfl rfl rfl rfl (Ev.plain rfl) rfl rfl optN ?_
  refine ARun.boxPe rfl rfl rfl rfl (Ev.plain rfl) rfl rfl optN ?_
  refine ARun.alloc (j := 1) hG rfl rfl rfl rfl rfl zv42 rfl optN ?_
  refine ⟨_, _, rfl, hG, ?_⟩
  refine thenA_n ?_
  refine AWP.seq ?_
  refine AWP.draw mixed (by kernel_rfl) (fun _ => ?_)
  refine ARun.fieldBox (fo := 0) rfl rfl rfl rfl Tryd.underlying42 rfl rfl sz39 (by decide) (Ev.plain rfl) ((hG.at _ _).trans rfl) optN ?_
  refine ARun.indexBox (fo := 0) rfl rfl rfl rfl Tryd.underlying39 sz9 (Ev.plain rfl) ((hG.at _ _).trans rfl) (Ev.plain rfl) (j := 0) (fun hg => by first | rfl | omega) (fun hg => by first | decide | omega) rfl optN ?_
  refine ARun.loadBox rfl rfl rfl rfl Tryd.underlying9 rfl (Ev.plain rfl) ((hG.at _ _).trans rfl) rfl optN ?_
  refine ARun.fieldBox (fo := 2) rfl rfl rfl rfl Tryd.underlying42 rfl rfl sz39 (by decide) (Ev.plain rfl) ((hG.at _ _).trans rfl) optN ?_
  refine ARun.indexBox (fo := 2) rfl rfl rfl rfl Tryd.underlying39 sz9 (Ev.plain rfl) ((hG.at _ _).trans rfl) (Ev.plain rfl) (j := 0) (fun hg => by first | rfl | omega) (fun hg => by first | decide | omega) rfl optN ?_
  refine ARun.loadBox rfl rfl rfl rfl Tryd.underlying9 rfl (Ev.plain rfl) ((hG.at _ _).trans rfl) rfl optN ?_
  refine ARun.fieldBox (fo := 4) rfl rfl rfl rfl Tryd.underlying42 rfl rfl sz40 (by decide) (Ev.plain rfl) ((hG.at _ _).trans rfl) optN ?_
  refine ARun.indexBox (fo := 4) rfl rfl rfl rfl Tryd.underlying40 sz4 (Ev.plain rfl) ((hG.at _ _).trans rfl) (Ev.plain rfl) (j := 0) (fun hg => by first | rfl | omega) (fun hg => by first | decide | omega) rfl optN ?_
  refine ARun.loadBox rfl rfl rfl rfl Tryd.underlying4 rfl (Ev.plain rfl) ((hG.at _ _).trans rfl) rfl optN ?_
  refine ARun.loadPeA rfl rfl rfl rfl Tryd.underlying75 rfl sz75 (Ev.plain rfl) rfl optN ?_
  refine ARun.call rfl rfl rfl rfl cf52 (Ev.plain rfl) (.cons (Ev.plain rfl) (.cons (Ev.plain rfl) (.cons (Ev.plain rfl) (.cons (Ev.plain rfl) .nil)))) rfl (fun hg => leftR_fn r.s0 r.l0 r.h0 a hr.s0 hr.l0 ha) optN ?_
  refine ARun.fieldBox (fo := 0) rfl rfl rfl rfl Tryd.underlying42 rfl rfl sz39 (by decide) (Ev.plain rfl) ((hG.at _ _).trans rfl) optN ?_
  refine ARun.indexBox (fo := 1) rfl rfl rfl rfl Tryd.underlying39 sz9 (Ev.plain rfl) ((hG.at _ _).trans rfl) (Ev.plain rfl) (j := 1) (fun hg => by first | rfl | omega) (fun hg => by first | decide | omega) rfl optN ?_
  refine ARun.loadBox rfl rfl rfl rfl Tryd.underlying9 rfl (Ev.plain rfl) ((hG.at _ _).trans rfl) rfl optN ?_
  refine ARun.fieldBox (fo := 2) rfl rfl rfl rfl Tryd.underlying42 rfl rfl sz39 (by decide) (Ev.plain rfl) ((hG.at _ _).trans rfl) optN ?_
  refine ARun.indexBox (fo := 3) rfl rfl rfl rfl Tryd.underlying39 sz9 (Ev.plain rfl) ((hG.at _ _).trans rfl) (Ev.plain rfl) (j := 1) (fun hg => by first | rfl | omega) (fun hg => by first | decide | omega) rfl optN ?_
  refine ARun.loadBox rfl rfl rfl rfl Tryd.underlying9 rfl (Ev.plain rfl) ((hG.at _ _).trans rfl) rfl optN ?_
  refine ARun.fieldBox (fo := 4) rfl rfl rfl rfl Tryd.underlying42 rfl rfl sz40 (by decide) (Ev.plain rfl) ((hG.at _ _).trans rfl) optN ?_
  refine ARun.indexBox (fo := 5) rfl rfl rfl rfl Tryd.underlying40 sz4 (Ev.plain rfl) ((hG.at _ _).trans rfl) (Ev.plain rfl) (j := 1) (fun hg => by first | rfl | omega) (fun hg => by first | decide | omega) rfl optN ?_
  refine ARun.loadBox rfl rfl rfl rfl Tryd.underlying4 rfl (Ev.plain rfl) ((hG.at _ _).trans rfl) rfl optN ?_
  refine ARun.loadPeA rfl rfl rfl rfl Tryd.underlying75 rfl sz75 (Ev.plain rfl) rfl optN ?_
  refine ARun.call rfl rfl rfl rfl cf52 (Ev.plain rfl) (.cons (Ev.plain rfl) (.cons (Ev.plain rfl) (.cons (Ev.plain rfl) (.cons (Ev.plain rfl) .nil)))) rfl (fun hg => leftR_fn r.s1 r.l1 r.h1 b hr.s1 hr.l1 hb) optN ?_
  refine ARun.buildArr rfl rfl rfl rfl Tryd.underlying39 sz9 zv39 (.cons (Ev.plain rfl) (.cons (Ev.plain rfl) .nil)) rfl rfl optN ?_
  refine ARun.fieldBox (fo := 0) rfl rfl rfl rfl Tryd.underlying42 rfl rfl sz39 (by decide) (Ev.plain rfl) ((hG.at _ _).trans rfl) optN ?_
  refine ARun.storeL hG rfl rfl rfl sz39 (Ev.plain rfl) (Ev.plain rfl) rfl rfl rfl rfl rfl (Nat.le_of_ble_eq_true rfl) rfl rfl ?_
  refine ⟨by kernel_rfl, _, _, rfl, hG, ?_⟩
  refine thenA_n ?_
  refine AWP.seq ?_
  refine AWP.region (fun _ => ?_)
  refine ARun.buildArr rfl rfl rfl rfl Tryd.underlying39 sz9 zv39 .nil rfl rfl optN ?_
  refine ARun.fieldBox (fo := 2) rfl rfl rfl rfl Tryd.underlying42 rfl rfl sz39 (by decide) (Ev.plain rfl) ((hG.at _ _).trans rfl) optN ?_
  refine ARun.storeL hG rfl rfl rfl sz39 (Ev.plain rfl) (Ev.plain rfl) rfl rfl rfl rfl rfl (Nat.le_of_ble_eq_true rfl) rfl rfl ?_
  refine ⟨_, _, rfl, hG, ?_⟩
  refine thenA_n ?_
  refine AWP.seq ?_
  refine AWP.region (fun _ => ?_)
  refine ARun.buildArr rfl rfl rfl rfl Tryd.underlying40 sz4 zv40 .nil rfl rfl optN ?_
  refine ARun.fieldBox (fo := 4) rfl rfl rfl rfl Tryd.underlying42 rfl rfl sz40 (by decide) (Ev.plain rfl) ((hG.at _ _).trans rfl) optN ?_
  refine ARun.storeL hG rfl rfl rfl sz40 (Ev.plain rfl) (Ev.plain rfl) rfl rfl rfl rfl rfl (Nat.le_of_ble_eq_true rfl) rfl rfl ?_
  refine ⟨_, _, rfl, hG, ?_⟩
  refine thenA_n ?_
  refine AWP.seq ?_
  refine AWP.region (fun _ => ?_)
  refine ARun.fieldBox (fo := 8) rfl rfl rfl rfl Tryd.underlying42 rfl rfl sz3 (by decide) (Ev.plain rfl) ((hG.at _ _).trans rfl) optN ?_
  refine ARun.storeL1 hG rfl rfl rfl sz3 (Ev.plain rfl) (Ev.plain rfl) rfl (by first | rfl | exact aEr_one _ | exact aFl_one _) (Nat.le_of_ble_eq_true rfl) rfl rfl ?_
  refine ⟨_, _, rfl, hG, ?_⟩
  refine thenA_n ?_
  refine AWP.seq ?_
  refine AWP.region (fun _ => ?_)
  refine ARun.fieldBox (fo := 9) rfl rfl rfl rfl Tryd.underlying42 rfl rfl sz4 (by decide) (Ev.plain rfl) ((hG.at _ _).trans rfl) optN ?_
  refine ARun.storeL1 hG rfl rfl rfl sz4 (Ev.plain rfl) (Ev.plain rfl) rfl (by first | rfl | exact aEr_one _ | exact aFl_one _) (Nat.le_of_ble_eq_true rfl) rfl rfl ?_
  refine ⟨_, _, rfl, hG, ?_⟩
  refine thenA_n ?_
  refine AWP.seq ?_
  refine AWP.region (fun _ => ?_)
  refine ARun.loadBoxA rfl rfl rfl rfl Tryd.underlying42 rfl sz42 (Ev.plain rfl) ((hG.at _ _).trans rfl) rfl rfl optN ?_
  refine ARun.storeL hG rfl rfl rfl sz42 (Ev.plain rfl) (Ev.plain rfl) rfl rfl rfl rfl rfl (Nat.le_of_ble_eq_true rfl) rfl rfl ?_
  refine ⟨_, _, rfl, hG, ?_⟩
  refine thenA_n ?_
  refine AWP.ret ?_
  refine endF.one (.inr rfl) rfl (.cellA rfl ((hG.at _ _).trans rfl) Tryd.underlying42 rfl sz42 rfl rfl) ?_ hN
  rfl
set_option maxHeartbeats 1000000 in
theorem newR_fn (k : Int) : FnP Tryd.prog 15 [.int .i64 k] (.tup [aRD (if k < 1 ∨ 1000000 < k then ⟨⟨#[]⟩, ⟨#[]⟩, ⟨#[]⟩, ⟨#[]⟩, false, false, 0, 0, 0, false⟩ else ⟨⟨#[]⟩, ⟨#[]⟩, ⟨#[]⟩, ⟨#[]⟩, false, false, k, 0, 0, false⟩), .int .i64 (if k < 1 ∨ 1000000 < k then 2 else 0)]) := by
  refine FnP.of Tryd.func15 rfl rfl (by simp) (by simp [AV.cells, aDk, aRD, rdc, aCh]) (fun G hG => ?_)
  have hN : NoH G.length (.tup [aRD (if k < 1 ∨ 1000000 < k then ⟨⟨#[]⟩, ⟨#[]⟩, ⟨#[]⟩, ⟨#[]⟩, false, false, 0, 0, 0, false⟩ else ⟨⟨#[]⟩, ⟨#[]⟩, ⟨#[]⟩, ⟨#[]⟩, false, false, k, 0, 0, false⟩), .int .i64 (if k < 1 ∨ 1000000 < k then 2 else 0)]) := (by simp [AV.cells, aDk, aRD, rdc, aCh])
  refine AWP.seq ?_
  refine AWP.region (fun _ => ?_)
  refine ARun.alloc (j := 0) hG rfl rfl rfl rfl rfl zv42 rfl optN ?_
  refine ARun.move (.inr rfl) rfl rfl rfl (Ev.plain rfl) optN ?_
  refine ⟨_, _, rfl, hG, ?_⟩
  refine thenA_n ?_
  refine AWP.seq ?_
  refine AWP.seq ?_
  refine AWP.region (fun _ => ?_)
  refine ARun.move (.inl rfl) rfl rfl rfl (Ev.plain rfl) optN ?_
  refine ARun.cmp rfl rfl rfl rfl (Ev.plain rfl) (Ev.plain rfl) rfl optN ?_
  refine ARun.move (.inl rfl) rfl rfl rfl (Ev.plain rfl) optN ?_
  refine ARun.move (.inl rfl) rfl rfl rfl (Ev.plain rfl) optS ?_
  refine ARun.cmp rfl rfl rfl rfl (Ev.opt rfl (fun h => h)) (Ev.plain rfl) rfl optS ?_
  refine ARun.pick rfl rfl rfl rfl (Ev.plain rfl) (Ev.plain rfl) (Ev.opt rfl (by first | exact pkF | exact pkF2 | simp +contextual)) (orB _ _) optN ?_
  refine ⟨_, _, rfl, hG, ?_⟩
  refine thenA_n ?_
  refine AWP.cond rfl (fun h0 => ?_) (fun h0 => ?_)
  · skip
    try simp at h0
    refine AWP.seq ?_
    refine AWP.region (fun _ => ?_)
    refine ARun.build rfl rfl rfl rfl so42 .nil rfl rfl optN ?_
    refine ARun.storeL hG rfl rfl rfl sz42 (Ev.plain rfl) (Ev.plain rfl) rfl rfl rfl rfl rfl (Nat.le_of_ble_eq_true rfl) rfl rfl ?_
    refine ARun.move (.inr rfl) rfl rfl rfl (Ev.plain rfl) optN ?_
    refine ⟨_, _, rfl, hG, ?_⟩
    refine thenA_n ?_
    refine AWP.ret ?_
    refine thenA_r ?_
    refine endF.many (.inr rfl) (rs := [.cell 2 42, .tmp 3]) rfl (.cons (.cellA rfl ((hG.at _ _).trans rfl) Tryd.underlying42 rfl sz42 rfl rfl) (.cons (.tmp rfl) .nil)) (by simp) ?_ hN
    rw [if_pos (by omega), if_pos (by omega)]; rfl
  · skip
    try simp at h0
    refine AWP.skip ?_
    refine thenA_n ?_
    refine AWP.seq ?_
    refine AWP.region (fun _ => ?_)
    refine ARun.move (.inl rfl) rfl rfl rfl (Ev.plain rfl) optN ?_
    refine ARun.build rfl rfl rfl rfl so42 (.cons (Ev.plain rfl) .nil) rfl rfl optN ?_
    refine ARun.storeL hG rfl rfl rfl sz42 (Ev.plain rfl) (Ev.plain rfl) rfl rfl rfl rfl rfl (Nat.le_of_ble_eq_true rfl) rfl rfl ?_
    refine ARun.move (.inr rfl) rfl rfl rfl (Ev.plain rfl) optN ?_
    refine ⟨_, _, rfl, hG, ?_⟩
    refine thenA_n ?_
    refine AWP.ret ?_
    refine endF.many (.inr rfl) (rs := [.cell 2 42, .tmp 3]) rfl (.cons (.cellA rfl ((hG.at _ _).trans rfl) Tryd.underlying42 rfl sz42 rfl rfl) (.cons (.tmp rfl) .nil)) (by simp) ?_ hN
    rw [if_neg (by omega), if_neg (by omega)]; rfl
set_option maxHeartbeats 1000000 in
theorem of_fn (c : Ch) : FnP Tryd.prog 41 [aCh c] (aCh c) := by
  refine FnP.of Tryd.func41 rfl rfl (by simp) (by simp [AV.cells, aDk, aRD, rdc, aCh]) (fun G hG => ?_)
  have hN : NoH G.length (aCh c) := (by simp [AV.cells, aDk, aRD, rdc, aCh])
  refine AWP.seq ?_
  refine AWP.region (fun _ => ?_)
  refine ARun.boxPe rfl rfl rfl rfl (Ev.plain rfl) rfl rfl optN ?_
  refine ARun.alloc (j := 0) hG rfl rfl rfl rfl rfl zv75 rfl optN ?_
  refine ⟨_, _, rfl, hG, ?_⟩
  refine thenA_n ?_
  refine AWP.seq ?_
  refine AWP.region (fun _ => ?_)
  refine ARun.fieldPe rfl rfl rfl rfl Tryd.underlying23 rfl rfl sz3 (by decide) (Ev.plain rfl) rfl optN ?_
  refine ARun.loadPe rfl rfl rfl rfl Tryd.underlying3 rfl (Ev.plain rfl) rfl optN ?_
  refine ARun.fieldPe rfl rfl rfl rfl Tryd.underlying23 rfl rfl sz9 (by decide) (Ev.plain rfl) rfl optN ?_
  refine ARun.loadPe rfl rfl rfl rfl Tryd.underlying9 rfl (Ev.plain rfl) rfl optN ?_
  refine ARun.fieldPe rfl rfl rfl rfl Tryd.underlying23 rfl rfl sz4 (by decide) (Ev.plain rfl) rfl optN ?_
  refine ARun.loadPe rfl rfl rfl rfl Tryd.underlying4 rfl (Ev.plain rfl) rfl optN ?_
  refine ARun.build rfl rfl rfl rfl so75 (.cons (Ev.plain rfl) (.cons (Ev.plain rfl) (.cons (Ev.plain rfl) .nil))) rfl rfl optN ?_
  refine ARun.storeL hG rfl rfl rfl sz75 (Ev.plain rfl) (Ev.plain rfl) rfl rfl rfl rfl rfl (Nat.le_of_ble_eq_true rfl) rfl rfl ?_
  refine ⟨_, _, rfl, hG, ?_⟩
  refine thenA_n ?_
  refine AWP.ret ?_
  refine endF.one (.inr rfl) rfl (.cellA rfl ((hG.at _ _).trans rfl) Tryd.underlying75 rfl sz75 rfl rfl) ?_ hN
  rfl
set_option maxHeartbeats 1000000 in
theorem refDo_fn (r : RD) (x : ActP) (hr : ROk r) (hx : x.text.size ≤ 1000000) (ha : x.a.trash.size ≤ 1000000) (hb : x.b.trash.size ≤ 1000000) : FnP Tryd.prog 18 [aRD r, .agg [.int .i64 x.kind, .int .i64 x.n, .str x.text, .int .i64 x.a.keep, .str x.a.trash, .bool x.a.reset, .int .i64 x.b.keep, .str x.b.trash, .bool x.b.reset]] (.tup [aRD (refDoP r x).1, .str (refDoP r x).2.1, .int .i64 (refDoP r x).2.2]) := by
  refine FnP.of Tryd.func18 rfl rfl (by simp) (by simp [AV.cells, aDk, aRD, rdc, aCh]) (fun G hG => ?_)
  have hN : NoH G.length (.tup [aRD (refDoP r x).1, .str (refDoP r x).2.1, .int .i64 (refDoP r x).2.2]) := (by simp [AV.cells, aDk, aRD, rdc, aCh])
  refine AWP.seq ?_
  refine AWP.region (fun _ => ?_)
  refine ARun.box (j := 0) hG rfl rfl rfl rfl rfl (Ev.plain rfl) rfl rfl optN ?_
  refine ARun.boxPe rfl rfl rfl rfl (Ev.plain rfl) rfl rfl optN ?_
  refine ARun.alloc (j := 1) hG rfl rfl rfl rfl rfl zv42 rfl optN ?_
  refine ARun.move (.inr rfl) rfl rfl rfl (Ev.plain rfl) optN ?_
  refine ARun.move (.inr rfl) rfl rfl rfl (Ev.plain rfl) optN ?_
  refine ⟨_, _, rfl, hG, ?_⟩
  refine thenA_n ?_
  refine AWP.seq ?_
  refine AWP.region (fun _ => ?_)
  refine ARun.move (.inr rfl) rfl rfl rfl (Ev.plain rfl) optN ?_
  refine ARun.move (.inr rfl) rfl rfl rfl (Ev.plain rfl) optN ?_
  refine ⟨_, _, rfl, hG, ?_⟩
  refine thenA_n ?_
  refine AWP.seq ?_
  refine AWP.seq ?_
  refine AWP.region (fun _ => ?_)
  refine ARun.fieldPe rfl rfl rfl rfl Tryd.underlying50 rfl rfl sz3 (by decide) (Ev.plain rfl) rfl optN ?_
  refine ARun.loadPe rfl rfl rfl rfl Tryd.underlying3 rfl (Ev.plain rfl) rfl optN ?_
  refine ⟨_, _, rfl, hG, ?_⟩
  refine thenA_n ?_
  refine AWP.block ?_
  refine AWP.seq ?_
  refine AWP.region (fun _ => ?_)
  refine ARun.cmp rfl rfl rfl rfl (Ev.plain rfl) (Ev.plain rfl) rfl optN ?_
  refine ARun.move (.inr rfl) rfl rfl rfl (Ev.plain rfl) optN ?_
  refine ⟨_, _, rfl, hG, ?_⟩
  refine thenA_n ?_
  refine AWP.cond rfl (fun h0 => ?_) (fun h0 => ?_)
  · skip
    try simp at h0
    refine AWP.region (fun _ => ?_)
    refine ARun.loadBoxA rfl rfl rfl rfl Tryd.underlying42 rfl sz42 (Ev.plain rfl) ((hG.at _ _).trans rfl) rfl rfl optN ?_
    refine ARun.fieldPe rfl rfl rfl rfl Tryd.underlying50 rfl rfl sz3 (by decide) (Ev.plain rfl) rfl optN ?_
    refine ARun.loadPe rfl rfl rfl rfl Tryd.underlying3 rfl (Ev.plain rfl) rfl optN ?_
    refine ARun.fieldPe rfl rfl rfl rfl Tryd.underlying50 rfl rfl sz9 (by decide) (Ev.plain rfl) rfl optN ?_
    refine ARun.loadPe rfl rfl rfl rfl Tryd.underlying9 rfl (Ev.plain rfl) rfl optN ?_
    refine ARun.call rfl rfl rfl rfl cf34 (Ev.plain rfl) (.cons (Ev.plain rfl) (.cons (Ev.plain rfl) (.cons (Ev.plain rfl) .nil))) rfl (fun hg => appendR_fn r x.n x.text hr hx) optN ?_
    refine ARun.move (.inl rfl) rfl rfl rfl (Ev.plain rfl) optN ?_
    refine ARun.extract rfl rfl rfl rfl (Ev.plain rfl) rfl optN ?_
    refine ARun.extract rfl rfl rfl rfl (Ev.plain rfl) rfl optN ?_
    refine ARun.storeL hG rfl rfl rfl sz42 (Ev.plain rfl) (Ev.plain rfl) rfl rfl rfl rfl rfl (Nat.le_of_ble_eq_true rfl) rfl rfl ?_
    refine ARun.move (.inr rfl) rfl rfl rfl (Ev.plain rfl) optN ?_
    refine ⟨_, _, rfl, hG, ?_⟩
    refine blockA_n ?_
    refine thenA_n ?_
    refine AWP.seq ?_
    refine AWP.region (fun _ => ?_)
    refine ARun.loadBoxA rfl rfl rfl rfl Tryd.underlying42 rfl sz42 (Ev.plain rfl) ((hG.at _ _).trans rfl) rfl rfl optN ?_
    refine ARun.move (.inl rfl) rfl rfl rfl (Ev.plain rfl) optN ?_
    refine ARun.move (.inl rfl) rfl rfl rfl (Ev.plain rfl) optN ?_
    refine ARun.storeL hG rfl rfl rfl sz42 (Ev.plain rfl) (Ev.plain rfl) rfl rfl rfl rfl rfl (Nat.le_of_ble_eq_true rfl) rfl rfl ?_
    refine ARun.move (.inr rfl) rfl rfl rfl (Ev.plain rfl) optN ?_
    refine ARun.move (.inr rfl) rfl rfl rfl (Ev.plain rfl) optN ?_
    refine ⟨_, _, rfl, hG, ?_⟩
    refine thenA_n ?_
    refine AWP.ret ?_
    refine endF.many (.inr rfl) (rs := [.cell 4 42, .tmp 5, .tmp 6]) rfl (.cons (.cellA rfl ((hG.at _ _).trans rfl) Tryd.underlying42 rfl sz42 rfl rfl) (.cons (.tmp rfl) (.cons (.tmp rfl) .nil))) (by simp) ?_ hN
    rw [refDoP, if_pos h0]; rfl
  · skip
    try simp at h0
    refine AWP.seq ?_
    refine AWP.region (fun _ => ?_)
    refine ARun.cmp rfl rfl rfl rfl (Ev.plain rfl) (Ev.plain rfl) rfl optN ?_
    refine ARun.move (.inr rfl) rfl rfl rfl (Ev.plain rfl) optN ?_
    refine ⟨_, _, rfl, hG, ?_⟩
    refine thenA_n ?_
    refine AWP.cond rfl (fun h1 => ?_) (fun h1 => ?_)
    · skip
      try simp at h1
      refine AWP.region (fun _ => ?_)
      refine ARun.loadBoxA rfl rfl rfl rfl Tryd.underlying42 rfl sz42 (Ev.plain rfl) ((hG.at _ _).trans rfl) rfl rfl optN ?_
      refine ARun.fieldPe rfl rfl rfl rfl Tryd.underlying50 rfl rfl sz3 (by decide) (Ev.plain rfl) rfl optN ?_
      refine ARun.loadPe rfl rfl rfl rfl Tryd.underlying3 rfl (Ev.plain rfl) rfl optN ?_
      refine ARun.call rfl rfl rfl rfl cf35 (Ev.plain rfl) (.cons (Ev.plain rfl) (.cons (Ev.plain rfl) .nil)) rfl (fun hg => syncR_fn r x.n hr) optN ?_
      refine ARun.move (.inl rfl) rfl rfl rfl (Ev.plain rfl) optN ?_
      refine ARun.extract rfl rfl rfl rfl (Ev.plain rfl) rfl optN ?_
      refine ARun.extract rfl rfl rfl rfl (Ev.plain rfl) rfl optN ?_
      refine ARun.storeL hG rfl rfl rfl sz42 (Ev.plain rfl) (Ev.plain rfl) rfl rfl rfl rfl rfl (Nat.le_of_ble_eq_true rfl) rfl rfl ?_
      refine ARun.move (.inr rfl) rfl rfl rfl (Ev.plain rfl) optN ?_
      refine ⟨_, _, rfl, hG, ?_⟩
      refine blockA_n ?_
      refine thenA_n ?_
      refine AWP.seq ?_
      refine AWP.region (fun _ => ?_)
      refine ARun.loadBoxA rfl rfl rfl rfl Tryd.underlying42 rfl sz42 (Ev.plain rfl) ((hG.at _ _).trans rfl) rfl rfl optN ?_
      refine ARun.move (.inl rfl) rfl rfl rfl (Ev.plain rfl) optN ?_
      refine ARun.move (.inl rfl) rfl rfl rfl (Ev.plain rfl) optN ?_
      refine ARun.storeL hG rfl rfl rfl sz42 (Ev.plain rfl) (Ev.plain rfl) rfl rfl rfl rfl rfl (Nat.le_of_ble_eq_true rfl) rfl rfl ?_
      refine ARun.move (.inr rfl) rfl rfl rfl (Ev.plain rfl) optN ?_
      refine ARun.move (.inr rfl) rfl rfl rfl (Ev.plain rfl) optN ?_
      refine ⟨_, _, rfl, hG, ?_⟩
      refine thenA_n ?_
      refine AWP.ret ?_
      refine endF.many (.inr rfl) (rs := [.cell 4 42, .tmp 5, .tmp 6]) rfl (.cons (.cellA rfl ((hG.at _ _).trans rfl) Tryd.underlying42 rfl sz42 rfl rfl) (.cons (.tmp rfl) (.cons (.tmp rfl) .nil))) (by simp) ?_ hN
      rw [refDoP, if_neg h0, if_pos h1]; rfl
    · skip
      try simp at h1
      refine AWP.seq ?_
      refine AWP.region (fun _ => ?_)
      refine ARun.cmp rfl rfl rfl rfl (Ev.plain rfl) (Ev.plain rfl) rfl optN ?_
      refine ARun.move (.inr rfl) rfl rfl rfl (Ev.plain rfl) optN ?_
      refine ⟨_, _, rfl, hG, ?_⟩
      refine thenA_n ?_
      refine AWP.cond rfl (fun h2 => ?_) (fun h2 => ?_)
      · skip
        try simp at h2
        refine AWP.region (fun _ => ?_)
        refine ARun.loadBoxA rfl rfl rfl rfl Tryd.underlying42 rfl sz42 (Ev.plain rfl) ((hG.at _ _).trans rfl) rfl rfl optN ?_
        refine ARun.fieldPe rfl rfl rfl rfl Tryd.underlying50 rfl rfl sz3 (by decide) (Ev.plain rfl) rfl optN ?_
        refine ARun.loadPe rfl rfl rfl rfl Tryd.underlying3 rfl (Ev.plain rfl) rfl optN ?_
        refine ARun.call rfl rfl rfl rfl cf36 (Ev.plain rfl) (.cons (Ev.plain rfl) (.cons (Ev.plain rfl) .nil)) rfl (fun hg => resetR_fn r x.n hr) optN ?_
        refine ARun.move (.inl rfl) rfl rfl rfl (Ev.plain rfl) optN ?_
        refine ARun.extract rfl rfl rfl rfl (Ev.plain rfl) rfl optN ?_
        refine ARun.extract rfl rfl rfl rfl (Ev.plain rfl) rfl optN ?_
        refine ARun.storeL hG rfl rfl rfl sz42 (Ev.plain rfl) (Ev.plain rfl) rfl rfl rfl rfl rfl (Nat.le_of_ble_eq_true rfl) rfl rfl ?_
        refine ARun.move (.inr rfl) rfl rfl rfl (Ev.plain rfl) optN ?_
        refine ⟨_, _, rfl, hG, ?_⟩
        refine blockA_n ?_
        refine thenA_n ?_
        refine AWP.seq ?_
        refine AWP.region (fun _ => ?_)
        refine ARun.loadBoxA rfl rfl rfl rfl Tryd.underlying42 rfl sz42 (Ev.plain rfl) ((hG.at _ _).trans rfl) rfl rfl optN ?_
        refine ARun.move (.inl rfl) rfl rfl rfl (Ev.plain rfl) optN ?_
        refine ARun.move (.inl rfl) rfl rfl rfl (Ev.plain rfl) optN ?_
        refine ARun.storeL hG rfl rfl rfl sz42 (Ev.plain rfl) (Ev.plain rfl) rfl rfl rfl rfl rfl (Nat.le_of_ble_eq_true rfl) rfl rfl ?_
        refine ARun.move (.inr rfl) rfl rfl rfl (Ev.plain rfl) optN ?_
        refine ARun.move (.inr rfl) rfl rfl rfl (Ev.plain rfl) optN ?_
        refine ⟨_, _, rfl, hG, ?_⟩
        refine thenA_n ?_
        refine AWP.ret ?_
        refine endF.many (.inr rfl) (rs := [.cell 4 42, .tmp 5, .tmp 6]) rfl (.cons (.cellA rfl ((hG.at _ _).trans rfl) Tryd.underlying42 rfl sz42 rfl rfl) (.cons (.tmp rfl) (.cons (.tmp rfl) .nil))) (by simp) ?_ hN
        rw [refDoP, if_neg h0, if_neg h1, if_pos h2]; rfl
      · skip
        try simp at h2
        refine AWP.seq ?_
        refine AWP.region (fun _ => ?_)
        refine ARun.cmp rfl rfl rfl rfl (Ev.plain rfl) (Ev.plain rfl) rfl optN ?_
        refine ARun.move (.inr rfl) rfl rfl rfl (Ev.plain rfl) optN ?_
        refine ⟨_, _, rfl, hG, ?_⟩
        refine thenA_n ?_
        refine AWP.cond rfl (fun h3 => ?_) (fun h3 => ?_)
        · skip
          try simp at h3
          refine AWP.region (fun _ => ?_)
          refine ARun.loadBoxA rfl rfl rfl rfl Tryd.underlying42 rfl sz42 (Ev.plain rfl) ((hG.at _ _).trans rfl) rfl rfl optN ?_
          refine ARun.fieldPe rfl rfl rfl rfl Tryd.underlying50 rfl rfl sz3 (by decide) (Ev.plain rfl) rfl optN ?_
          refine ARun.loadPe rfl rfl rfl rfl Tryd.underlying3 rfl (Ev.plain rfl) rfl optN ?_
          refine ARun.call rfl rfl rfl rfl cf37 (Ev.plain rfl) (.cons (Ev.plain rfl) (.cons (Ev.plain rfl) .nil)) rfl (fun hg => readR_fn r x.n hr) optN ?_
          refine ARun.move (.inl rfl) rfl rfl rfl (Ev.plain rfl) optN ?_
          refine ARun.extract rfl rfl rfl rfl (Ev.plain rfl) rfl optN ?_
          refine ARun.extract rfl rfl rfl rfl (Ev.plain rfl) rfl optN ?_
          refine ARun.move (.inr rfl) rfl rfl rfl (Ev.plain rfl) optN ?_
          refine ARun.move (.inr rfl) rfl rfl rfl (Ev.plain rfl) optN ?_
          refine ⟨_, _, rfl, hG, ?_⟩
          refine blockA_n ?_
          refine thenA_n ?_
          refine AWP.seq ?_
          refine AWP.region (fun _ => ?_)
          refine ARun.loadBoxA rfl rfl rfl rfl Tryd.underlying42 rfl sz42 (Ev.plain rfl) ((hG.at _ _).trans rfl) rfl rfl optN ?_
          refine ARun.move (.inl rfl) rfl rfl rfl (Ev.plain rfl) optN ?_
          refine ARun.move (.inl rfl) rfl rfl rfl (Ev.plain rfl) optN ?_
          refine ARun.storeL hG rfl rfl rfl sz42 (Ev.plain rfl) (Ev.plain rfl) rfl rfl rfl rfl rfl (Nat.le_of_ble_eq_true rfl) rfl rfl ?_
          refine ARun.move (.inr rfl) rfl rfl rfl (Ev.plain rfl) optN ?_
          refine ARun.move (.inr rfl) rfl rfl rfl (Ev.plain rfl) optN ?_
          refine ⟨_, _, rfl, hG, ?_⟩
          refine thenA_n ?_
          refine AWP.ret ?_
          refine endF.many (.inr rfl) (rs := [.cell 4 42, .tmp 5, .tmp 6]) rfl (.cons (.cellA rfl ((hG.at _ _).trans rfl) Tryd.underlying42 rfl sz42 rfl rfl) (.cons (.tmp rfl) (.cons (.tmp rfl) .nil))) (by simp) ?_ hN
          rw [refDoP, if_neg h0, if_neg h1, if_neg h2, if_pos h3]; rfl
        · skip
          try simp at h3
          refine AWP.seq ?_
          refine AWP.region (fun _ => ?_)
          refine ARun.cmp rfl rfl rfl rfl (Ev.plain rfl) (Ev.plain rfl) rfl optN ?_
          refine ARun.move (.inr rfl) rfl rfl rfl (Ev.plain rfl) optN ?_
          refine ⟨_, _, rfl, hG, ?_⟩
          refine thenA_n ?_
          refine AWP.cond rfl (fun h4 => ?_) (fun h4 => ?_)
          · skip
            try simp at h4
            refine AWP.region (fun _ => ?_)
            refine ARun.loadBoxA rfl rfl rfl rfl Tryd.underlying42 rfl sz42 (Ev.plain rfl) ((hG.at _ _).trans rfl) rfl rfl optN ?_
            refine ARun.fieldPe rfl rfl rfl rfl Tryd.underlying50 rfl rfl sz3 (by decide) (Ev.plain rfl) rfl optN ?_
            refine ARun.loadPe rfl rfl rfl rfl Tryd.underlying3 rfl (Ev.plain rfl) rfl optN ?_
            refine ARun.call rfl rfl rfl rfl cf38 (Ev.plain rfl) (.cons (Ev.plain rfl) (.cons (Ev.plain rfl) .nil)) rfl (fun hg => armR_fn r x.n) optN ?_
            refine ARun.move (.inl rfl) rfl rfl rfl (Ev.plain rfl) optN ?_
            refine ARun.extract rfl rfl rfl rfl (Ev.plain rfl) rfl optN ?_
            refine ARun.extract rfl rfl rfl rfl (Ev.plain rfl) rfl optN ?_
            refine ARun.storeL hG rfl rfl rfl sz42 (Ev.plain rfl) (Ev.plain rfl) rfl rfl rfl rfl rfl (Nat.le_of_ble_eq_true rfl) rfl rfl ?_
            refine ARun.move (.inr rfl) rfl rfl rfl (Ev.plain rfl) optN ?_
            refine ⟨_, _, rfl, hG, ?_⟩
            refine blockA_n ?_
            refine thenA_n ?_
            refine AWP.seq ?_
            refine AWP.region (fun _ => ?_)
            refine ARun.loadBoxA rfl rfl rfl rfl Tryd.underlying42 rfl sz42 (Ev.plain rfl) ((hG.at _ _).trans rfl) rfl rfl optN ?_
            refine ARun.move (.inl rfl) rfl rfl rfl (Ev.plain rfl) optN ?_
            refine ARun.move (.inl rfl) rfl rfl rfl (Ev.plain rfl) optN ?_
            refine ARun.storeL hG rfl rfl rfl sz42 (Ev.plain rfl) (Ev.plain rfl) rfl rfl rfl rfl rfl (Nat.le_of_ble_eq_true rfl) rfl rfl ?_
            refine ARun.move (.inr rfl) rfl rfl rfl (Ev.plain rfl) optN ?_
            refine ARun.move (.inr rfl) rfl rfl rfl (Ev.plain rfl) optN ?_
            refine ⟨_, _, rfl, hG, ?_⟩
            refine thenA_n ?_
            refine AWP.ret ?_
            refine endF.many (.inr rfl) (rs := [.cell 4 42, .tmp 5, .tmp 6]) rfl (.cons (.cellA rfl ((hG.at _ _).trans rfl) Tryd.underlying42 rfl sz42 rfl rfl) (.cons (.tmp rfl) (.cons (.tmp rfl) .nil))) (by simp) ?_ hN
            rw [refDoP, if_neg h0, if_neg h1, if_neg h2, if_neg h3, if_pos h4]; rfl
          · skip
            try simp at h4
            refine AWP.seq ?_
            refine AWP.region (fun _ => ?_)
            refine ARun.cmp rfl rfl rfl rfl (Ev.plain rfl) (Ev.plain rfl) rfl optN ?_
            refine ARun.move (.inr rfl) rfl rfl rfl (Ev.plain rfl) optN ?_
            refine ⟨_, _, rfl, hG, ?_⟩
            refine thenA_n ?_
            refine AWP.cond rfl (fun h5 => ?_) (fun h5 => ?_)
            · skip
              try simp at h5
              refine AWP.region (fun _ => ?_)
              refine ARun.loadBoxA rfl rfl rfl rfl Tryd.underlying42 rfl sz42 (Ev.plain rfl) ((hG.at _ _).trans rfl) rfl rfl optN ?_
              refine ARun.call rfl rfl rfl rfl cf39 (Ev.plain rfl) (.cons (Ev.plain rfl) .nil) rfl (fun hg => offR_fn r) optN ?_
              refine ARun.storeL hG rfl rfl rfl sz42 (Ev.plain rfl) (Ev.plain rfl) rfl rfl rfl rfl rfl (Nat.le_of_ble_eq_true rfl) rfl rfl ?_
              refine ⟨_, _, rfl, hG, ?_⟩
              refine blockA_n ?_
              refine thenA_n ?_
              refine AWP.seq ?_
              refine AWP.region (fun _ => ?_)
              refine ARun.loadBoxA rfl rfl rfl rfl Tryd.underlying42 rfl sz42 (Ev.plain rfl) ((hG.at _ _).trans rfl) rfl rfl optN ?_
              refine ARun.move (.inl rfl) rfl rfl rfl (Ev.plain rfl) optN ?_
              refine ARun.move (.inl rfl) rfl rfl rfl (Ev.plain rfl) optN ?_
              refine ARun.storeL hG rfl rfl rfl sz42 (Ev.plain rfl) (Ev.plain rfl) rfl rfl rfl rfl rfl (Nat.le_of_ble_eq_true rfl) rfl rfl ?_
              refine ARun.move (.inr rfl) rfl rfl rfl (Ev.plain rfl) optN ?_
              refine ARun.move (.inr rfl) rfl rfl rfl (Ev.plain rfl) optN ?_
              refine ⟨_, _, rfl, hG, ?_⟩
              refine thenA_n ?_
              refine AWP.ret ?_
              refine endF.many (.inr rfl) (rs := [.cell 4 42, .tmp 5, .tmp 6]) rfl (.cons (.cellA rfl ((hG.at _ _).trans rfl) Tryd.underlying42 rfl sz42 rfl rfl) (.cons (.tmp rfl) (.cons (.tmp rfl) .nil))) (by simp) ?_ hN
              rw [refDoP, if_neg h0, if_neg h1, if_neg h2, if_neg h3, if_neg h4, if_pos h5]; rfl
            · skip
              try simp at h5
              refine AWP.seq ?_
              refine AWP.region (fun _ => ?_)
              refine ARun.cmp rfl rfl rfl rfl (Ev.plain rfl) (Ev.plain rfl) rfl optN ?_
              refine ARun.move (.inr rfl) rfl rfl rfl (Ev.plain rfl) optN ?_
              refine ⟨_, _, rfl, hG, ?_⟩
              refine thenA_n ?_
              refine AWP.cond rfl (fun h6 => ?_) (fun h6 => ?_)
              · skip
                try simp at h6
                refine AWP.draw mixed (by kernel_rfl) (fun _ => ?_)
                refine ARun.loadBoxA rfl rfl rfl rfl Tryd.underlying42 rfl sz42 (Ev.plain rfl) ((hG.at _ _).trans rfl) rfl rfl optN ?_
                refine ARun.fieldPe rfl rfl rfl rfl Tryd.underlying50 rfl rfl sz23 (by decide) (Ev.plain rfl) rfl optN ?_
                refine ARun.loadPeA rfl rfl rfl rfl Tryd.underlying23 rfl sz23 (Ev.plain rfl) rfl optN ?_
                refine ARun.call rfl rfl rfl rfl cf41 (Ev.plain rfl) (.cons (Ev.plain rfl) .nil) rfl (fun hg => of_fn x.a) optN ?_
                refine ARun.fieldPe rfl rfl rfl rfl Tryd.underlying50 rfl rfl sz23 (by decide) (Ev.plain rfl) rfl optN ?_
                refine ARun.loadPeA rfl rfl rfl rfl Tryd.underlying23 rfl sz23 (Ev.plain rfl) rfl optN ?_
                refine ARun.call rfl rfl rfl rfl cf41 (Ev.plain rfl) (.cons (Ev.plain rfl) .nil) rfl (fun hg => of_fn x.b) optN ?_
                refine ARun.call rfl rfl rfl rfl cf40 (Ev.plain rfl) (.cons (Ev.plain rfl) (.cons (Ev.plain rfl) (.cons (Ev.plain rfl) .nil))) rfl (fun hg => bootR_fn r x.a x.b hr ha hb) optN ?_
                refine ARun.storeL hG rfl rfl rfl sz42 (Ev.plain rfl) (Ev.plain rfl) rfl rfl rfl rfl rfl (Nat.le_of_ble_eq_true rfl) rfl rfl ?_
                refine ⟨by kernel_rfl, _, _, rfl, hG, ?_⟩
                refine blockA_n ?_
                refine thenA_n ?_
                refine AWP.seq ?_
                refine AWP.region (fun _ => ?_)
                refine ARun.loadBoxA rfl rfl rfl rfl Tryd.underlying42 rfl sz42 (Ev.plain rfl) ((hG.at _ _).trans rfl) rfl rfl optN ?_
                refine ARun.move (.inl rfl) rfl rfl rfl (Ev.plain rfl) optN ?_
                refine ARun.move (.inl rfl) rfl rfl rfl (Ev.plain rfl) optN ?_
                refine ARun.storeL hG rfl rfl rfl sz42 (Ev.plain rfl) (Ev.plain rfl) rfl rfl rfl rfl rfl (Nat.le_of_ble_eq_true rfl) rfl rfl ?_
                refine ARun.move (.inr rfl) rfl rfl rfl (Ev.plain rfl) optN ?_
                refine ARun.move (.inr rfl) rfl rfl rfl (Ev.plain rfl) optN ?_
                refine ⟨_, _, rfl, hG, ?_⟩
                refine thenA_n ?_
                refine AWP.ret ?_
                refine endF.many (.inr rfl) (rs := [.cell 4 42, .tmp 5, .tmp 6]) rfl (.cons (.cellA rfl ((hG.at _ _).trans rfl) Tryd.underlying42 rfl sz42 rfl rfl) (.cons (.tmp rfl) (.cons (.tmp rfl) .nil))) (by simp) ?_ hN
                rw [refDoP, if_neg h0, if_neg h1, if_neg h2, if_neg h3, if_neg h4, if_neg h5, if_pos h6]; rfl
              · skip
                try simp at h6
                refine AWP.skip ?_
                refine blockA_n ?_
                refine thenA_n ?_
                refine AWP.seq ?_
                refine AWP.region (fun _ => ?_)
                refine ARun.loadBoxA rfl rfl rfl rfl Tryd.underlying42 rfl sz42 (Ev.plain rfl) ((hG.at _ _).trans rfl) rfl rfl optN ?_
                refine ARun.move (.inl rfl) rfl rfl rfl (Ev.plain rfl) optN ?_
                refine ARun.move (.inl rfl) rfl rfl rfl (Ev.plain rfl) optN ?_
                refine ARun.storeL hG rfl rfl rfl sz42 (Ev.plain rfl) (Ev.plain rfl) rfl rfl rfl rfl rfl (Nat.le_of_ble_eq_true rfl) rfl rfl ?_
                refine ARun.move (.inr rfl) rfl rfl rfl (Ev.plain rfl) optN ?_
                refine ARun.move (.inr rfl) rfl rfl rfl (Ev.plain rfl) optN ?_
                refine ⟨_, _, rfl, hG, ?_⟩
                refine thenA_n ?_
                refine AWP.ret ?_
                refine endF.many (.inr rfl) (rs := [.cell 4 42, .tmp 5, .tmp 6]) rfl (.cons (.cellA rfl ((hG.at _ _).trans rfl) Tryd.underlying42 rfl sz42 rfl rfl) (.cons (.tmp rfl) (.cons (.tmp rfl) .nil))) (by simp) ?_ hN
                rw [refDoP, if_neg h0, if_neg h1, if_neg h2, if_neg h3, if_neg h4, if_neg h5, if_neg h6]; rfl
end Go.Proofs.YtfjmmebjfllciaaDoor
