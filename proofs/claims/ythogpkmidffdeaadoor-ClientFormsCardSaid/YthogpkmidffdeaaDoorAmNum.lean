/- Rows of numbers, by the abstract machine. -/
import Derived.Test.YthogpkmidffdeaaDoorAmTys
import Derived.Test.YthogpkmidffdeaaDoorNumAm
namespace Go.Proofs.YthogpkmidffdeaaDoor
set_option linter.unusedVariables false
set_option linter.unusedSimpArgs false
open Go.RowKit
open NumP
set_option maxRecDepth 100000
theorem fit_at {l : List Int} (hf : ∀ x, x ∈ l → -9223372036854775808 ≤ x ∧ x ≤ 9223372036854775807) {k : Nat} (hk : k < l.length) : -9223372036854775808 ≤ l.getD k default ∧ l.getD k default ≤ 9223372036854775807 := by
  simp only [List.getD, List.getElem?_eq_getElem hk, Option.getD_some]; exact hf _ (List.getElem_mem hk)

theorem map_snocI (l : List Int) (x : Int) : l.map (AV.int .i64) ++ [AV.int .i64 x] = (l ++ [x]).map (AV.int .i64) := by simp
set_option maxHeartbeats 1000000 in
theorem unrowN_fn (s : ByteArray) (p top : Int) (hs : s.size ≤ 1000000) : FnP Tryd.prog 53 [.str s, .int .i64 p, .int .i64 top] (.tup [.sl ((unrowN (bl s) p top).1.map (AV.int .i64)), .int .i64 (unrowN (bl s) p top).2.1, .int .i64 (unrowN (bl s) p top).2.2]) := by
  have hbd := getN_bd (bl s) p (by rw [bl_len]; exact hs)
  have hdef : unrowN (bl s) p top = (if (getN (bl s) p).2.2 ≠ 0 then (([], 0, (getN (bl s) p).2.2) : List Int × Int × Int) else if (getN (bl s) p).1 > 1000 ∨ ((getN (bl s) p).1 > top ∧ (getN (bl s) p).1 > 0) then ([], 0, 3) else unrowF (bl s) (getN (bl s) p).1.toNat (getN (bl s) p).2.1 []) := rfl
  refine FnP.of Tryd.func53 rfl rfl (by simp) (by simp [AV.cells]) (fun G hG => ?_)
  have hN : NoH G.length (.tup [.sl ((unrowN (bl s) p top).1.map (AV.int .i64)), .int .i64 (unrowN (bl s) p top).2.1, .int .i64 (unrowN (bl s) p top).2.2]) := (by simp [AV.cells])
  refine AWP.seq ?_
  refine AWP.region (fun _ => ?_)
  refine ARun.nilOwn (e := 3) (z := 1) (j := 0) hG rfl ⟨.inl rfl, rfl⟩ (fun _ => rfl) rfl rfl rfl optN ?_
  refine ARun.move (.inr rfl) rfl rfl rfl (Ev.plain rfl) optN ?_
  refine ARun.move (.inr rfl) rfl rfl rfl (Ev.plain rfl) optN ?_
  refine ⟨_, _, rfl, hG, ?_⟩
  refine thenA_n ?_
  refine AWP.seq ?_
  refine AWP.region (fun _ => ?_)
  refine ARun.move (.inl rfl) rfl rfl rfl (Ev.plain rfl) optN ?_
  refine ARun.move (.inl rfl) rfl rfl rfl (Ev.plain rfl) optN ?_
  refine ARun.call rfl rfl rfl rfl cf51 (Ev.plain rfl) (.cons (Ev.plain rfl) (.cons (Ev.plain rfl) .nil)) rfl (fun hg => get_fn s p hs) optN ?_
  refine ARun.move (.inl rfl) rfl rfl rfl (Ev.plain rfl) optN ?_
  refine ARun.extract rfl rfl rfl rfl (Ev.plain rfl) rfl optN ?_
  refine ARun.extract rfl rfl rfl rfl (Ev.plain rfl) rfl optN ?_
  refine ARun.extract rfl rfl rfl rfl (Ev.plain rfl) rfl optN ?_
  refine ARun.move (.inr rfl) rfl rfl rfl (Ev.plain rfl) optN ?_
  refine ARun.move (.inr rfl) rfl rfl rfl (Ev.plain rfl) optN ?_
  refine ARun.move (.inr rfl) rfl rfl rfl (Ev.plain rfl) optN ?_
  refine ⟨_, _, rfl, hG, ?_⟩
  refine thenA_n ?_
  refine AWP.seq ?_
  refine AWP.seq ?_
  refine AWP.region (fun _ => ?_)
  refine ARun.move (.inl rfl) rfl rfl rfl (Ev.plain rfl) optN ?_
  refine ARun.cmp rfl rfl rfl rfl (Ev.plain rfl) (Ev.plain rfl) rfl optN ?_
  refine ⟨_, _, rfl, hG, ?_⟩
  refine thenA_n ?_
  refine AWP.cond rfl (fun h0 => ?_) (fun h0 => ?_)
  · skip
    have h0' : (getN (bl s) p).2.2 ≠ 0 := by simpa using h0
    refine AWP.seq ?_
    refine AWP.region (fun _ => ?_)
    refine ARun.move (.inl rfl) rfl rfl rfl (Ev.plain rfl) optN ?_
    refine ARun.move (.inr rfl) rfl rfl rfl (Ev.plain rfl) optN ?_
    refine ARun.move (.inr rfl) rfl rfl rfl (Ev.plain rfl) optN ?_
    refine ARun.move (.inr rfl) rfl rfl rfl (Ev.plain rfl) optN ?_
    refine ⟨_, _, rfl, hG, ?_⟩
    refine thenA_n ?_
    refine AWP.ret ?_
    refine thenA_r ?_
    refine endF.many (.inr rfl) (rs := [.tmp 6, .tmp 7, .tmp 8]) rfl (.cons (.tmp rfl) (.cons (.tmp rfl) (.cons (.tmp rfl) .nil))) (by simp) ?_ hN
    rw [hdef, if_pos h0']; rfl
  · skip
    simp at h0
    have hlen : (getN (bl s) p).1.toNat ≤ (getN (bl s) p).1.toNat := Nat.le_refl _
    rw [if_neg (by simp [h0])] at hdef
    refine AWP.skip ?_
    refine thenA_n ?_
    refine AWP.seq ?_
    refine AWP.seq ?_
    refine AWP.region (fun _ => ?_)
    refine ARun.move (.inl rfl) rfl rfl rfl (Ev.plain rfl) optN ?_
    refine ARun.move (.inl rfl) rfl rfl rfl (Ev.plain rfl) optN ?_
    refine ARun.minmax rfl rfl rfl rfl (Ev.plain rfl) (Ev.plain rfl) (.inr ⟨rfl, rfl⟩) optN ?_
    refine ARun.minmax rfl rfl rfl rfl (Ev.plain rfl) (Ev.plain rfl) (.inl ⟨rfl, rfl⟩) optN ?_
    refine ARun.cmp rfl rfl rfl rfl (Ev.plain rfl) (Ev.plain rfl) rfl optN ?_
    refine ⟨_, _, rfl, hG, ?_⟩
    refine thenA_n ?_
    refine AWP.cond rfl (fun h1 => ?_) (fun h1 => ?_)
    · skip
      have h1' : (getN (bl s) p).1 > 1000 ∨ ((getN (bl s) p).1 > top ∧ (getN (bl s) p).1 > 0) := by simp at h1; omega
      rw [if_pos h1'] at hdef
      refine AWP.seq ?_
      refine AWP.region (fun _ => ?_)
      refine ARun.move (.inr rfl) rfl rfl rfl (Ev.plain rfl) optN ?_
      refine ARun.move (.inr rfl) rfl rfl rfl (Ev.plain rfl) optN ?_
      refine ARun.move (.inr rfl) rfl rfl rfl (Ev.plain rfl) optN ?_
      refine ⟨_, _, rfl, hG, ?_⟩
      refine thenA_n ?_
      refine AWP.ret ?_
      refine thenA_r ?_
      refine endF.many (.inr rfl) (rs := [.tmp 6, .tmp 7, .tmp 8]) rfl (.cons (.tmp rfl) (.cons (.tmp rfl) (.cons (.tmp rfl) .nil))) (by simp) ?_ hN
      rw [hdef]; rfl
    · skip
      have h1' : ¬ ((getN (bl s) p).1 > 1000 ∨ ((getN (bl s) p).1 > top ∧ (getN (bl s) p).1 > 0)) := by simp at h1; omega
      rw [if_neg h1'] at hdef
      refine AWP.skip ?_
      refine thenA_n ?_
      refine AWP.seq ?_
      refine AWP.seq ?_
      refine AWP.region (fun _ => ?_)
      refine ARun.move (.inl rfl) rfl rfl rfl (Ev.plain rfl) optN ?_
      refine ARun.move (.inl rfl) rfl rfl rfl (Ev.plain rfl) optN ?_
      refine ⟨_, _, rfl, hG, ?_⟩
      refine thenA_n ?_
      refine AWP.block ?_
      refine AWP.rounds (fun st => st.1 ≤ (getN (bl s) p).1.toNat ∧ st.2.2.2.length = st.1 ∧ unrowF (bl s) ((getN (bl s) p).1.toNat - st.1) st.2.2.1 st.2.2.2 = unrowF (bl s) (getN (bl s) p).1.toNat (getN (bl s) p).2.1 []) (fun st => [(0, .str s), (6, .own (G.length + 0) st.2.1), (7, .int .i64 st.2.2.1), (28, .int .i64 (getN (bl s) p).1), (29, .int .i64 (st.1 : Int))]) (fun st => [.row st.2.1 3 1 (st.2.2.2.map (AV.int .i64))]) (fun st => (getN (bl s) p).1.toNat - st.1) 1 ((0, 0, (getN (bl s) p).2.1, []) : Nat × Nat × Int × List Int) ⟨Nat.zero_le _, rfl, rfl⟩ (by repeat (first | exact .nil | refine .cons rfl ?_)) rfl (fun _ => rfl) (fun _ => ⟨by simp [AV.cells], by simp [AO.conts, AV.cells]; rintro y a _ rfl; simp⟩) (fun st hI => ?_)
      obtain ⟨k, g, to, acc⟩ := st
      dsimp only at hI
      show AWP _ _ _ _ _ [(0, .str s), (6, .own (G.length + 0) g), (7, .int .i64 to), (28, .int .i64 (getN (bl s) p).1), (29, .int .i64 (k : Int))] _ [.row g 3 1 (acc.map (AV.int .i64))]
      obtain ⟨hk, hal, hu⟩ := hI
      refine AWP.seq ?_
      refine AWP.region (fun _ => ?_)
      refine ARun.cmp rfl rfl rfl rfl (Ev.plain rfl) (Ev.plain rfl) rfl optN ?_
      refine ⟨_, _, rfl, hG, ?_⟩
      refine thenA_n ?_
      refine AWP.seq ?_
      refine AWP.cond rfl (fun h2 => ?_) (fun h2 => ?_)
      · skip
        simp at h2
        refine AWP.skip ?_
        refine thenA_n ?_
        refine AWP.seq ?_
        refine AWP.block ?_
        refine AWP.seq ?_
        refine AWP.region (fun _ => ?_)
        refine ARun.move (.inl rfl) rfl rfl rfl (Ev.plain rfl) optN ?_
        refine ARun.move (.inl rfl) rfl rfl rfl (Ev.plain rfl) optN ?_
        refine ARun.call rfl rfl rfl rfl cf51 (Ev.plain rfl) (.cons (Ev.plain rfl) (.cons (Ev.plain rfl) .nil)) rfl (fun hg => get_fn s to hs) optN ?_
        refine ARun.move (.inl rfl) rfl rfl rfl (Ev.plain rfl) optN ?_
        refine ARun.extract rfl rfl rfl rfl (Ev.plain rfl) rfl optN ?_
        refine ARun.extract rfl rfl rfl rfl (Ev.plain rfl) rfl optN ?_
        refine ARun.extract rfl rfl rfl rfl (Ev.plain rfl) rfl optN ?_
        refine ARun.move (.inr rfl) rfl rfl rfl (Ev.plain rfl) optN ?_
        refine ARun.move (.inr rfl) rfl rfl rfl (Ev.plain rfl) optN ?_
        refine ARun.move (.inr rfl) rfl rfl rfl (Ev.plain rfl) optN ?_
        refine ⟨_, _, rfl, hG, ?_⟩
        refine thenA_n ?_
        refine AWP.seq ?_
        refine AWP.seq ?_
        refine AWP.region (fun _ => ?_)
        refine ARun.move (.inl rfl) rfl rfl rfl (Ev.plain rfl) optN ?_
        refine ARun.cmp rfl rfl rfl rfl (Ev.plain rfl) (Ev.plain rfl) rfl optN ?_
        refine ⟨_, _, rfl, hG, ?_⟩
        refine thenA_n ?_
        refine AWP.cond rfl (fun h3 => ?_) (fun h3 => ?_)
        · skip
          have h3' : (getN (bl s) to).2.2 ≠ 0 := by simpa using h3
          rw [show (getN (bl s) p).1.toNat - k = ((getN (bl s) p).1.toNat - (k + 1)) + 1 by omega, unrow_step, if_pos h3'] at hu
          refine AWP.seq ?_
          refine AWP.region (fun _ => ?_)
          refine ARun.move (.inl rfl) rfl rfl rfl (Ev.plain rfl) optN ?_
          refine ARun.move (.inr rfl) rfl rfl rfl (Ev.plain rfl) optN ?_
          refine ARun.move (.inr rfl) rfl rfl rfl (Ev.plain rfl) optN ?_
          refine ARun.move (.inr rfl) rfl rfl rfl (Ev.plain rfl) optN ?_
          refine ⟨_, _, rfl, hG, ?_⟩
          refine thenA_n ?_
          refine AWP.ret ?_
          refine thenA_r ?_
          refine blockA_r ?_
          refine thenA_r ?_
          refine thenA_r ?_
          refine blockA_r ?_
          refine thenA_r ?_
          refine endF.many (.inr rfl) (rs := [.tmp 6, .tmp 7, .tmp 8]) rfl (.cons (.tmp rfl) (.cons (.tmp rfl) (.cons (.tmp rfl) .nil))) (by simp) ?_ hN
          rw [hdef, ← hu]; rfl
        · skip
          simp at h3
          rw [show (getN (bl s) p).1.toNat - k = ((getN (bl s) p).1.toNat - (k + 1)) + 1 by omega, unrow_step, if_neg (by simp [h3])] at hu
          refine AWP.skip ?_
          refine thenA_n ?_
          refine AWP.region (fun _ => ?_)
          refine ARun.move (.inl rfl) rfl rfl rfl (Ev.plain rfl) optN ?_
          refine ARun.move (.inl rfl) rfl rfl rfl (Ev.plain rfl) optN ?_
          refine ARun.buildSl rfl rfl rfl rfl Tryd.underlying66 sz3 zv3 rfl (by decide) (.cons (Ev.plain rfl) .nil) rfl rfl rfl rfl (by decide) rfl rfl optN ?_
          refine ARun.appendL hG rfl rfl rfl rfl Tryd.underlying66 ti3 rfl (by decide) (Ev.plain rfl) (Ev.plain rfl) rfl rfl (by simp [maxLen]; omega) (by simp; omega) (map_snocI acc _) optN rfl ?_
          refine ARun.move (.inl rfl) rfl rfl rfl (Ev.plain rfl) optN ?_
          refine ARun.move (.inr rfl) rfl rfl rfl (Ev.plain rfl) optN ?_
          refine ARun.move (.inr rfl) rfl rfl rfl (Ev.plain rfl) optN ?_
          refine ⟨_, _, rfl, hG, ?_⟩
          refine blockA_n ?_
          refine thenA_n ?_
          refine AWP.region (fun _ => ?_)
          first | refine ARun.arith rfl rfl rfl rfl (Ev.plain rfl) (Ev.plain rfl) rfl (fun hg => i64w (by (try simp at hg); omega)) optN ?_ | refine ARun.arith rfl rfl rfl rfl (Ev.plain rfl) (Ev.plain rfl) rfl (fun _ => rfl) optN ?_
          refine ARun.move (.inl rfl) rfl rfl rfl (Ev.plain rfl) optN ?_
          refine ⟨_, _, rfl, hG, ?_⟩
          refine thenA_n ⟨rfl, (k + 1, g + 1, (getN (bl s) to).2.1, acc ++ [(getN (bl s) to).1]), _, ?_, ?_, rfl, ?_⟩
          · exact ⟨by dsimp only; omega, by simp [hal], hu⟩
          · repeat (first | exact .nil | refine .cons rfl ?_)
          · dsimp only; omega
      · skip
        simp at h2
        have hkk : (getN (bl s) p).1.toNat - k = 0 := by omega
        rw [hkk] at hu
        refine AWP.exit ?_
        refine thenA_x ?_
        refine thenA_x ?_
        refine blockA_h ?_
        refine thenA_n ?_
        refine AWP.seq ?_
        refine AWP.region (fun _ => ?_)
        refine ARun.move (.inl rfl) rfl rfl rfl (Ev.plain rfl) optN ?_
        refine ARun.move (.inl rfl) rfl rfl rfl (Ev.plain rfl) optN ?_
        refine ARun.move (.inr rfl) rfl rfl rfl (Ev.plain rfl) optN ?_
        refine ARun.move (.inr rfl) rfl rfl rfl (Ev.plain rfl) optN ?_
        refine ARun.move (.inr rfl) rfl rfl rfl (Ev.plain rfl) optN ?_
        refine ⟨_, _, rfl, hG, ?_⟩
        refine thenA_n ?_
        refine AWP.frzOwn 6 hG rfl rfl (by decide) (by simp [maxLen]; omega) rfl ?_
        refine AWP.ret ?_
        refine endF.many (.inr rfl) (rs := [.tmp 6, .tmp 7, .tmp 8]) rfl (.cons (.tmp rfl) (.cons (.tmp rfl) (.cons (.tmp rfl) .nil))) (by simp) ?_ hN
        rw [hdef, ← hu]; rfl
set_option maxHeartbeats 1000000 in
theorem unrowR_fn (s : ByteArray) (p top : Int) (hs : s.size ≤ 1000000) : FnP Tryd.prog 62 [.str s, .int .i64 p, .int .i64 top] (.tup [.sl ((unrowN (bl s) p top).1.map (AV.int .i64)), .int .i64 (unrowN (bl s) p top).2.1, .int .i64 (unrowN (bl s) p top).2.2]) := by
  have hbd := getN_bd (bl s) p (by rw [bl_len]; exact hs)
  have hdef : unrowN (bl s) p top = (if (getN (bl s) p).2.2 ≠ 0 then (([], 0, (getN (bl s) p).2.2) : List Int × Int × Int) else if (getN (bl s) p).1 > 1000 ∨ ((getN (bl s) p).1 > top ∧ (getN (bl s) p).1 > 0) then ([], 0, 3) else unrowF (bl s) (getN (bl s) p).1.toNat (getN (bl s) p).2.1 []) := rfl
  refine FnP.of Tryd.func62 rfl rfl (by simp) (by simp [AV.cells]) (fun G hG => ?_)
  have hN : NoH G.length (.tup [.sl ((unrowN (bl s) p top).1.map (AV.int .i64)), .int .i64 (unrowN (bl s) p top).2.1, .int .i64 (unrowN (bl s) p top).2.2]) := (by simp [AV.cells])
  refine AWP.seq ?_
  refine AWP.region (fun _ => ?_)
  refine ARun.move (.inr rfl) rfl rfl rfl (Ev.plain rfl) optN ?_
  refine ARun.move (.inr rfl) rfl rfl rfl (Ev.plain rfl) optN ?_
  refine ARun.move (.inr rfl) rfl rfl rfl (Ev.plain rfl) optN ?_
  refine ⟨_, _, rfl, hG, ?_⟩
  refine thenA_n ?_
  refine AWP.seq ?_
  refine AWP.region (fun _ => ?_)
  refine ARun.move (.inl rfl) rfl rfl rfl (Ev.plain rfl) optN ?_
  refine ARun.move (.inl rfl) rfl rfl rfl (Ev.plain rfl) optN ?_
  refine ARun.call rfl rfl rfl rfl cf60 (Ev.plain rfl) (.cons (Ev.plain rfl) (.cons (Ev.plain rfl) .nil)) rfl (fun hg => getR_fn s p hs) optN ?_
  refine ARun.move (.inl rfl) rfl rfl rfl (Ev.plain rfl) optN ?_
  refine ARun.extract rfl rfl rfl rfl (Ev.plain rfl) rfl optN ?_
  refine ARun.extract rfl rfl rfl rfl (Ev.plain rfl) rfl optN ?_
  refine ARun.extract rfl rfl rfl rfl (Ev.plain rfl) rfl optN ?_
  refine ARun.move (.inr rfl) rfl rfl rfl (Ev.plain rfl) optN ?_
  refine ARun.move (.inr rfl) rfl rfl rfl (Ev.plain rfl) optN ?_
  refine ARun.move (.inr rfl) rfl rfl rfl (Ev.plain rfl) optN ?_
  refine ⟨_, _, rfl, hG, ?_⟩
  refine thenA_n ?_
  refine AWP.seq ?_
  refine AWP.seq ?_
  refine AWP.region (fun _ => ?_)
  refine ARun.move (.inl rfl) rfl rfl rfl (Ev.plain rfl) optN ?_
  refine ARun.cmp rfl rfl rfl rfl (Ev.plain rfl) (Ev.plain rfl) rfl optN ?_
  refine ⟨_, _, rfl, hG, ?_⟩
  refine thenA_n ?_
  refine AWP.cond rfl (fun h0 => ?_) (fun h0 => ?_)
  · skip
    have h0' : (getN (bl s) p).2.2 ≠ 0 := by simpa using h0
    refine AWP.seq ?_
    refine AWP.region (fun _ => ?_)
    refine ARun.move (.inl rfl) rfl rfl rfl (Ev.plain rfl) optN ?_
    refine ARun.move (.inr rfl) rfl rfl rfl (Ev.plain rfl) optN ?_
    refine ARun.move (.inr rfl) rfl rfl rfl (Ev.plain rfl) optN ?_
    refine ARun.move (.inr rfl) rfl rfl rfl (Ev.plain rfl) optN ?_
    refine ⟨_, _, rfl, hG, ?_⟩
    refine thenA_n ?_
    refine AWP.ret ?_
    refine thenA_r ?_
    refine endF.many (.inr rfl) (rs := [.tmp 6, .tmp 7, .tmp 8]) rfl (.cons (.tmp rfl) (.cons (.tmp rfl) (.cons (.tmp rfl) .nil))) (by simp) ?_ hN
    rw [hdef, if_pos h0']; rfl
  · skip
    simp at h0
    have hlen : (getN (bl s) p).1.toNat ≤ (getN (bl s) p).1.toNat := Nat.le_refl _
    rw [if_neg (by simp [h0])] at hdef
    refine AWP.skip ?_
    refine thenA_n ?_
    refine AWP.seq ?_
    refine AWP.seq ?_
    refine AWP.region (fun _ => ?_)
    refine ARun.move (.inl rfl) rfl rfl rfl (Ev.plain rfl) optN ?_
    refine ARun.cmp rfl rfl rfl rfl (Ev.plain rfl) (Ev.plain rfl) rfl optN ?_
    refine ARun.move (.inl rfl) rfl rfl rfl (Ev.plain rfl) optN ?_
    refine ARun.move (.inl rfl) rfl rfl rfl (Ev.plain rfl) optS ?_
    refine ARun.move (.inl rfl) rfl rfl rfl (Ev.plain rfl) optS ?_
    refine ARun.cmp rfl rfl rfl rfl (Ev.opt rfl (fun h => h)) (Ev.opt rfl (fun h => h)) rfl optS ?_
    refine ARun.move (.inl rfl) rfl rfl rfl (Ev.opt rfl (fun h => h)) optS ?_
    refine ARun.move (.inl rfl) rfl rfl rfl (Ev.plain rfl) optS ?_
    refine ARun.cmp rfl rfl rfl rfl (Ev.opt rfl (fun h => h)) (Ev.plain rfl) rfl optS ?_
    refine ARun.pick rfl rfl rfl rfl (Ev.opt rfl (fun h => h)) (Ev.opt rfl (by first | exact pkT | exact pkT2 | simp +contextual)) (Ev.plain rfl) (andB _ _) optS ?_
    refine ARun.pick rfl rfl rfl rfl (Ev.plain rfl) (Ev.plain rfl) (Ev.opt rfl (by first | exact pkF | exact pkF2 | simp +contextual)) (orB _ _) optN ?_
    refine ⟨_, _, rfl, hG, ?_⟩
    refine thenA_n ?_
    refine AWP.cond rfl (fun h1 => ?_) (fun h1 => ?_)
    · skip
      have h1' : (getN (bl s) p).1 > 1000 ∨ ((getN (bl s) p).1 > top ∧ (getN (bl s) p).1 > 0) := by simp at h1; omega
      rw [if_pos h1'] at hdef
      refine AWP.seq ?_
      refine AWP.region (fun _ => ?_)
      refine ARun.move (.inr rfl) rfl rfl rfl (Ev.plain rfl) optN ?_
      refine ARun.move (.inr rfl) rfl rfl rfl (Ev.plain rfl) optN ?_
      refine ARun.move (.inr rfl) rfl rfl rfl (Ev.plain rfl) optN ?_
      refine ⟨_, _, rfl, hG, ?_⟩
      refine thenA_n ?_
      refine AWP.ret ?_
      refine thenA_r ?_
      refine endF.many (.inr rfl) (rs := [.tmp 6, .tmp 7, .tmp 8]) rfl (.cons (.tmp rfl) (.cons (.tmp rfl) (.cons (.tmp rfl) .nil))) (by simp) ?_ hN
      rw [hdef]; rfl
    · skip
      have h1' : ¬ ((getN (bl s) p).1 > 1000 ∨ ((getN (bl s) p).1 > top ∧ (getN (bl s) p).1 > 0)) := by simp at h1; omega
      rw [if_neg h1'] at hdef
      refine AWP.skip ?_
      refine thenA_n ?_
      refine AWP.seq ?_
      refine AWP.region (fun _ => ?_)
      refine ARun.nilOwn (e := 3) (z := 1) (j := 0) hG rfl ⟨.inl rfl, rfl⟩ (fun _ => rfl) rfl rfl rfl optN ?_
      refine ⟨_, _, rfl, hG, ?_⟩
      refine thenA_n ?_
      refine AWP.seq ?_
      refine AWP.seq ?_
      refine AWP.region (fun _ => ?_)
      refine ARun.move (.inr rfl) rfl rfl rfl (Ev.plain rfl) optN ?_
      refine ⟨_, _, rfl, hG, ?_⟩
      refine thenA_n ?_
      refine AWP.block ?_
      refine AWP.rounds (fun st => st.1 ≤ (getN (bl s) p).1.toNat ∧ st.2.2.2.length = st.1 ∧ unrowF (bl s) ((getN (bl s) p).1.toNat - st.1) st.2.2.1 st.2.2.2 = unrowF (bl s) (getN (bl s) p).1.toNat (getN (bl s) p).2.1 []) (fun st => [(0, .str s), (12, .own (G.length + 0) st.2.1), (10, .int .i64 st.2.2.1), (9, .int .i64 (getN (bl s) p).1), (13, .int .i64 (st.1 : Int))]) (fun st => [.row st.2.1 3 1 (st.2.2.2.map (AV.int .i64))]) (fun st => (getN (bl s) p).1.toNat - st.1) 1 ((0, 0, (getN (bl s) p).2.1, []) : Nat × Nat × Int × List Int) ⟨Nat.zero_le _, rfl, rfl⟩ (by repeat (first | exact .nil | refine .cons rfl ?_)) rfl (fun _ => rfl) (fun _ => ⟨by simp [AV.cells], by simp [AO.conts, AV.cells]; rintro y a _ rfl; simp⟩) (fun st hI => ?_)
      obtain ⟨k, g, to, acc⟩ := st
      dsimp only at hI
      show AWP _ _ _ _ _ [(0, .str s), (12, .own (G.length + 0) g), (10, .int .i64 to), (9, .int .i64 (getN (bl s) p).1), (13, .int .i64 (k : Int))] _ [.row g 3 1 (acc.map (AV.int .i64))]
      obtain ⟨hk, hal, hu⟩ := hI
      refine AWP.seq ?_
      refine AWP.seq ?_
      refine AWP.region (fun _ => ?_)
      refine ARun.move (.inl rfl) rfl rfl rfl (Ev.plain rfl) optN ?_
      refine ARun.move (.inl rfl) rfl rfl rfl (Ev.plain rfl) optN ?_
      refine ARun.cmp rfl rfl rfl rfl (Ev.plain rfl) (Ev.plain rfl) rfl optN ?_
      refine ⟨_, _, rfl, hG, ?_⟩
      refine thenA_n ?_
      refine AWP.cond rfl (fun h2 => ?_) (fun h2 => ?_)
      · skip
        simp at h2
        refine AWP.skip ?_
        refine thenA_n ?_
        refine AWP.seq ?_
        refine AWP.block ?_
        refine AWP.seq ?_
        refine AWP.region (fun _ => ?_)
        refine ARun.move (.inl rfl) rfl rfl rfl (Ev.plain rfl) optN ?_
        refine ARun.move (.inl rfl) rfl rfl rfl (Ev.plain rfl) optN ?_
        refine ARun.call rfl rfl rfl rfl cf60 (Ev.plain rfl) (.cons (Ev.plain rfl) (.cons (Ev.plain rfl) .nil)) rfl (fun hg => getR_fn s to hs) optN ?_
        refine ARun.move (.inl rfl) rfl rfl rfl (Ev.plain rfl) optN ?_
        refine ARun.extract rfl rfl rfl rfl (Ev.plain rfl) rfl optN ?_
        refine ARun.extract rfl rfl rfl rfl (Ev.plain rfl) rfl optN ?_
        refine ARun.extract rfl rfl rfl rfl (Ev.plain rfl) rfl optN ?_
        refine ARun.move (.inr rfl) rfl rfl rfl (Ev.plain rfl) optN ?_
        refine ARun.move (.inr rfl) rfl rfl rfl (Ev.plain rfl) optN ?_
        refine ARun.move (.inr rfl) rfl rfl rfl (Ev.plain rfl) optN ?_
        refine ⟨_, _, rfl, hG, ?_⟩
        refine thenA_n ?_
        refine AWP.seq ?_
        refine AWP.seq ?_
        refine AWP.region (fun _ => ?_)
        refine ARun.move (.inl rfl) rfl rfl rfl (Ev.plain rfl) optN ?_
        refine ARun.cmp rfl rfl rfl rfl (Ev.plain rfl) (Ev.plain rfl) rfl optN ?_
        refine ⟨_, _, rfl, hG, ?_⟩
        refine thenA_n ?_
        refine AWP.cond rfl (fun h3 => ?_) (fun h3 => ?_)
        · skip
          have h3' : (getN (bl s) to).2.2 ≠ 0 := by simpa using h3
          rw [show (getN (bl s) p).1.toNat - k = ((getN (bl s) p).1.toNat - (k + 1)) + 1 by omega, unrow_step, if_pos h3'] at hu
          refine AWP.seq ?_
          refine AWP.region (fun _ => ?_)
          refine ARun.move (.inl rfl) rfl rfl rfl (Ev.plain rfl) optN ?_
          refine ARun.move (.inr rfl) rfl rfl rfl (Ev.plain rfl) optN ?_
          refine ARun.move (.inr rfl) rfl rfl rfl (Ev.plain rfl) optN ?_
          refine ARun.move (.inr rfl) rfl rfl rfl (Ev.plain rfl) optN ?_
          refine ⟨_, _, rfl, hG, ?_⟩
          refine thenA_n ?_
          refine AWP.ret ?_
          refine thenA_r ?_
          refine blockA_r ?_
          refine thenA_r ?_
          refine thenA_r ?_
          refine blockA_r ?_
          refine thenA_r ?_
          refine endF.many (.inr rfl) (rs := [.tmp 6, .tmp 7, .tmp 8]) rfl (.cons (.tmp rfl) (.cons (.tmp rfl) (.cons (.tmp rfl) .nil))) (by simp) ?_ hN
          rw [hdef, ← hu]; rfl
        · skip
          simp at h3
          rw [show (getN (bl s) p).1.toNat - k = ((getN (bl s) p).1.toNat - (k + 1)) + 1 by omega, unrow_step, if_neg (by simp [h3])] at hu
          refine AWP.skip ?_
          refine thenA_n ?_
          refine AWP.seq ?_
          refine AWP.region (fun _ => ?_)
          refine ARun.move (.inl rfl) rfl rfl rfl (Ev.plain rfl) optN ?_
          refine ARun.move (.inl rfl) rfl rfl rfl (Ev.plain rfl) optN ?_
          refine ARun.buildSl rfl rfl rfl rfl Tryd.underlying66 sz3 zv3 rfl (by decide) (.cons (Ev.plain rfl) .nil) rfl rfl rfl rfl (by decide) rfl rfl optN ?_
          refine ARun.appendL hG rfl rfl rfl rfl Tryd.underlying66 ti3 rfl (by decide) (Ev.plain rfl) (Ev.plain rfl) rfl rfl (by simp [maxLen]; omega) (by simp; omega) (map_snocI acc _) optN rfl ?_
          refine ARun.move (.inr rfl) rfl rfl rfl (Ev.plain rfl) optN ?_
          refine ⟨_, _, rfl, hG, ?_⟩
          refine thenA_n ?_
          refine AWP.region (fun _ => ?_)
          refine ARun.move (.inl rfl) rfl rfl rfl (Ev.plain rfl) optN ?_
          refine ARun.move (.inr rfl) rfl rfl rfl (Ev.plain rfl) optN ?_
          refine ⟨_, _, rfl, hG, ?_⟩
          refine blockA_n ?_
          refine thenA_n ?_
          refine AWP.region (fun _ => ?_)
          refine ARun.move (.inl rfl) rfl rfl rfl (Ev.plain rfl) optN ?_
          first | refine ARun.arith rfl rfl rfl rfl (Ev.plain rfl) (Ev.plain rfl) rfl (fun hg => i64w (by (try simp at hg); omega)) optN ?_ | refine ARun.arith rfl rfl rfl rfl (Ev.plain rfl) (Ev.plain rfl) rfl (fun _ => rfl) optN ?_
          refine ARun.move (.inr rfl) rfl rfl rfl (Ev.plain rfl) optN ?_
          refine ⟨_, _, rfl, hG, ?_⟩
          refine thenA_n ⟨rfl, (k + 1, g + 1, (getN (bl s) to).2.1, acc ++ [(getN (bl s) to).1]), _, ?_, ?_, rfl, ?_⟩
          · exact ⟨by dsimp only; omega, by simp [hal], hu⟩
          · repeat (first | exact .nil | refine .cons rfl ?_)
          · dsimp only; omega
      · skip
        simp at h2
        have hkk : (getN (bl s) p).1.toNat - k = 0 := by omega
        rw [hkk] at hu
        refine AWP.exit ?_
        refine thenA_x ?_
        refine thenA_x ?_
        refine blockA_h ?_
        refine thenA_n ?_
        refine AWP.seq ?_
        refine AWP.region (fun _ => ?_)
        refine ARun.move (.inl rfl) rfl rfl rfl (Ev.plain rfl) optN ?_
        refine ARun.move (.inl rfl) rfl rfl rfl (Ev.plain rfl) optN ?_
        refine ARun.move (.inr rfl) rfl rfl rfl (Ev.plain rfl) optN ?_
        refine ARun.move (.inr rfl) rfl rfl rfl (Ev.plain rfl) optN ?_
        refine ARun.move (.inr rfl) rfl rfl rfl (Ev.plain rfl) optN ?_
        refine ⟨_, _, rfl, hG, ?_⟩
        refine thenA_n ?_
        refine AWP.frzOwn 6 hG rfl rfl (by decide) (by simp [maxLen]; omega) rfl ?_
        refine AWP.ret ?_
        refine endF.many (.inr rfl) (rs := [.tmp 6, .tmp 7, .tmp 8]) rfl (.cons (.tmp rfl) (.cons (.tmp rfl) (.cons (.tmp rfl) .nil))) (by simp) ?_ hN
        rw [hdef, ← hu]; rfl
end Go.Proofs.YthogpkmidffdeaaDoor
