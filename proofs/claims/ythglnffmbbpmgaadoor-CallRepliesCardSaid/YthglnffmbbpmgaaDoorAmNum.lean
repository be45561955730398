/- Rows of numbers, by the abstract machine. -/
import Derived.Test.YthglnffmbbpmgaaDoorAmTys
import Derived.Test.YthglnffmbbpmgaaDoorNumAm
namespace Go.Proofs.YthglnffmbbpmgaaDoor
set_option linter.unusedVariables false
set_option linter.unusedSimpArgs false
open Go.RowKit
open NumP
set_option maxRecDepth 100000
theorem fit_at {l : List Int} (hf : ∀ x, x ∈ l → -9223372036854775808 ≤ x ∧ x ≤ 9223372036854775807) {k : Nat} (hk : k < l.length) : -9223372036854775808 ≤ l.getD k default ∧ l.getD k default ≤ 9223372036854775807 := by
  simp only [List.getD, List.getElem?_eq_getElem hk, Option.getD_some]; exact hf _ (List.getElem_mem hk)
theorem liesB : liesAt Tryd.prog Tryd.prog.depth 59 (2 / Tryd.prog.cellsOf 59) 0 59 1 = true := by kernel_rfl
theorem writeB (l : List UInt8) (t : ByteArray) (h : l.length + t.size ≤ 100000000) : FnM Tryd.prog 79 (fun i => [.box i 0, .str t]) [.adr 59, .buf 5 (bs l)] (.tup [.int .i64 t.size, .raw .nilIface]) [.adr 59, .buf 5 (bs l ++ t)] :=
  bld_write (n := 2) liesB (by decide) (bs l) t [] rfl (by rw [bs_size]; omega)
set_option maxHeartbeats 1000000 in
theorem rowPut_fn (n : Int) (h : -9223372036854775808 ≤ n ∧ n ≤ 9223372036854775807) (l : List UInt8) (hl : l.length ≤ 1000000) : FnM Tryd.prog 81 (fun i => [.int .i64 n, .box i 0]) ([.adr 59, .buf 5 (bs l)]) (.int .i64 (putN n).2) ([.adr 59, .buf 5 (bs (l ++ (putN n).1))]) := by
  have hpl := putN_len n
  refine FnM.of Tryd.func81 rfl rfl (fun i => by simp) (fun H i m hHm hi hG => ?_)
  have hN : NoH H.length (.int .i64 (putN n).2) := (by simp)
  refine AWP.seq ?_
  refine AWP.region (fun _ => ?_)
  refine ARun.move (.inr rfl) rfl rfl rfl (Ev.plain rfl) optN ?_
  refine ⟨_, _, rfl, hG, ?_⟩
  refine thenA_n ?_
  refine AWP.seq ?_
  refine AWP.region (fun _ => ?_)
  refine ARun.move (.inl rfl) rfl rfl rfl (Ev.plain rfl) optN ?_
  refine ARun.call rfl rfl rfl rfl cf54 (Ev.plain rfl) (.cons (Ev.plain rfl) .nil) rfl (fun hg => put_fn n h) optN ?_
  refine ARun.move (.inl rfl) rfl rfl rfl (Ev.plain rfl) optN ?_
  refine ARun.extract rfl rfl rfl rfl (Ev.plain rfl) rfl optN ?_
  refine ARun.extract rfl rfl rfl rfl (Ev.plain rfl) rfl optN ?_
  refine ARun.move (.inr rfl) rfl rfl rfl (Ev.plain rfl) optN ?_
  refine ARun.move (.inr rfl) rfl rfl rfl (Ev.plain rfl) optN ?_
  refine ⟨_, _, rfl, hG, ?_⟩
  refine thenA_n ?_
  refine AWP.seq ?_
  refine AWP.region (fun _ => ?_)
  refine ARun.move (.inl rfl) rfl rfl rfl (Ev.plain rfl) optN ?_
  refine ARun.callO hi hG rfl rfl rfl rfl cf79 (Ev.plain rfl) (.cons (Ev.plain rfl) (.cons (Ev.plain rfl) .nil)) rfl (writeB l (bs (putN n).1) (by rw [bs_size]; omega) _ _ (atO hi)) (by simp) optN (fun hG => ?_)
  refine ⟨_, _, rfl, hG, ?_⟩
  refine thenA_n ?_
  refine AWP.seq ?_
  refine AWP.region (fun _ => ?_)
  refine ARun.move (.inl rfl) rfl rfl rfl (Ev.plain rfl) optN ?_
  refine ARun.move (.inr rfl) rfl rfl rfl (Ev.plain rfl) optN ?_
  refine ⟨_, _, rfl, hG, ?_⟩
  refine thenA_n ?_
  refine AWP.ret ?_
  refine endF.toG (congrArg (fun c => H.set i (AO.box c)) (by rw [bs_append])) ?_
  refine endF.one (.inr rfl) rfl (.tmp rfl) ?_ (by rw [List.length_set]; exact hN)
  rfl
theorem rowPut_st (x : Int) (h : -9223372036854775808 ≤ x ∧ x ≤ 9223372036854775807) (a : List UInt8 × Int) (ha : a.1.length ≤ 1000000) (h0 : a.2 = 0) : FnM Tryd.prog 81 (fun i => [.int .i64 x, .box i 0]) ([.adr 59, .buf 5 (bs a.1)]) (.int .i64 (rowStep a x).2) ([.adr 59, .buf 5 (bs (rowStep a x).1)]) := by
  rw [show rowStep a x = (a.1 ++ (putN x).1, (putN x).2) from if_pos h0]; exact rowPut_fn x h a.1 ha
set_option maxHeartbeats 1000000 in
theorem rowN_fn (l : List Int) (hl : l.length ≤ 10000) (hf : ∀ x, x ∈ l → -9223372036854775808 ≤ x ∧ x ≤ 9223372036854775807) : FnP Tryd.prog 55 [.sl (l.map (AV.int .i64))] (.tup [.str (bs (rowN l).1), .int .i64 (rowN l).2]) := by
  have hpe : (putN (l.length : Int)).2 = 0 := by rw [putN_err, if_pos (by omega)]
  have hp0 : FnM Tryd.prog 81 (fun i => [.int .i64 ((l.map (AV.int .i64)).length : Int), .box i 0]) ([.adr 59, .buf 5 (bs [])]) (.int .i64 (putN (l.length : Int)).2) ([.adr 59, .buf 5 (bs ([] ++ (putN (l.length : Int)).1))]) := by rw [List.length_map]; exact rowPut_fn l.length (by omega) [] (by simp)
  refine FnP.of Tryd.func55 rfl rfl (by simp) (by simp [AV.cells]) (fun G hG => ?_)
  have hN : NoH G.length (.tup [.str (bs (rowN l).1), .int .i64 (rowN l).2]) := (by simp [AV.cells])
  refine AWP.seq ?_
  refine AWP.region (fun _ => ?_)
  refine ARun.move (.inr rfl) rfl rfl rfl (Ev.plain rfl) optN ?_
  refine ARun.move (.inr rfl) rfl rfl rfl (Ev.plain rfl) optN ?_
  refine ⟨_, _, rfl, hG, ?_⟩
  refine thenA_n ?_
  refine AWP.seq ?_
  refine AWP.region (fun _ => ?_)
  refine ARun.allocBld (j := 0) (e := 5) hG rfl rfl rfl rfl rfl zv59 rfl rfl rfl optN ?_
  refine ⟨_, _, rfl, hG, ?_⟩
  refine thenA_n ?_
  refine AWP.seq ?_
  refine AWP.region (fun _ => ?_)
  refine ARun.makeFunc rfl rfl rfl rfl .nil (.cons (Ev.plain rfl) .nil) optN ?_
  refine ARun.move (.inr rfl) rfl rfl rfl (Ev.plain rfl) optN ?_
  refine ⟨_, _, rfl, hG, ?_⟩
  refine thenA_n ?_
  refine AWP.seq ?_
  refine AWP.region (fun _ => ?_)
  refine ARun.move (.inl rfl) rfl rfl rfl (Ev.plain rfl) optN ?_
  refine ARun.move (.inl rfl) rfl rfl rfl (Ev.plain rfl) optN ?_
  refine ARun.lenSl rfl rfl rfl rfl Tryd.underlying23 (Ev.plain rfl) optN ?_
  refine ARun.callSet (j := 0) hG rfl rfl rfl rfl cf81 (Ev.plain rfl) (.cons (Ev.plain rfl) .nil) rfl (hp0 _ _ ((hG.at _ _).trans rfl)) rfl optN ?_
  refine ARun.move (.inr rfl) rfl rfl rfl (Ev.plain rfl) optN ?_
  refine ⟨_, _, rfl, hG, ?_⟩
  refine thenA_n ?_
  refine AWP.seq ?_
  refine AWP.seq ?_
  refine AWP.region (fun _ => ?_)
  refine ARun.move (.inl rfl) rfl rfl rfl (Ev.plain rfl) optN ?_
  refine ARun.lenSl rfl rfl rfl rfl Tryd.underlying23 (Ev.plain rfl) optN ?_
  refine ARun.move (.inl rfl) rfl rfl rfl (Ev.plain rfl) optN ?_
  refine ⟨_, _, rfl, hG, ?_⟩
  refine thenA_n ?_
  refine AWP.block ?_
  refine AWP.rounds (fun s => s.1 ≤ l.length ∧ s.2 = rowS l s.1) (fun s => [(5, .fn (.func 81) [] [.box (G.length + 0) 0]), (6, .int .i64 s.2.2), (14, .sl (l.map (AV.int .i64))), (15, .int .i64 ((l.map (AV.int .i64)).length : Int)), (16, .int .i64 (s.1 : Int)), (4, .box (G.length + 0) 0)]) (fun s => [.box ([.adr 59, .buf 5 (bs s.2.1)])]) (fun s => l.length - s.1) 1 ((0, rowS l 0) : Nat × (List UInt8 × Int)) ⟨Nat.zero_le _, rfl⟩ (by rw [show (rowS l 0).2 = (putN (l.length : Int)).2 from hpe.symm]; repeat (first | exact .nil | refine .cons rfl ?_)) rfl (fun _ => rfl) (fun _ => ⟨by simp [AV.cells], by simp [AO.conts]⟩) (fun s hI => ?_)
  obtain ⟨k, a⟩ := s
  dsimp only at hI
  show AWP _ _ _ _ _ [(5, .fn (.func 81) [] [.box (G.length + 0) 0]), (6, .int .i64 a.2), (14, .sl (l.map (AV.int .i64))), (15, .int .i64 ((l.map (AV.int .i64)).length : Int)), (16, .int .i64 (k : Int)), (4, .box (G.length + 0) 0)] _ [.box ([.adr 59, .buf 5 (bs a.1)])]
  obtain ⟨hk, ha⟩ := hI
  have hal := rowS_len l k
  rw [← ha] at hal
  refine AWP.seq ?_
  refine AWP.region (fun _ => ?_)
  refine ARun.cmp rfl rfl rfl rfl (Ev.plain rfl) (Ev.plain rfl) rfl optN ?_
  refine ⟨_, _, rfl, hG, ?_⟩
  refine thenA_n ?_
  refine AWP.seq ?_
  refine AWP.cond rfl (fun h0 => ?_) (fun h0 => ?_)
  · skip
    simp [-List.getD_eq_getElem?_getD] at h0
    refine AWP.skip ?_
    refine thenA_n ?_
    refine AWP.seq ?_
    refine AWP.block ?_
    refine AWP.seq ?_
    refine AWP.region (fun _ => ?_)
    first | refine ARun.indexSl rfl rfl rfl rfl Tryd.underlying23 sz3 (Ev.plain rfl) (Ev.plain rfl) (fun _ => rfl) (fun hg => getMap _ _ _ (by (try simp at hg); omega)) rfl rfl optN ?_ | refine ARun.indexSl rfl rfl rfl rfl Tryd.underlying23 sz3 (Ev.plain rfl) (Ev.plain rfl) (fun hg => ofNonneg (by (try simp at hg); omega)) (fun hg => getMap _ _ _ (by (try simp at hg); omega)) rfl rfl optN ?_
    refine ARun.loadPe rfl rfl rfl rfl Tryd.underlying3 rfl (Ev.plain rfl) rfl optN ?_
    refine ARun.move (.inr rfl) rfl rfl rfl (Ev.plain rfl) optN ?_
    refine ⟨_, _, rfl, hG, ?_⟩
    refine thenA_n ?_
    refine AWP.seq ?_
    refine AWP.region (fun _ => ?_)
    refine ARun.move (.inl rfl) rfl rfl rfl (Ev.plain rfl) optN ?_
    refine ARun.cmp rfl rfl rfl rfl (Ev.plain rfl) (Ev.plain rfl) rfl optN ?_
    refine ⟨_, _, rfl, hG, ?_⟩
    refine thenA_n ?_
    refine AWP.cond rfl (fun h1 => ?_) (fun h1 => ?_)
    · skip
      try simp [-List.getD_eq_getElem?_getD] at h1
      refine AWP.region (fun _ => ?_)
      refine ARun.move (.inl rfl) rfl rfl rfl (Ev.plain rfl) optN ?_
      refine ARun.move (.inl rfl) rfl rfl rfl (Ev.plain rfl) optN ?_
      refine ARun.callSet (j := 0) hG rfl rfl rfl rfl cf81 (Ev.plain rfl) (.cons (Ev.plain rfl) .nil) rfl (rowPut_st _ (fit_at hf (by simpa using h0)) a (by omega) h1 _ _ ((hG.at _ _).trans rfl)) rfl optN ?_
      refine ARun.move (.inr rfl) rfl rfl rfl (Ev.plain rfl) optN ?_
      refine ⟨_, _, rfl, hG, ?_⟩
      refine blockA_n ?_
      refine thenA_n ?_
      refine AWP.region (fun _ => ?_)
      first | refine ARun.arith rfl rfl rfl rfl (Ev.plain rfl) (Ev.plain rfl) rfl (fun hg => i64w (by (try simp at hg); omega)) optN ?_ | refine ARun.arith rfl rfl rfl rfl (Ev.plain rfl) (Ev.plain rfl) rfl (fun _ => rfl) optN ?_
      refine ARun.move (.inl rfl) rfl rfl rfl (Ev.plain rfl) optN ?_
      refine ⟨_, _, rfl, hG, ?_⟩
      refine thenA_n ⟨rfl, (k + 1, rowStep a (l.getD k default)), _, ?_, ?_, rfl, ?_⟩
      · refine ⟨by omega, ?_⟩
        show rowStep a _ = _
        rw [rowS_succ l k (by omega), ha]
      · repeat (first | exact .nil | refine .cons rfl ?_)
      · dsimp only; omega
    · skip
      try simp [-List.getD_eq_getElem?_getD] at h1
      refine AWP.skip ?_
      refine blockA_n ?_
      refine thenA_n ?_
      refine AWP.region (fun _ => ?_)
      first | refine ARun.arith rfl rfl rfl rfl (Ev.plain rfl) (Ev.plain rfl) rfl (fun hg => i64w (by (try simp at hg); omega)) optN ?_ | refine ARun.arith rfl rfl rfl rfl (Ev.plain rfl) (Ev.plain rfl) rfl (fun _ => rfl) optN ?_
      refine ARun.move (.inl rfl) rfl rfl rfl (Ev.plain rfl) optN ?_
      refine ⟨_, _, rfl, hG, ?_⟩
      refine thenA_n ⟨rfl, (k + 1, a), _, ?_, ?_, rfl, ?_⟩
      · refine ⟨by omega, ?_⟩
        show a = _
        rw [rowS_succ l k (by omega), ← ha, rowStep, if_neg h1]
      · repeat (first | exact .nil | refine .cons rfl ?_)
      · dsimp only; omega
  · skip
    simp at h0
    obtain rfl : k = l.length := by omega
    have hall := rowS_all l
    rw [← ha] at hall
    refine AWP.exit ?_
    refine thenA_x ?_
    refine thenA_x ?_
    refine blockA_h ?_
    refine thenA_n ?_
    refine AWP.seq ?_
    refine AWP.seq ?_
    refine AWP.region (fun _ => ?_)
    refine ARun.move (.inl rfl) rfl rfl rfl (Ev.plain rfl) optN ?_
    refine ARun.cmp rfl rfl rfl rfl (Ev.plain rfl) (Ev.plain rfl) rfl optN ?_
    refine ⟨_, _, rfl, hG, ?_⟩
    refine thenA_n ?_
    refine AWP.cond rfl (fun h2 => ?_) (fun h2 => ?_)
    · skip
      try simp [-List.getD_eq_getElem?_getD] at h2
      refine AWP.seq ?_
      refine AWP.region (fun _ => ?_)
      refine ARun.move (.inl rfl) rfl rfl rfl (Ev.plain rfl) optN ?_
      refine ARun.move (.inr rfl) rfl rfl rfl (Ev.plain rfl) optN ?_
      refine ARun.move (.inr rfl) rfl rfl rfl (Ev.plain rfl) optN ?_
      refine ⟨_, _, rfl, hG, ?_⟩
      refine thenA_n ?_
      refine AWP.ret ?_
      refine thenA_r ?_
      refine endF.many (.inr rfl) (rs := [.tmp 2, .tmp 3]) rfl (.cons (.tmp rfl) (.cons (.tmp rfl) .nil)) (by simp) ?_ hN
      rw [if_neg h2] at hall
      rw [← hall]; rfl
    · skip
      try simp [-List.getD_eq_getElem?_getD] at h2
      refine AWP.skip ?_
      refine thenA_n ?_
      refine AWP.seq ?_
      refine AWP.region (fun _ => ?_)
      refine ARun.callSet (j := 0) hG rfl rfl rfl rfl cf56 (Ev.plain rfl) (.cons (Ev.plain rfl) .nil) rfl (bld_string (n := 2) (bs a.1) [] _ _ ((hG.at _ _).trans rfl)) rfl optN ?_
      refine ARun.move (.inr rfl) rfl rfl rfl (Ev.plain rfl) optN ?_
      refine ARun.move (.inr rfl) rfl rfl rfl (Ev.plain rfl) optN ?_
      refine ⟨_, _, rfl, hG, ?_⟩
      refine thenA_n ?_
      refine AWP.ret ?_
      refine endF.many (.inr rfl) (rs := [.tmp 2, .tmp 3]) rfl (.cons (.tmp rfl) (.cons (.tmp rfl) .nil)) (by simp) ?_ hN
      rw [if_pos h2] at hall
      rw [← hall]; rfl
theorem map_snocI (l : List Int) (x : Int) : l.map (AV.int .i64) ++ [AV.int .i64 x] = (l ++ [x]).map (AV.int .i64) := by simp
set_option maxHeartbeats 1000000 in
theorem unrowN_fn (s : ByteArray) (p top : Int) (hs : s.size ≤ 1000000) : FnP Tryd.prog 67 [.str s, .int .i64 p, .int .i64 top] (.tup [.sl ((unrowN (bl s) p top).1.map (AV.int .i64)), .int .i64 (unrowN (bl s) p top).2.1, .int .i64 (unrowN (bl s) p top).2.2]) := by
  have hbd := getN_bd (bl s) p (by rw [bl_len]; exact hs)
  have hdef : unrowN (bl s) p top = (if (getN (bl s) p).2.2 ≠ 0 then (([], 0, (getN (bl s) p).2.2) : List Int × Int × Int) else if (getN (bl s) p).1 > 1000 ∨ ((getN (bl s) p).1 > top ∧ (getN (bl s) p).1 > 0) then ([], 0, 3) else unrowF (bl s) (getN (bl s) p).1.toNat (getN (bl s) p).2.1 []) := rfl
  refine FnP.of Tryd.func67 rfl rfl (by simp) (by simp [AV.cells]) (fun G hG => ?_)
  have hN : NoH G.length (.tup [.sl ((unrowN (bl s) p top).1.map (AV.int .i64)), .int .i64 (unrowN (bl s) p top).2.1, .int .i64 (unrowN (bl s) p top).2.2]) := (by simp [AV.cells])
  refine AWP.seq ?_
  refine AWP.region (fun _ => ?_)
  refine ARun.nilOwn (e := 3) (z := 1) (j := 0) hG rfl ⟨.inl rfl, rfl⟩ (fun _ => rfl) rfl rfl rfl optN ?_
  refine ARun.move (.inr rfl) rfl rfl rfl (Ev.plain rfl) optN ?_
  refine ARun.move (.inr rfl) rfl rfl rfl (Ev.plain rfl) optN ?_
  refine ⟨_, _, rfl, hG, ?_⟩
  refine thenA_n ?_
  refine AWP.seq ?_
  refine AWP.region (fun _ => ?_)
  refine ARun.move (.inl rfl) rfl rfl rfl (Ev.plain rfl) optN ?_
  refine ARun.move (.inl rfl) rfl rfl rfl (Ev.plain rfl) optN ?_
  refine ARun.call rfl rfl rfl rfl cf65 (Ev.plain rfl) (.cons (Ev.plain rfl) (.cons (Ev.plain rfl) .nil)) rfl (fun hg => get_fn s p hs) optN ?_
  refine ARun.move (.inl rfl) rfl rfl rfl (Ev.plain rfl) optN ?_
  refine ARun.extract rfl rfl rfl rfl (Ev.plain rfl) rfl optN ?_
  refine ARun.extract rfl rfl rfl rfl (Ev.plain rfl) rfl optN ?_
  refine ARun.extract rfl rfl rfl rfl (Ev.plain rfl) rfl optN ?_
  refine ARun.move (.inr rfl) rfl rfl rfl (Ev.plain rfl) optN ?_
  refine ARun.move (.inr rfl) rfl rfl rfl (Ev.plain rfl) optN ?_
  refine ARun.move (.inr rfl) rfl rfl rfl (Ev.plain rfl) optN ?_
  refine ⟨_, _, rfl, hG, ?_⟩
  refine thenA_n ?_
  refine AWP.seq ?_
  refine AWP.seq ?_
  refine AWP.region (fun _ => ?_)
  refine ARun.move (.inl rfl) rfl rfl rfl (Ev.plain rfl) optN ?_
  refine ARun.cmp rfl rfl rfl rfl (Ev.plain rfl) (Ev.plain rfl) rfl optN ?_
  refine ⟨_, _, rfl, hG, ?_⟩
  refine thenA_n ?_
  refine AWP.cond rfl (fun h0 => ?_) (fun h0 => ?_)
  · skip
    have h0' : (getN (bl s) p).2.2 ≠ 0 := by simpa using h0
    refine AWP.seq ?_
    refine AWP.region (fun _ => ?_)
    refine ARun.move (.inl rfl) rfl rfl rfl (Ev.plain rfl) optN ?_
    refine ARun.move (.inr rfl) rfl rfl rfl (Ev.plain rfl) optN ?_
    refine ARun.move (.inr rfl) rfl rfl rfl (Ev.plain rfl) optN ?_
    refine ARun.move (.inr rfl) rfl rfl rfl (Ev.plain rfl) optN ?_
    refine ⟨_, _, rfl, hG, ?_⟩
    refine thenA_n ?_
    refine AWP.ret ?_
    refine thenA_r ?_
    refine endF.many (.inr rfl) (rs := [.tmp 6, .tmp 7, .tmp 8]) rfl (.cons (.tmp rfl) (.cons (.tmp rfl) (.cons (.tmp rfl) .nil))) (by simp) ?_ hN
    rw [hdef, if_pos h0']; rfl
  · skip
    simp at h0
    have hlen : (getN (bl s) p).1.toNat ≤ (getN (bl s) p).1.toNat := Nat.le_refl _
    rw [if_neg (by simp [h0])] at hdef
    refine AWP.skip ?_
    refine thenA_n ?_
    refine AWP.seq ?_
    refine AWP.seq ?_
    refine AWP.region (fun _ => ?_)
    refine ARun.move (.inl rfl) rfl rfl rfl (Ev.plain rfl) optN ?_
    refine ARun.move (.inl rfl) rfl rfl rfl (Ev.plain rfl) optN ?_
    refine ARun.minmax rfl rfl rfl rfl (Ev.plain rfl) (Ev.plain rfl) (.inr ⟨rfl, rfl⟩) optN ?_
    refine ARun.minmax rfl rfl rfl rfl (Ev.plain rfl) (Ev.plain rfl) (.inl ⟨rfl, rfl⟩) optN ?_
    refine ARun.cmp rfl rfl rfl rfl (Ev.plain rfl) (Ev.plain rfl) rfl optN ?_
    refine ⟨_, _, rfl, hG, ?_⟩
    refine thenA_n ?_
    refine AWP.cond rfl (fun h1 => ?_) (fun h1 => ?_)
    · skip
      have h1' : (getN (bl s) p).1 > 1000 ∨ ((getN (bl s) p).1 > top ∧ (getN (bl s) p).1 > 0) := by simp at h1; omega
      rw [if_pos h1'] at hdef
      refine AWP.seq ?_
      refine AWP.region (fun _ => ?_)
      refine ARun.move (.inr rfl) rfl rfl rfl (Ev.plain rfl) optN ?_
      refine ARun.move (.inr rfl) rfl rfl rfl (Ev.plain rfl) optN ?_
      refine ARun.move (.inr rfl) rfl rfl rfl (Ev.plain rfl) optN ?_
      refine ⟨_, _, rfl, hG, ?_⟩
      refine thenA_n ?_
      refine AWP.ret ?_
      refine thenA_r ?_
      refine endF.many (.inr rfl) (rs := [.tmp 6, .tmp 7, .tmp 8]) rfl (.cons (.tmp rfl) (.cons (.tmp rfl) (.cons (.tmp rfl) .nil))) (by simp) ?_ hN
      rw [hdef]; rfl
    · skip
      have h1' : ¬ ((getN (bl s) p).1 > 1000 ∨ ((getN (bl s) p).1 > top ∧ (getN (bl s) p).1 > 0)) := by simp at h1; omega
      rw [if_neg h1'] at hdef
      refine AWP.skip ?_
      refine thenA_n ?_
      refine AWP.seq ?_
      refine AWP.seq ?_
      refine AWP.region (fun _ => ?_)
      refine ARun.move (.inl rfl) rfl rfl rfl (Ev.plain rfl) optN ?_
      refine ARun.move (.inl rfl) rfl rfl rfl (Ev.plain rfl) optN ?_
      refine ⟨_, _, rfl, hG, ?_⟩
      refine thenA_n ?_
      refine AWP.block ?_
      refine AWP.rounds (fun st => st.1 ≤ (getN (bl s) p).1.toNat ∧ st.2.2.2.length = st.1 ∧ unrowF (bl s) ((getN (bl s) p).1.toNat - st.1) st.2.2.1 st.2.2.2 = unrowF (bl s) (getN (bl s) p).1.toNat (getN (bl s) p).2.1 []) (fun st => [(0, .str s), (6, .own (G.length + 0) st.2.1), (7, .int .i64 st.2.2.1), (28, .int .i64 (getN (bl s) p).1), (29, .int .i64 (st.1 : Int))]) (fun st => [.row st.2.1 3 1 (st.2.2.2.map (AV.int .i64))]) (fun st => (getN (bl s) p).1.toNat - st.1) 1 ((0, 0, (getN (bl s) p).2.1, []) : Nat × Nat × Int × List Int) ⟨Nat.zero_le _, rfl, rfl⟩ (by repeat (first | exact .nil | refine .cons rfl ?_)) rfl (fun _ => rfl) (fun _ => ⟨by simp [AV.cells], by simp [AO.conts, AV.cells]; rintro y a _ rfl; simp⟩) (fun st hI => ?_)
      obtain ⟨k, g, to, acc⟩ := st
      dsimp only at hI
      show AWP _ _ _ _ _ [(0, .str s), (6, .own (G.length + 0) g), (7, .int .i64 to), (28, .int .i64 (getN (bl s) p).1), (29, .int .i64 (k : Int))] _ [.row g 3 1 (acc.map (AV.int .i64))]
      obtain ⟨hk, hal, hu⟩ := hI
      refine AWP.seq ?_
      refine AWP.region (fun _ => ?_)
      refine ARun.cmp rfl rfl rfl rfl (Ev.plain rfl) (Ev.plain rfl) rfl optN ?_
      refine ⟨_, _, rfl, hG, ?_⟩
      refine thenA_n ?_
      refine AWP.seq ?_
      refine AWP.cond rfl (fun h2 => ?_) (fun h2 => ?_)
      · skip
        simp at h2
        refine AWP.skip ?_
        refine thenA_n ?_
        refine AWP.seq ?_
        refine AWP.block ?_
        refine AWP.seq ?_
        refine AWP.region (fun _ => ?_)
        refine ARun.move (.inl rfl) rfl rfl rfl (Ev.plain rfl) optN ?_
        refine ARun.move (.inl rfl) rfl rfl rfl (Ev.plain rfl) optN ?_
        refine ARun.call rfl rfl rfl rfl cf65 (Ev.plain rfl) (.cons (Ev.plain rfl) (.cons (Ev.plain rfl) .nil)) rfl (fun hg => get_fn s to hs) optN ?_
        refine ARun.move (.inl rfl) rfl rfl rfl (Ev.plain rfl) optN ?_
        refine ARun.extract rfl rfl rfl rfl (Ev.plain rfl) rfl optN ?_
        refine ARun.extract rfl rfl rfl rfl (Ev.plain rfl) rfl optN ?_
        refine ARun.extract rfl rfl rfl rfl (Ev.plain rfl) rfl optN ?_
        refine ARun.move (.inr rfl) rfl rfl rfl (Ev.plain rfl) optN ?_
        refine ARun.move (.inr rfl) rfl rfl rfl (Ev.plain rfl) optN ?_
        refine ARun.move (.inr rfl) rfl rfl rfl (Ev.plain rfl) optN ?_
        refine ⟨_, _, rfl, hG, ?_⟩
        refine thenA_n ?_
        refine AWP.seq ?_
        refine AWP.seq ?_
        refine AWP.region (fun _ => ?_)
        refine ARun.move (.inl rfl) rfl rfl rfl (Ev.plain rfl) optN ?_
        refine ARun.cmp rfl rfl rfl rfl (Ev.plain rfl) (Ev.plain rfl) rfl optN ?_
        refine ⟨_, _, rfl, hG, ?_⟩
        refine thenA_n ?_
        refine AWP.cond rfl (fun h3 => ?_) (fun h3 => ?_)
        · skip
          have h3' : (getN (bl s) to).2.2 ≠ 0 := by simpa using h3
          rw [show (getN (bl s) p).1.toNat - k = ((getN (bl s) p).1.toNat - (k + 1)) + 1 by omega, unrow_step, if_pos h3'] at hu
          refine AWP.seq ?_
          refine AWP.region (fun _ => ?_)
          refine ARun.move (.inl rfl) rfl rfl rfl (Ev.plain rfl) optN ?_
          refine ARun.move (.inr rfl) rfl rfl rfl (Ev.plain rfl) optN ?_
          refine ARun.move (.inr rfl) rfl rfl rfl (Ev.plain rfl) optN ?_
          refine ARun.move (.inr rfl) rfl rfl rfl (Ev.plain rfl) optN ?_
          refine ⟨_, _, rfl, hG, ?_⟩
          refine thenA_n ?_
          refine AWP.ret ?_
          refine thenA_r ?_
          refine blockA_r ?_
          refine thenA_r ?_
          refine thenA_r ?_
          refine blockA_r ?_
          refine thenA_r ?_
          refine endF.many (.inr rfl) (rs := [.tmp 6, .tmp 7, .tmp 8]) rfl (.cons (.tmp rfl) (.cons (.tmp rfl) (.cons (.tmp rfl) .nil))) (by simp) ?_ hN
          rw [hdef, ← hu]; rfl
        · skip
          simp at h3
          rw [show (getN (bl s) p).1.toNat - k = ((getN (bl s) p).1.toNat - (k + 1)) + 1 by omega, unrow_step, if_neg (by simp [h3])] at hu
          refine AWP.skip ?_
          refine thenA_n ?_
          refine AWP.region (fun _ => ?_)
          refine ARun.move (.inl rfl) rfl rfl rfl (Ev.plain rfl) optN ?_
          refine ARun.move (.inl rfl) rfl rfl rfl (Ev.plain rfl) optN ?_
          refine ARun.buildSl rfl rfl rfl rfl Tryd.underlying23 sz3 zv3 rfl (by decide) (.cons (Ev.plain rfl) .nil) rfl rfl rfl rfl (by decide) rfl rfl optN ?_
          refine ARun.appendL hG rfl rfl rfl rfl Tryd.underlying23 ti3 rfl (by decide) (Ev.plain rfl) (Ev.plain rfl) rfl rfl (by simp [maxLen]; omega) (by simp; omega) (map_snocI acc _) optN rfl ?_
          refine ARun.move (.inl rfl) rfl rfl rfl (Ev.plain rfl) optN ?_
          refine ARun.move (.inr rfl) rfl rfl rfl (Ev.plain rfl) optN ?_
          refine ARun.move (.inr rfl) rfl rfl rfl (Ev.plain rfl) optN ?_
          refine ⟨_, _, rfl, hG, ?_⟩
          refine blockA_n ?_
          refine thenA_n ?_
          refine AWP.region (fun _ => ?_)
          first | refine ARun.arith rfl rfl rfl rfl (Ev.plain rfl) (Ev.plain rfl) rfl (fun hg => i64w (by (try simp at hg); omega)) optN ?_ | refine ARun.arith rfl rfl rfl rfl (Ev.plain rfl) (Ev.plain rfl) rfl (fun _ => rfl) optN ?_
          refine ARun.move (.inl rfl) rfl rfl rfl (Ev.plain rfl) optN ?_
          refine ⟨_, _, rfl, hG, ?_⟩
          refine thenA_n ⟨rfl, (k + 1, g + 1, (getN (bl s) to).2.1, acc ++ [(getN (bl s) to).1]), _, ?_, ?_, rfl, ?_⟩
          · exact ⟨by dsimp only; omega, by simp [hal], hu⟩
          · repeat (first | exact .nil | refine .cons rfl ?_)
          · dsimp only; omega
      · skip
        simp at h2
        have hkk : (getN (bl s) p).1.toNat - k = 0 := by omega
        rw [hkk] at hu
        refine AWP.exit ?_
        refine thenA_x ?_
        refine thenA_x ?_
        refine blockA_h ?_
        refine thenA_n ?_
        refine AWP.seq ?_
        refine AWP.region (fun _ => ?_)
        refine ARun.move (.inl rfl) rfl rfl rfl (Ev.plain rfl) optN ?_
        refine ARun.move (.inl rfl) rfl rfl rfl (Ev.plain rfl) optN ?_
        refine ARun.move (.inr rfl) rfl rfl rfl (Ev.plain rfl) optN ?_
        refine ARun.move (.inr rfl) rfl rfl rfl (Ev.plain rfl) optN ?_
        refine ARun.move (.inr rfl) rfl rfl rfl (Ev.plain rfl) optN ?_
        refine ⟨_, _, rfl, hG, ?_⟩
        refine thenA_n ?_
        refine AWP.frzOwn 6 hG rfl rfl (by decide) (by simp [maxLen]; omega) rfl ?_
        refine AWP.ret ?_
        refine endF.many (.inr rfl) (rs := [.tmp 6, .tmp 7, .tmp 8]) rfl (.cons (.tmp rfl) (.cons (.tmp rfl) (.cons (.tmp rfl) .nil))) (by simp) ?_ hN
        rw [hdef, ← hu]; rfl
set_option maxHeartbeats 1000000 in
theorem unrowR_fn (s : ByteArray) (p top : Int) (hs : s.size ≤ 1000000) : FnP Tryd.prog 73 [.str s, .int .i64 p, .int .i64 top] (.tup [.sl ((unrowN (bl s) p top).1.map (AV.int .i64)), .int .i64 (unrowN (bl s) p top).2.1, .int .i64 (unrowN (bl s) p top).2.2]) := by
  have hbd := getN_bd (bl s) p (by rw [bl_len]; exact hs)
  have hdef : unrowN (bl s) p top = (if (getN (bl s) p).2.2 ≠ 0 then (([], 0, (getN (bl s) p).2.2) : List Int × Int × Int) else if (getN (bl s) p).1 > 1000 ∨ ((getN (bl s) p).1 > top ∧ (getN (bl s) p).1 > 0) then ([], 0, 3) else unrowF (bl s) (getN (bl s) p).1.toNat (getN (bl s) p).2.1 []) := rfl
  refine FnP.of Tryd.func73 rfl rfl (by simp) (by simp [AV.cells]) (fun G hG => ?_)
  have hN : NoH G.length (.tup [.sl ((unrowN (bl s) p top).1.map (AV.int .i64)), .int .i64 (unrowN (bl s) p top).2.1, .int .i64 (unrowN (bl s) p top).2.2]) := (by simp [AV.cells])
  refine AWP.seq ?_
  refine AWP.region (fun _ => ?_)
  refine ARun.move (.inr rfl) rfl rfl rfl (Ev.plain rfl) optN ?_
  refine ARun.move (.inr rfl) rfl rfl rfl (Ev.plain rfl) optN ?_
  refine ARun.move (.inr rfl) rfl rfl rfl (Ev.plain rfl) optN ?_
  refine ⟨_, _, rfl, hG, ?_⟩
  refine thenA_n ?_
  refine AWP.seq ?_
  refine AWP.region (fun _ => ?_)
  refine ARun.move (.inl rfl) rfl rfl rfl (Ev.plain rfl) optN ?_
  refine ARun.move (.inl rfl) rfl rfl rfl (Ev.plain rfl) optN ?_
  refine ARun.call rfl rfl rfl rfl cf71 (Ev.plain rfl) (.cons (Ev.plain rfl) (.cons (Ev.plain rfl) .nil)) rfl (fun hg => getR_fn s p hs) optN ?_
  refine ARun.move (.inl rfl) rfl rfl rfl (Ev.plain rfl) optN ?_
  refine ARun.extract rfl rfl rfl rfl (Ev.plain rfl) rfl optN ?_
  refine ARun.extract rfl rfl rfl rfl (Ev.plain rfl) rfl optN ?_
  refine ARun.extract rfl rfl rfl rfl (Ev.plain rfl) rfl optN ?_
  refine ARun.move (.inr rfl) rfl rfl rfl (Ev.plain rfl) optN ?_
  refine ARun.move (.inr rfl) rfl rfl rfl (Ev.plain rfl) optN ?_
  refine ARun.move (.inr rfl) rfl rfl rfl (Ev.plain rfl) optN ?_
  refine ⟨_, _, rfl, hG, ?_⟩
  refine thenA_n ?_
  refine AWP.seq ?_
  refine AWP.seq ?_
  refine AWP.region (fun _ => ?_)
  refine ARun.move (.inl rfl) rfl rfl rfl (Ev.plain rfl) optN ?_
  refine ARun.cmp rfl rfl rfl rfl (Ev.plain rfl) (Ev.plain rfl) rfl optN ?_
  refine ⟨_, _, rfl, hG, ?_⟩
  refine thenA_n ?_
  refine AWP.cond rfl (fun h0 => ?_) (fun h0 => ?_)
  · skip
    have h0' : (getN (bl s) p).2.2 ≠ 0 := by simpa using h0
    refine AWP.seq ?_
    refine AWP.region (fun _ => ?_)
    refine ARun.move (.inl rfl) rfl rfl rfl (Ev.plain rfl) optN ?_
    refine ARun.move (.inr rfl) rfl rfl rfl (Ev.plain rfl) optN ?_
    refine ARun.move (.inr rfl) rfl rfl rfl (Ev.plain rfl) optN ?_
    refine ARun.move (.inr rfl) rfl rfl rfl (Ev.plain rfl) optN ?_
    refine ⟨_, _, rfl, hG, ?_⟩
    refine thenA_n ?_
    refine AWP.ret ?_
    refine thenA_r ?_
    refine endF.many (.inr rfl) (rs := [.tmp 6, .tmp 7, .tmp 8]) rfl (.cons (.tmp rfl) (.cons (.tmp rfl) (.cons (.tmp rfl) .nil))) (by simp) ?_ hN
    rw [hdef, if_pos h0']; rfl
  · skip
    simp at h0
    have hlen : (getN (bl s) p).1.toNat ≤ (getN (bl s) p).1.toNat := Nat.le_refl _
    rw [if_neg (by simp [h0])] at hdef
    refine AWP.skip ?_
    refine thenA_n ?_
    refine AWP.seq ?_
    refine AWP.seq ?_
    refine AWP.region (fun _ => ?_)
    refine ARun.move (.inl rfl) rfl rfl rfl (Ev.plain rfl) optN ?_
    refine ARun.cmp rfl rfl rfl rfl (Ev.plain rfl) (Ev.plain rfl) rfl optN ?_
    refine ARun.move (.inl rfl) rfl rfl rfl (Ev.plain rfl) optN ?_
    refine ARun.move (.inl rfl) rfl rfl rfl (Ev.plain rfl) optS ?_
    refine ARun.move (.inl rfl) rfl rfl rfl (Ev.plain rfl) optS ?_
    refine ARun.cmp rfl rfl rfl rfl (Ev.opt rfl (fun h => h)) (Ev.opt rfl (fun h => h)) rfl optS ?_
    refine ARun.move (.inl rfl) rfl rfl rfl (Ev.opt rfl (fun h => h)) optS ?_
    refine ARun.move (.inl rfl) rfl rfl rfl (Ev.plain rfl) optS ?_
    refine ARun.cmp rfl rfl rfl rfl (Ev.opt rfl (fun h => h)) (Ev.plain rfl) rfl optS ?_
    refine ARun.pick rfl rfl rfl rfl (Ev.opt rfl (fun h => h)) (Ev.opt rfl (by first | exact pkT | exact pkT2 | simp +contextual)) (Ev.plain rfl) (andB _ _) optS ?_
    refine ARun.pick rfl rfl rfl rfl (Ev.plain rfl) (Ev.plain rfl) (Ev.opt rfl (by first | exact pkF | exact pkF2 | simp +contextual)) (orB _ _) optN ?_
    refine ⟨_, _, rfl, hG, ?_⟩
    refine thenA_n ?_
    refine AWP.cond rfl (fun h1 => ?_) (fun h1 => ?_)
    · skip
      have h1' : (getN (bl s) p).1 > 1000 ∨ ((getN (bl s) p).1 > top ∧ (getN (bl s) p).1 > 0) := by simp at h1; omega
      rw [if_pos h1'] at hdef
      refine AWP.seq ?_
      refine AWP.region (fun _ => ?_)
      refine ARun.move (.inr rfl) rfl rfl rfl (Ev.plain rfl) optN ?_
      refine ARun.move (.inr rfl) rfl rfl rfl (Ev.plain rfl) optN ?_
      refine ARun.move (.inr rfl) rfl rfl rfl (Ev.plain rfl) optN ?_
      refine ⟨_, _, rfl, hG, ?_⟩
      refine thenA_n ?_
      refine AWP.ret ?_
      refine thenA_r ?_
      refine endF.many (.inr rfl) (rs := [.tmp 6, .tmp 7, .tmp 8]) rfl (.cons (.tmp rfl) (.cons (.tmp rfl) (.cons (.tmp rfl) .nil))) (by simp) ?_ hN
      rw [hdef]; rfl
    · skip
      have h1' : ¬ ((getN (bl s) p).1 > 1000 ∨ ((getN (bl s) p).1 > top ∧ (getN (bl s) p).1 > 0)) := by simp at h1; omega
      rw [if_neg h1'] at hdef
      refine AWP.skip ?_
      refine thenA_n ?_
      refine AWP.seq ?_
      refine AWP.region (fun _ => ?_)
      refine ARun.nilOwn (e := 3) (z := 1) (j := 0) hG rfl ⟨.inl rfl, rfl⟩ (fun _ => rfl) rfl rfl rfl optN ?_
      refine ⟨_, _, rfl, hG, ?_⟩
      refine thenA_n ?_
      refine AWP.seq ?_
      refine AWP.seq ?_
      refine AWP.region (fun _ => ?_)
      refine ARun.move (.inr rfl) rfl rfl rfl (Ev.plain rfl) optN ?_
      refine ⟨_, _, rfl, hG, ?_⟩
      refine thenA_n ?_
      refine AWP.block ?_
      refine AWP.rounds (fun st => st.1 ≤ (getN (bl s) p).1.toNat ∧ st.2.2.2.length = st.1 ∧ unrowF (bl s) ((getN (bl s) p).1.toNat - st.1) st.2.2.1 st.2.2.2 = unrowF (bl s) (getN (bl s) p).1.toNat (getN (bl s) p).2.1 []) (fun st => [(0, .str s), (12, .own (G.length + 0) st.2.1), (10, .int .i64 st.2.2.1), (9, .int .i64 (getN (bl s) p).1), (13, .int .i64 (st.1 : Int))]) (fun st => [.row st.2.1 3 1 (st.2.2.2.map (AV.int .i64))]) (fun st => (getN (bl s) p).1.toNat - st.1) 1 ((0, 0, (getN (bl s) p).2.1, []) : Nat × Nat × Int × List Int) ⟨Nat.zero_le _, rfl, rfl⟩ (by repeat (first | exact .nil | refine .cons rfl ?_)) rfl (fun _ => rfl) (fun _ => ⟨by simp [AV.cells], by simp [AO.conts, AV.cells]; rintro y a _ rfl; simp⟩) (fun st hI => ?_)
      obtain ⟨k, g, to, acc⟩ := st
      dsimp only at hI
      show AWP _ _ _ _ _ [(0, .str s), (12, .own (G.length + 0) g), (10, .int .i64 to), (9, .int .i64 (getN (bl s) p).1), (13, .int .i64 (k : Int))] _ [.row g 3 1 (acc.map (AV.int .i64))]
      obtain ⟨hk, hal, hu⟩ := hI
      refine AWP.seq ?_
      refine AWP.seq ?_
      refine AWP.region (fun _ => ?_)
      refine ARun.move (.inl rfl) rfl rfl rfl (Ev.plain rfl) optN ?_
      refine ARun.move (.inl rfl) rfl rfl rfl (Ev.plain rfl) optN ?_
      refine ARun.cmp rfl rfl rfl rfl (Ev.plain rfl) (Ev.plain rfl) rfl optN ?_
      refine ⟨_, _, rfl, hG, ?_⟩
      refine thenA_n ?_
      refine AWP.cond rfl (fun h2 => ?_) (fun h2 => ?_)
      · skip
        simp at h2
        refine AWP.skip ?_
        refine thenA_n ?_
        refine AWP.seq ?_
        refine AWP.block ?_
        refine AWP.seq ?_
        refine AWP.region (fun _ => ?_)
        refine ARun.move (.inl rfl) rfl rfl rfl (Ev.plain rfl) optN ?_
        refine ARun.move (.inl rfl) rfl rfl rfl (Ev.plain rfl) optN ?_
        refine ARun.call rfl rfl rfl rfl cf71 (Ev.plain rfl) (.cons (Ev.plain rfl) (.cons (Ev.plain rfl) .nil)) rfl (fun hg => getR_fn s to hs) optN ?_
        refine ARun.move (.inl rfl) rfl rfl rfl (Ev.plain rfl) optN ?_
        refine ARun.extract rfl rfl rfl rfl (Ev.plain rfl) rfl optN ?_
        refine ARun.extract rfl rfl rfl rfl (Ev.plain rfl) rfl optN ?_
        refine ARun.extract rfl rfl rfl rfl (Ev.plain rfl) rfl optN ?_
        refine ARun.move (.inr rfl) rfl rfl rfl (Ev.plain rfl) optN ?_
        refine ARun.move (.inr rfl) rfl rfl rfl (Ev.plain rfl) optN ?_
        refine ARun.move (.inr rfl) rfl rfl rfl (Ev.plain rfl) optN ?_
        refine ⟨_, _, rfl, hG, ?_⟩
        refine thenA_n ?_
        refine AWP.seq ?_
        refine AWP.seq ?_
        refine AWP.region (fun _ => ?_)
        refine ARun.move (.inl rfl) rfl rfl rfl (Ev.plain rfl) optN ?_
        refine ARun.cmp rfl rfl rfl rfl (Ev.plain rfl) (Ev.plain rfl) rfl optN ?_
        refine ⟨_, _, rfl, hG, ?_⟩
        refine thenA_n ?_
        refine AWP.cond rfl (fun h3 => ?_) (fun h3 => ?_)
        · skip
          have h3' : (getN (bl s) to).2.2 ≠ 0 := by simpa using h3
          rw [show (getN (bl s) p).1.toNat - k = ((getN (bl s) p).1.toNat - (k + 1)) + 1 by omega, unrow_step, if_pos h3'] at hu
          refine AWP.seq ?_
          refine AWP.region (fun _ => ?_)
          refine ARun.move (.inl rfl) rfl rfl rfl (Ev.plain rfl) optN ?_
          refine ARun.move (.inr rfl) rfl rfl rfl (Ev.plain rfl) optN ?_
          refine ARun.move (.inr rfl) rfl rfl rfl (Ev.plain rfl) optN ?_
          refine ARun.move (.inr rfl) rfl rfl rfl (Ev.plain rfl) optN ?_
          refine ⟨_, _, rfl, hG, ?_⟩
          refine thenA_n ?_
          refine AWP.ret ?_
          refine thenA_r ?_
          refine blockA_r ?_
          refine thenA_r ?_
          refine thenA_r ?_
          refine blockA_r ?_
          refine thenA_r ?_
          refine endF.many (.inr rfl) (rs := [.tmp 6, .tmp 7, .tmp 8]) rfl (.cons (.tmp rfl) (.cons (.tmp rfl) (.cons (.tmp rfl) .nil))) (by simp) ?_ hN
          rw [hdef, ← hu]; rfl
        · skip
          simp at h3
          rw [show (getN (bl s) p).1.toNat - k = ((getN (bl s) p).1.toNat - (k + 1)) + 1 by omega, unrow_step, if_neg (by simp [h3])] at hu
          refine AWP.skip ?_
          refine thenA_n ?_
          refine AWP.seq ?_
          refine AWP.region (fun _ => ?_)
          refine ARun.move (.inl rfl) rfl rfl rfl (Ev.plain rfl) optN ?_
          refine ARun.move (.inl rfl) rfl rfl rfl (Ev.plain rfl) optN ?_
          refine ARun.buildSl rfl rfl rfl rfl Tryd.underlying23 sz3 zv3 rfl (by decide) (.cons (Ev.plain rfl) .nil) rfl rfl rfl rfl (by decide) rfl rfl optN ?_
          refine ARun.appendL hG rfl rfl rfl rfl Tryd.underlying23 ti3 rfl (by decide) (Ev.plain rfl) (Ev.plain rfl) rfl rfl (by simp [maxLen]; omega) (by simp; omega) (map_snocI acc _) optN rfl ?_
          refine ARun.move (.inr rfl) rfl rfl rfl (Ev.plain rfl) optN ?_
          refine ⟨_, _, rfl, hG, ?_⟩
          refine thenA_n ?_
          refine AWP.region (fun _ => ?_)
          refine ARun.move (.inl rfl) rfl rfl rfl (Ev.plain rfl) optN ?_
          refine ARun.move (.inr rfl) rfl rfl rfl (Ev.plain rfl) optN ?_
          refine ⟨_, _, rfl, hG, ?_⟩
          refine blockA_n ?_
          refine thenA_n ?_
          refine AWP.region (fun _ => ?_)
          refine ARun.move (.inl rfl) rfl rfl rfl (Ev.plain rfl) optN ?_
          first | refine ARun.arith rfl rfl rfl rfl (Ev.plain rfl) (Ev.plain rfl) rfl (fun hg => i64w (by (try simp at hg); omega)) optN ?_ | refine ARun.arith rfl rfl rfl rfl (Ev.plain rfl) (Ev.plain rfl) rfl (fun _ => rfl) optN ?_
          refine ARun.move (.inr rfl) rfl rfl rfl (Ev.plain rfl) optN ?_
          refine ⟨_, _, rfl, hG, ?_⟩
          refine thenA_n ⟨rfl, (k + 1, g + 1, (getN (bl s) to).2.1, acc ++ [(getN (bl s) to).1]), _, ?_, ?_, rfl, ?_⟩
          · exact ⟨by dsimp only; omega, by simp [hal], hu⟩
          · repeat (first | exact .nil | refine .cons rfl ?_)
          · dsimp only; omega
      · skip
        simp at h2
        have hkk : (getN (bl s) p).1.toNat - k = 0 := by omega
        rw [hkk] at hu
        refine AWP.exit ?_
        refine thenA_x ?_
        refine thenA_x ?_
        refine blockA_h ?_
        refine thenA_n ?_
        refine AWP.seq ?_
        refine AWP.region (fun _ => ?_)
        refine ARun.move (.inl rfl) rfl rfl rfl (Ev.plain rfl) optN ?_
        refine ARun.move (.inl rfl) rfl rfl rfl (Ev.plain rfl) optN ?_
        refine ARun.move (.inr rfl) rfl rfl rfl (Ev.plain rfl) optN ?_
        refine ARun.move (.inr rfl) rfl rfl rfl (Ev.plain rfl) optN ?_
        refine ARun.move (.inr rfl) rfl rfl rfl (Ev.plain rfl) optN ?_
        refine ⟨_, _, rfl, hG, ?_⟩
        refine thenA_n ?_
        refine AWP.frzOwn 6 hG rfl rfl (by decide) (by simp [maxLen]; omega) rfl ?_
        refine AWP.ret ?_
        refine endF.many (.inr rfl) (rs := [.tmp 6, .tmp 7, .tmp 8]) rfl (.cons (.tmp rfl) (.cons (.tmp rfl) (.cons (.tmp rfl) .nil))) (by simp) ?_ hN
        rw [hdef, ← hu]; rfl
set_option maxHeartbeats 1000000 in
theorem rowR_fn (l : List Int) (hl : l.length ≤ 10000) (hf : ∀ x, x ∈ l → -9223372036854775808 ≤ x ∧ x ≤ 9223372036854775807) : FnP Tryd.prog 57 [.sl (l.map (AV.int .i64))] (.tup [.str (bs (rowN l).1), .int .i64 (rowN l).2]) := by
  have hp0 : FnP Tryd.prog 59 [.int .i64 ((l.map (AV.int .i64)).length : Int)] (.tup [.str (bs (putN (l.length : Int)).1), .int .i64 (putN (l.length : Int)).2]) := by rw [List.length_map]; exact putR_fn l.length (by omega)
  refine FnP.of Tryd.func57 rfl rfl (by simp) (by simp [AV.cells]) (fun G hG => ?_)
  have hN : NoH G.length (.tup [.str (bs (rowN l).1), .int .i64 (rowN l).2]) := (by simp [AV.cells])
  refine AWP.seq ?_
  refine AWP.region (fun _ => ?_)
  refine ARun.move (.inr rfl) rfl rfl rfl (Ev.plain rfl) optN ?_
  refine ARun.move (.inr rfl) rfl rfl rfl (Ev.plain rfl) optN ?_
  refine ⟨_, _, rfl, hG, ?_⟩
  refine thenA_n ?_
  refine AWP.seq ?_
  refine AWP.region (fun _ => ?_)
  refine ARun.move (.inl rfl) rfl rfl rfl (Ev.plain rfl) optN ?_
  refine ARun.lenSl rfl rfl rfl rfl Tryd.underlying23 (Ev.plain rfl) optN ?_
  refine ARun.call rfl rfl rfl rfl cf59 (Ev.plain rfl) (.cons (Ev.plain rfl) .nil) rfl (fun hg => hp0) optN ?_
  refine ARun.move (.inl rfl) rfl rfl rfl (Ev.plain rfl) optN ?_
  refine ARun.extract rfl rfl rfl rfl (Ev.plain rfl) rfl optN ?_
  refine ARun.extract rfl rfl rfl rfl (Ev.plain rfl) rfl optN ?_
  refine ARun.move (.inr rfl) rfl rfl rfl (Ev.plain rfl) optN ?_
  refine ARun.move (.inr rfl) rfl rfl rfl (Ev.plain rfl) optN ?_
  refine ⟨_, _, rfl, hG, ?_⟩
  refine thenA_n ?_
  refine AWP.seq ?_
  refine AWP.seq ?_
  refine AWP.region (fun _ => ?_)
  refine ARun.move (.inr rfl) rfl rfl rfl (Ev.plain rfl) optN ?_
  refine ⟨_, _, rfl, hG, ?_⟩
  refine thenA_n ?_
  refine AWP.block ?_
  refine AWP.rounds (fun k => k ≤ l.length ∧ (rowS l k).2 = 0) (fun k => [(0, .sl (l.map (AV.int .i64))), (4, .str (bs (rowS l k).1)), (6, .int .i64 (k : Int))]) (fun k => []) (fun k => l.length - k) 0 0 ⟨Nat.zero_le _, rfl⟩ (by repeat (first | exact .nil | refine .cons rfl ?_)) rfl (fun _ => rfl) (fun _ => ⟨by simp [AV.cells], by simp⟩) (fun k hI => ?_)
  obtain ⟨hk, ha⟩ := hI
  have hal := rowS_len l k
  refine AWP.seq ?_
  refine AWP.seq ?_
  refine AWP.region (fun _ => ?_)
  refine ARun.move (.inl rfl) rfl rfl rfl (Ev.plain rfl) optN ?_
  refine ARun.move (.inl rfl) rfl rfl rfl (Ev.plain rfl) optN ?_
  refine ARun.lenSl rfl rfl rfl rfl Tryd.underlying23 (Ev.plain rfl) optN ?_
  refine ARun.cmp rfl rfl rfl rfl (Ev.plain rfl) (Ev.plain rfl) rfl optN ?_
  refine ⟨_, _, rfl, hG, ?_⟩
  refine thenA_n ?_
  refine AWP.cond rfl (fun h0 => ?_) (fun h0 => ?_)
  · skip
    try simp [-List.getD_eq_getElem?_getD] at h0
    refine AWP.skip ?_
    refine thenA_n ?_
    refine AWP.seq ?_
    refine AWP.block ?_
    refine AWP.seq ?_
    refine AWP.region (fun _ => ?_)
    refine ARun.move (.inl rfl) rfl rfl rfl (Ev.plain rfl) optN ?_
    refine ARun.move (.inl rfl) rfl rfl rfl (Ev.plain rfl) optN ?_
    first | refine ARun.indexSl rfl rfl rfl rfl Tryd.underlying23 sz3 (Ev.plain rfl) (Ev.plain rfl) (fun _ => rfl) (fun hg => getMap _ _ _ (by (try simp at hg); omega)) rfl rfl optN ?_ | refine ARun.indexSl rfl rfl rfl rfl Tryd.underlying23 sz3 (Ev.plain rfl) (Ev.plain rfl) (fun hg => ofNonneg (by (try simp at hg); omega)) (fun hg => getMap _ _ _ (by (try simp at hg); omega)) rfl rfl optN ?_
    refine ARun.loadPe rfl rfl rfl rfl Tryd.underlying3 rfl (Ev.plain rfl) rfl optN ?_
    refine ARun.call rfl rfl rfl rfl cf59 (Ev.plain rfl) (.cons (Ev.plain rfl) .nil) rfl (fun hg => putR_fn _ (fit_at hf (by simpa using h0))) optN ?_
    refine ARun.move (.inl rfl) rfl rfl rfl (Ev.plain rfl) optN ?_
    refine ARun.extract rfl rfl rfl rfl (Ev.plain rfl) rfl optN ?_
    refine ARun.extract rfl rfl rfl rfl (Ev.plain rfl) rfl optN ?_
    refine ARun.move (.inr rfl) rfl rfl rfl (Ev.plain rfl) optN ?_
    refine ARun.move (.inr rfl) rfl rfl rfl (Ev.plain rfl) optN ?_
    refine ⟨_, _, rfl, hG, ?_⟩
    refine thenA_n ?_
    refine AWP.seq ?_
    refine AWP.seq ?_
    refine AWP.region (fun _ => ?_)
    refine ARun.move (.inl rfl) rfl rfl rfl (Ev.plain rfl) optN ?_
    refine ARun.cmp rfl rfl rfl rfl (Ev.plain rfl) (Ev.plain rfl) rfl optN ?_
    refine ⟨_, _, rfl, hG, ?_⟩
    refine thenA_n ?_
    refine AWP.cond rfl (fun h1 => ?_) (fun h1 => ?_)
    · skip
      try simp [-List.getD_eq_getElem?_getD] at h1
      refine AWP.seq ?_
      refine AWP.region (fun _ => ?_)
      refine ARun.move (.inl rfl) rfl rfl rfl (Ev.plain rfl) optN ?_
      refine ARun.move (.inr rfl) rfl rfl rfl (Ev.plain rfl) optN ?_
      refine ARun.move (.inr rfl) rfl rfl rfl (Ev.plain rfl) optN ?_
      refine ⟨_, _, rfl, hG, ?_⟩
      refine thenA_n ?_
      refine AWP.ret ?_
      refine thenA_r ?_
      refine blockA_r ?_
      refine thenA_r ?_
      refine thenA_r ?_
      refine blockA_r ?_
      refine thenA_r ?_
      refine endF.many (.inr rfl) (rs := [.tmp 2, .tmp 3]) rfl (.cons (.tmp rfl) (.cons (.tmp rfl) .nil)) (by simp) ?_ hN
      have h1' : ¬ (putN (l.getD k default)).2 = 0 := h1
      rw [putN_err] at h1' ⊢
      have hlt : ¬ 0 ≤ l.getD k default := by intro h; rw [if_pos h] at h1'; exact h1' rfl
      have hn : nneg l = false := by
        unfold nneg; rw [List.all_eq_false]
        refine ⟨l[k], List.getElem_mem (by omega), ?_⟩
        simp [List.getD, show k < l.length by omega] at hlt
        simp; omega
      rw [if_neg hlt, rowN, if_neg (by simp [hn])]; rfl
    · skip
      try simp [-List.getD_eq_getElem?_getD] at h1
      refine AWP.skip ?_
      refine thenA_n ?_
      refine AWP.region (fun _ => ?_)
      refine ARun.move (.inl rfl) rfl rfl rfl (Ev.plain rfl) optN ?_
      refine ARun.move (.inl rfl) rfl rfl rfl (Ev.plain rfl) optN ?_
      refine ARun.cat rfl rfl rfl rfl (Ev.plain rfl) (Ev.plain rfl) (fun hg => (by simp only [bs_size]; have := putN_len (l.getD k default); omega)) optN ?_
      refine ARun.move (.inr rfl) rfl rfl rfl (Ev.plain rfl) optN ?_
      refine ⟨_, _, rfl, hG, ?_⟩
      refine blockA_n ?_
      refine thenA_n ?_
      refine AWP.region (fun _ => ?_)
      refine ARun.move (.inl rfl) rfl rfl rfl (Ev.plain rfl) optN ?_
      first | refine ARun.arith rfl rfl rfl rfl (Ev.plain rfl) (Ev.plain rfl) rfl (fun hg => i64w (by (try simp at hg); omega)) optN ?_ | refine ARun.arith rfl rfl rfl rfl (Ev.plain rfl) (Ev.plain rfl) rfl (fun _ => rfl) optN ?_
      refine ARun.move (.inr rfl) rfl rfl rfl (Ev.plain rfl) optN ?_
      refine ⟨_, _, rfl, hG, ?_⟩
      refine thenA_n ⟨rfl, k + 1, _, ?_, ?_, rfl, ?_⟩
      · refine ⟨by omega, ?_⟩
        rw [rowS_succ l k (by omega), rowStep, if_pos ha]; exact h1
      · rw [show (rowS l (k + 1)).1 = (rowS l k).1 ++ (putN (l.getD k default)).1 by rw [rowS_succ l k (by omega), rowStep, if_pos ha], ← bs_append]
        repeat (first | exact .nil | refine .cons rfl ?_)
      · omega
  · skip
    simp at h0
    obtain rfl : k = l.length := by omega
    have hall := rowS_all l
    rw [if_pos ha] at hall
    refine AWP.exit ?_
    refine thenA_x ?_
    refine thenA_x ?_
    refine blockA_h ?_
    refine thenA_n ?_
    refine AWP.seq ?_
    refine AWP.region (fun _ => ?_)
    refine ARun.move (.inl rfl) rfl rfl rfl (Ev.plain rfl) optN ?_
    refine ARun.move (.inr rfl) rfl rfl rfl (Ev.plain rfl) optN ?_
    refine ARun.move (.inr rfl) rfl rfl rfl (Ev.plain rfl) optN ?_
    refine ⟨_, _, rfl, hG, ?_⟩
    refine thenA_n ?_
    refine AWP.ret ?_
    refine endF.many (.inr rfl) (rs := [.tmp 2, .tmp 3]) rfl (.cons (.tmp rfl) (.cons (.tmp rfl) .nil)) (by simp) ?_ hN
    rw [← hall]; rfl
end Go.Proofs.YthglnffmbbpmgaaDoor
