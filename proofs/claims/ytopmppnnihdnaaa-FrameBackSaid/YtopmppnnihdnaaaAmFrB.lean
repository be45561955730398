/- Many frames, by the abstract machine. -/
import Derived.Test.YtopmppnnihdnaaaAmFrA
namespace Go.Proofs.Ytopmppnnihdnaaa
set_option linter.unusedVariables false
set_option linter.unusedSimpArgs false
open Go.RowKit
open NumP
set_option maxRecDepth 100000
/-- the bytes of some of them -/
def jn (l : List ByteArray) (k : Nat) : List UInt8 := (l.take k).flatMap fun b => frm (bl b)
theorem jn_succ (l : List ByteArray) (k : Nat) (h : k < l.length) : jn l (k + 1) = jn l k ++ frm (bl (l.getD k default)) := by
  unfold jn; rw [List.take_succ_eq_append_getElem h, List.flatMap_append]; simp [List.getD, h]
theorem jn_mono (l : List ByteArray) (k : Nat) : (jn l k).length ≤ (jn l l.length).length := by
  unfold jn; rw [List.take_length]
  conv => rhs; rw [← List.take_append_drop k l, List.flatMap_append, List.length_append]
  omega
def szS (l : List ByteArray) (k : Nat) : Nat := ((l.take k).map ByteArray.size).sum
theorem szS_succ (l : List ByteArray) (k : Nat) (h : k < l.length) : szS l (k + 1) = szS l k + (l.getD k default).size := by
  unfold szS; rw [List.take_succ_eq_append_getElem h, List.map_append, List.sum_append]; simp [List.getD, h]
theorem szS_mono (l : List ByteArray) (k : Nat) : szS l k ≤ szS l l.length := by
  unfold szS; rw [List.take_length]
  conv => rhs; rw [← List.take_append_drop k l, List.map_append, List.sum_append]
  omega
theorem jn_len (l : List ByteArray) : ∀ k, k ≤ l.length → (jn l k).length ≤ szS l k + 13 * k := by
  intro k
  induction k with
  | zero => intro _; simp [jn]
  | succ k ih =>
    intro h
    have := ih (by omega)
    have h2 := frm_le (bl (l.getD k default))
    rw [bl_len] at h2
    rw [jn_succ l k (by omega), szS_succ l k (by omega), List.length_append]; omega
theorem szS_bd {l : List ByteArray} {M : Nat} (h : ∀ x, x ∈ l → x.size ≤ M) : ∀ k, szS l k ≤ M * k := by
  intro k
  induction k with
  | zero => simp [szS]
  | succ k ih =>
    by_cases e : k < l.length
    · rw [szS_succ l k e, Nat.mul_succ]
      have := h _ (List.getElem_mem e)
      rw [show l.getD k default = l[k] from by simp [List.getD, e]]; omega
    · have e2 : szS l (k + 1) = szS l k := by unfold szS; rw [List.take_of_length_le (by omega), List.take_of_length_le (by omega)]
      rw [e2, Nat.mul_succ]; omega
theorem joinP_bad {l : List ByteArray} {k : Nat} (hk : k < l.length) (h : (putF (l.getD k default)).2 ≠ 0) : joinP l = (⟨#[]⟩, 3) ∧ (putF (l.getD k default)).2 = 3 := by
  have hb : 20000 < (l.getD k default).size := by
    by_cases e : 20000 < (l.getD k default).size
    · exact e
    · rw [putF_ok e] at h; exact absurd rfl h
  refine ⟨?_, by rw [putF_big hb]⟩
  unfold joinP; rw [if_neg]
  intro ha
  have := List.all_eq_true.1 ha l[k] (List.getElem_mem hk)
  rw [show l.getD k default = l[k] from by simp [List.getD, hk]] at hb
  have := of_decide_eq_true this; omega
theorem putF_zero {b : ByteArray} (h : (putF b).2 = 0) : b.size ≤ 20000 ∧ (putF b).1 = bs (frm (bl b)) := by
  by_cases e : 20000 < b.size
  · rw [putF_big e] at h; simp at h
  · exact ⟨by omega, by rw [putF_ok e]⟩
theorem joinP_good {l : List ByteArray} (h : ∀ j, j < l.length → (putF (l.getD j default)).2 = 0) : joinP l = (bs (jn l l.length), 0) := by
  unfold joinP jn; rw [if_pos, List.take_length]
  rw [List.all_eq_true]
  intro x hx
  obtain ⟨j, hj, rfl⟩ := List.mem_iff_getElem.1 hx
  have := (putF_zero (h j hj)).1
  rw [show l.getD j default = l[j] from by simp [List.getD, hj]] at this
  exact decide_eq_true this
theorem writeF (a : List UInt8) (b : ByteArray) (h : (putF b).2 = 0) (ha : (a ++ frm (bl b)).length ≤ 1000000) : FnM Try.prog 22 (fun i => [.box i 0, .str (putF b).1]) [.adr 49, .buf 5 (bs a)] (.tup [.int .i64 (putF b).1.size, .raw .nilIface]) [.adr 49, .buf 5 (bs (a ++ frm (bl b)))] := by
  have hb := (putF_zero h).2
  have := writeB a (putF b).1 (by rw [hb, bs_size']; rw [List.length_append] at ha; omega)
  rw [← bs_append, ← hb]; exact this
theorem str_at {l : List ByteArray} {M : Nat} (h : ∀ x, x ∈ l → x.size ≤ M) {k : Nat} (hk : k < l.length) : (l.getD k default).size ≤ M := by
  rw [show l.getD k default = l[k] from by simp [List.getD, hk]]; exact h _ (List.getElem_mem hk)
set_option maxHeartbeats 1000000 in
theorem join_fn (l : List ByteArray) (hl : l.length ≤ 1000) (hm : ∀ x, x ∈ l → x.size ≤ maxLen) (hj : (jn l l.length).length ≤ 1000000) : FnP Try.prog 10 [.sl (l.map AV.str)] (.tup [.str (joinP l).1, .int .i64 (joinP l).2]) := by
  refine FnP.of Try.func10 rfl rfl (by simp) (by simp [AV.cells]) (fun G hG => ?_)
  have hN : NoH G.length (.tup [.str (joinP l).1, .int .i64 (joinP l).2]) := (by simp [AV.cells])
  refine AWP.seq ?_
  refine AWP.region (fun _ => ?_)
  refine ARun.move (.inr rfl) rfl rfl rfl (Ev.plain rfl) optN ?_
  refine ARun.move (.inr rfl) rfl rfl rfl (Ev.plain rfl) optN ?_
  refine ⟨_, _, rfl, hG, ?_⟩
  refine thenA_n ?_
  refine AWP.seq ?_
  refine AWP.region (fun _ => ?_)
  refine ARun.allocBld (j := 0) (e := 5) hG rfl rfl rfl rfl rfl zv49 rfl rfl rfl optN ?_
  refine ⟨_, _, rfl, hG, ?_⟩
  refine thenA_n ?_
  refine AWP.seq ?_
  refine AWP.seq ?_
  refine AWP.region (fun _ => ?_)
  refine ARun.move (.inl rfl) rfl rfl rfl (Ev.plain rfl) optN ?_
  refine ARun.lenSl rfl rfl rfl rfl Try.underlying22 (Ev.plain rfl) optN ?_
  refine ARun.move (.inl rfl) rfl rfl rfl (Ev.plain rfl) optN ?_
  refine ⟨_, _, rfl, hG, ?_⟩
  refine thenA_n ?_
  refine AWP.block ?_
  refine AWP.rounds (fun k => k ≤ l.length ∧ ∀ j, j < k → (putF (l.getD j default)).2 = 0) (fun k => [(4, .box (G.length + 0) 0), (9, .sl (l.map AV.str)), (10, .int .i64 ((l.map AV.str).length : Int)), (11, .int .i64 (k : Int))]) (fun k => [.box [.adr 49, .buf 5 (bs (jn l k))]]) (fun k => l.length - k) 1 0 ⟨Nat.zero_le _, fun j h => by omega⟩ (by repeat (first | exact .nil | refine .cons rfl ?_)) rfl (fun _ => rfl) (fun _ => ⟨by simp [AV.cells], by simp [AO.conts]⟩) (fun k hI => ?_)
  obtain ⟨hk, hno⟩ := hI
  refine AWP.seq ?_
  refine AWP.region (fun _ => ?_)
  refine ARun.cmp rfl rfl rfl rfl (Ev.plain rfl) (Ev.plain rfl) rfl optN ?_
  refine ⟨_, _, rfl, hG, ?_⟩
  refine thenA_n ?_
  refine AWP.seq ?_
  refine AWP.cond rfl (fun h0 => ?_) (fun h0 => ?_)
  · skip
    try simp [-List.getD_eq_getElem?_getD] at h0
    refine AWP.skip ?_
    refine thenA_n ?_
    refine AWP.seq ?_
    refine AWP.block ?_
    refine AWP.seq ?_
    refine AWP.region (fun _ => ?_)
    first | refine ARun.indexSl rfl rfl rfl rfl Try.underlying22 sz9 (Ev.plain rfl) (Ev.plain rfl) (fun _ => rfl) (fun hg => getMap _ _ _ (by (try simp at hg); omega)) rfl rfl optN ?_ | refine ARun.indexSl rfl rfl rfl rfl Try.underlying22 sz9 (Ev.plain rfl) (Ev.plain rfl) (fun hg => ofNonneg (by (try simp at hg); omega)) (fun hg => getMap _ _ _ (by (try simp at hg); omega)) rfl rfl optN ?_
    refine ARun.loadPe rfl rfl rfl rfl Try.underlying9 rfl (Ev.plain rfl) rfl optN ?_
    refine ARun.move (.inr rfl) rfl rfl rfl (Ev.plain rfl) optN ?_
    refine ⟨_, _, rfl, hG, ?_⟩
    refine thenA_n ?_
    refine AWP.seq ?_
    refine AWP.region (fun _ => ?_)
    refine ARun.move (.inl rfl) rfl rfl rfl (Ev.plain rfl) optN ?_
    refine ARun.call rfl rfl rfl rfl cf8 (Ev.plain rfl) (.cons (Ev.plain rfl) .nil) rfl (fun hg => putF_fn (l.getD k default) (by have := str_at hm (k := k) (by omega); unfold maxLen at this; omega)) optN ?_
    refine ARun.move (.inl rfl) rfl rfl rfl (Ev.plain rfl) optN ?_
    refine ARun.extract rfl rfl rfl rfl (Ev.plain rfl) rfl optN ?_
    refine ARun.extract rfl rfl rfl rfl (Ev.plain rfl) rfl optN ?_
    refine ARun.move (.inr rfl) rfl rfl rfl (Ev.plain rfl) optN ?_
    refine ARun.move (.inr rfl) rfl rfl rfl (Ev.plain rfl) optN ?_
    refine ⟨_, _, rfl, hG, ?_⟩
    refine thenA_n ?_
    refine AWP.seq ?_
    refine AWP.seq ?_
    refine AWP.region (fun _ => ?_)
    refine ARun.move (.inl rfl) rfl rfl rfl (Ev.plain rfl) optN ?_
    refine ARun.cmp rfl rfl rfl rfl (Ev.plain rfl) (Ev.plain rfl) rfl optN ?_
    refine ⟨_, _, rfl, hG, ?_⟩
    refine thenA_n ?_
    refine AWP.cond rfl (fun h1 => ?_) (fun h1 => ?_)
    · skip
      simp [-List.getD_eq_getElem?_getD] at h1
      obtain ⟨q1, q2⟩ := joinP_bad (l := l) (k := k) (by omega) h1
      refine AWP.seq ?_
      refine AWP.region (fun _ => ?_)
      refine ARun.move (.inl rfl) rfl rfl rfl (Ev.plain rfl) optN ?_
      refine ARun.move (.inr rfl) rfl rfl rfl (Ev.plain rfl) optN ?_
      refine ARun.move (.inr rfl) rfl rfl rfl (Ev.plain rfl) optN ?_
      refine ⟨_, _, rfl, hG, ?_⟩
      refine thenA_n ?_
      refine AWP.ret ?_
      refine thenA_r ?_
      refine blockA_r ?_
      refine thenA_r ?_
      refine thenA_r ?_
      refine blockA_r ?_
      refine thenA_r ?_
      refine endF.many (.inr rfl) (rs := [.tmp 2, .tmp 3]) rfl (.cons (.tmp rfl) (.cons (.tmp rfl) .nil)) (by simp) ?_ hN
      rw [q1, q2]; rfl
    · skip
      simp [-List.getD_eq_getElem?_getD] at h1
      have hjs := jn_succ l k (by omega)
      have hjm := jn_mono l (k + 1)
      refine AWP.skip ?_
      refine thenA_n ?_
      refine AWP.region (fun _ => ?_)
      refine ARun.move (.inl rfl) rfl rfl rfl (Ev.plain rfl) optN ?_
      refine ARun.callSet (j := 0) hG rfl rfl rfl rfl cf22 (Ev.plain rfl) (.cons (Ev.plain rfl) (.cons (Ev.plain rfl) .nil)) rfl (writeF (jn l k) (l.getD k default) h1 (by rw [← hjs]; omega) _ _ ((hG.at _ _).trans rfl)) rfl optN ?_
      refine ⟨_, _, rfl, hG, ?_⟩
      refine blockA_n ?_
      refine thenA_n ?_
      refine AWP.region (fun _ => ?_)
      first | refine ARun.arith rfl rfl rfl rfl (Ev.plain rfl) (Ev.plain rfl) rfl (fun hg => i64w (by (try simp at hg); omega)) optN ?_ | refine ARun.arith rfl rfl rfl rfl (Ev.plain rfl) (Ev.plain rfl) rfl (fun _ => rfl) optN ?_
      refine ARun.move (.inl rfl) rfl rfl rfl (Ev.plain rfl) optN ?_
      refine ⟨_, _, rfl, hG, ?_⟩
      refine thenA_n ⟨rfl, k + 1, [], ?_, ?_, ?_, ?_⟩
      · refine ⟨by omega, fun j hj => ?_⟩
        by_cases e : j = k
        · subst e; exact h1
        · exact hno j (by omega)
      · repeat (first | exact .nil | refine .cons rfl ?_)
      · rw [jn_succ l k (by omega)]; rfl
      · omega
  · skip
    simp at h0
    obtain rfl : k = l.length := by omega
    refine AWP.exit ?_
    refine thenA_x ?_
    refine thenA_x ?_
    refine blockA_h ?_
    refine thenA_n ?_
    refine AWP.seq ?_
    refine AWP.region (fun _ => ?_)
    refine ARun.callSet (j := 0) hG rfl rfl rfl rfl cf23 (Ev.plain rfl) (.cons (Ev.plain rfl) .nil) rfl (bld_string (n := 2) (bs (jn l l.length)) [] _ _ ((hG.at _ _).trans rfl)) rfl optN ?_
    refine ARun.move (.inr rfl) rfl rfl rfl (Ev.plain rfl) optN ?_
    refine ARun.move (.inr rfl) rfl rfl rfl (Ev.plain rfl) optN ?_
    refine ⟨_, _, rfl, hG, ?_⟩
    refine thenA_n ?_
    refine AWP.ret ?_
    refine endF.many (.inr rfl) (rs := [.tmp 2, .tmp 3]) rfl (.cons (.tmp rfl) (.cons (.tmp rfl) .nil)) (by simp) ?_ hN
    rw [joinP_good hno]; rfl
set_option maxHeartbeats 1000000 in
theorem joinR_fn (l : List ByteArray) (hl : l.length ≤ 1000) (hm : ∀ x, x ∈ l → x.size ≤ maxLen) (hj : (jn l l.length).length ≤ 1000000) : FnP Try.prog 11 [.sl (l.map AV.str)] (.tup [.str (joinP l).1, .int .i64 (joinP l).2]) := by
  refine FnP.of Try.func11 rfl rfl (by simp) (by simp [AV.cells]) (fun G hG => ?_)
  have hN : NoH G.length (.tup [.str (joinP l).1, .int .i64 (joinP l).2]) := (by simp [AV.cells])
  refine AWP.seq ?_
  refine AWP.region (fun _ => ?_)
  refine ARun.move (.inr rfl) rfl rfl rfl (Ev.plain rfl) optN ?_
  refine ARun.move (.inr rfl) rfl rfl rfl (Ev.plain rfl) optN ?_
  refine ⟨_, _, rfl, hG, ?_⟩
  refine thenA_n ?_
  refine AWP.seq ?_
  refine AWP.region (fun _ => ?_)
  refine ARun.move (.inr rfl) rfl rfl rfl (Ev.plain rfl) optN ?_
  refine ⟨_, _, rfl, hG, ?_⟩
  refine thenA_n ?_
  refine AWP.seq ?_
  refine AWP.seq ?_
  refine AWP.region (fun _ => ?_)
  refine ARun.move (.inr rfl) rfl rfl rfl (Ev.plain rfl) optN ?_
  refine ⟨_, _, rfl, hG, ?_⟩
  refine thenA_n ?_
  refine AWP.block ?_
  refine AWP.rounds (fun k => k ≤ l.length ∧ ∀ j, j < k → (putF (l.getD j default)).2 = 0) (fun k => [(0, .sl (l.map AV.str)), (4, .str (bs (jn l k))), (5, .int .i64 (k : Int))]) (fun k => []) (fun k => l.length - k) 0 0 ⟨Nat.zero_le _, fun j h => by omega⟩ (by repeat (first | exact .nil | refine .cons rfl ?_)) rfl (fun _ => rfl) (fun _ => ⟨by simp [AV.cells], by simp⟩) (fun k hI => ?_)
  obtain ⟨hk, hno⟩ := hI
  refine AWP.seq ?_
  refine AWP.seq ?_
  refine AWP.region (fun _ => ?_)
  refine ARun.move (.inl rfl) rfl rfl rfl (Ev.plain rfl) optN ?_
  refine ARun.move (.inl rfl) rfl rfl rfl (Ev.plain rfl) optN ?_
  refine ARun.lenSl rfl rfl rfl rfl Try.underlying22 (Ev.plain rfl) optN ?_
  refine ARun.cmp rfl rfl rfl rfl (Ev.plain rfl) (Ev.plain rfl) rfl optN ?_
  refine ⟨_, _, rfl, hG, ?_⟩
  refine thenA_n ?_
  refine AWP.cond rfl (fun h0 => ?_) (fun h0 => ?_)
  · skip
    try simp [-List.getD_eq_getElem?_getD] at h0
    refine AWP.skip ?_
    refine thenA_n ?_
    refine AWP.seq ?_
    refine AWP.block ?_
    refine AWP.seq ?_
    refine AWP.region (fun _ => ?_)
    refine ARun.move (.inl rfl) rfl rfl rfl (Ev.plain rfl) optN ?_
    refine ARun.move (.inl rfl) rfl rfl rfl (Ev.plain rfl) optN ?_
    first | refine ARun.indexSl rfl rfl rfl rfl Try.underlying22 sz9 (Ev.plain rfl) (Ev.plain rfl) (fun _ => rfl) (fun hg => getMap _ _ _ (by (try simp at hg); omega)) rfl rfl optN ?_ | refine ARun.indexSl rfl rfl rfl rfl Try.underlying22 sz9 (Ev.plain rfl) (Ev.plain rfl) (fun hg => ofNonneg (by (try simp at hg); omega)) (fun hg => getMap _ _ _ (by (try simp at hg); omega)) rfl rfl optN ?_
    refine ARun.loadPe rfl rfl rfl rfl Try.underlying9 rfl (Ev.plain rfl) rfl optN ?_
    refine ARun.call rfl rfl rfl rfl cf9 (Ev.plain rfl) (.cons (Ev.plain rfl) .nil) rfl (fun hg => putFR_fn (l.getD k default) (by have := str_at hm (k := k) (by omega); unfold maxLen at this; omega)) optN ?_
    refine ARun.move (.inl rfl) rfl rfl rfl (Ev.plain rfl) optN ?_
    refine ARun.extract rfl rfl rfl rfl (Ev.plain rfl) rfl optN ?_
    refine ARun.extract rfl rfl rfl rfl (Ev.plain rfl) rfl optN ?_
    refine ARun.move (.inr rfl) rfl rfl rfl (Ev.plain rfl) optN ?_
    refine ARun.move (.inr rfl) rfl rfl rfl (Ev.plain rfl) optN ?_
    refine ⟨_, _, rfl, hG, ?_⟩
    refine thenA_n ?_
    refine AWP.seq ?_
    refine AWP.seq ?_
    refine AWP.region (fun _ => ?_)
    refine ARun.move (.inl rfl) rfl rfl rfl (Ev.plain rfl) optN ?_
    refine ARun.cmp rfl rfl rfl rfl (Ev.plain rfl) (Ev.plain rfl) rfl optN ?_
    refine ⟨_, _, rfl, hG, ?_⟩
    refine thenA_n ?_
    refine AWP.cond rfl (fun h1 => ?_) (fun h1 => ?_)
    · skip
      simp [-List.getD_eq_getElem?_getD] at h1
      obtain ⟨q1, q2⟩ := joinP_bad (l := l) (k := k) (by omega) h1
      refine AWP.seq ?_
      refine AWP.region (fun _ => ?_)
      refine ARun.move (.inl rfl) rfl rfl rfl (Ev.plain rfl) optN ?_
      refine ARun.move (.inr rfl) rfl rfl rfl (Ev.plain rfl) optN ?_
      refine ARun.move (.inr rfl) rfl rfl rfl (Ev.plain rfl) optN ?_
      refine ⟨_, _, rfl, hG, ?_⟩
      refine thenA_n ?_
      refine AWP.ret ?_
      refine thenA_r ?_
      refine blockA_r ?_
      refine thenA_r ?_
      refine thenA_r ?_
      refine blockA_r ?_
      refine thenA_r ?_
      refine endF.many (.inr rfl) (rs := [.tmp 2, .tmp 3]) rfl (.cons (.tmp rfl) (.cons (.tmp rfl) .nil)) (by simp) ?_ hN
      rw [q1, q2]; rfl
    · skip
      simp [-List.getD_eq_getElem?_getD] at h1
      have hjs := jn_succ l k (by omega)
      have hjm := jn_mono l (k + 1)
      refine AWP.skip ?_
      refine thenA_n ?_
      refine AWP.region (fun _ => ?_)
      refine ARun.move (.inl rfl) rfl rfl rfl (Ev.plain rfl) optN ?_
      refine ARun.move (.inl rfl) rfl rfl rfl (Ev.plain rfl) optN ?_
      refine ARun.cat rfl rfl rfl rfl (Ev.plain rfl) (Ev.plain rfl) (fun hg => (by rw [(putF_zero h1).2]; simp only [bs_size']; rw [hjs, List.length_append] at hjm; omega)) optN ?_
      refine ARun.move (.inr rfl) rfl rfl rfl (Ev.plain rfl) optN ?_
      refine ⟨_, _, rfl, hG, ?_⟩
      refine blockA_n ?_
      refine thenA_n ?_
      refine AWP.region (fun _ => ?_)
      refine ARun.move (.inl rfl) rfl rfl rfl (Ev.plain rfl) optN ?_
      first | refine ARun.arith rfl rfl rfl rfl (Ev.plain rfl) (Ev.plain rfl) rfl (fun hg => i64w (by (try simp at hg); omega)) optN ?_ | refine ARun.arith rfl rfl rfl rfl (Ev.plain rfl) (Ev.plain rfl) rfl (fun _ => rfl) optN ?_
      refine ARun.move (.inr rfl) rfl rfl rfl (Ev.plain rfl) optN ?_
      refine ⟨_, _, rfl, hG, ?_⟩
      refine thenA_n ⟨rfl, k + 1, _, ?_, ?_, rfl, ?_⟩
      · refine ⟨by omega, fun j hj => ?_⟩
        by_cases e : j = k
        · subst e; exact h1
        · exact hno j (by omega)
      · rw [(putF_zero h1).2, bs_append, ← hjs]
        repeat (first | exact .nil | refine .cons rfl ?_)
      · omega
  · skip
    simp at h0
    obtain rfl : k = l.length := by omega
    refine AWP.exit ?_
    refine thenA_x ?_
    refine thenA_x ?_
    refine blockA_h ?_
    refine thenA_n ?_
    refine AWP.seq ?_
    refine AWP.region (fun _ => ?_)
    refine ARun.move (.inl rfl) rfl rfl rfl (Ev.plain rfl) optN ?_
    refine ARun.move (.inr rfl) rfl rfl rfl (Ev.plain rfl) optN ?_
    refine ARun.move (.inr rfl) rfl rfl rfl (Ev.plain rfl) optN ?_
    refine ⟨_, _, rfl, hG, ?_⟩
    refine thenA_n ?_
    refine AWP.ret ?_
    refine endF.many (.inr rfl) (rs := [.tmp 2, .tmp 3]) rfl (.cons (.tmp rfl) (.cons (.tmp rfl) .nil)) (by simp) ?_ hN
    rw [joinP_good hno]; rfl
theorem snd_snoc (pre : List (Int × ByteArray)) (x : Int × ByteArray) : (pre.map fun y => AV.str y.2) ++ [AV.str x.2] = (pre ++ [x]).map fun y => AV.str y.2 := by simp
theorem all_str (s : ByteArray) : (allP s).1.map AV.str = (allX s).map fun y => AV.str y.2 := by unfold allP; rw [List.map_map]; rfl
set_option maxHeartbeats 1000000 in
theorem allR_fn (s : ByteArray) (hs : s.size ≤ 1000000) : FnP Try.prog 16 [.str s] (.tup [.sl ((allP s).1.map AV.str), .int .i64 (allP s).2]) := by
  refine FnP.of Try.func16 rfl rfl (by simp) (by simp [AV.cells]) (fun G hG => ?_)
  have hN : NoH G.length (.tup [.sl ((allP s).1.map AV.str), .int .i64 (allP s).2]) := (by simp [AV.cells])
  refine AWP.seq ?_
  refine AWP.region (fun _ => ?_)
  refine ARun.move (.inr rfl) rfl rfl rfl (Ev.plain rfl) optN ?_
  refine ARun.move (.inr rfl) rfl rfl rfl (Ev.plain rfl) optN ?_
  refine ⟨_, _, rfl, hG, ?_⟩
  refine thenA_n ?_
  refine AWP.seq ?_
  refine AWP.region (fun _ => ?_)
  refine ARun.nilOwn (e := 9) (z := 1) (j := 0) hG rfl ⟨.inl rfl, rfl⟩ (fun _ => rfl) rfl rfl rfl optN ?_
  refine ⟨_, _, rfl, hG, ?_⟩
  refine thenA_n ?_
  refine AWP.seq ?_
  refine AWP.region (fun _ => ?_)
  refine ARun.move (.inr rfl) rfl rfl rfl (Ev.plain rfl) optN ?_
  refine ⟨_, _, rfl, hG, ?_⟩
  refine thenA_n ?_
  refine AWP.block ?_
  refine AWP.rounds (fun st => At s st.2.1 st.2.2) (fun st => [(0, .str s), (4, .own (G.length + 0) st.1), (5, .int .i64 st.2.2)]) (fun st => [.row st.1 9 1 (st.2.1.map fun y => AV.str y.2)]) (fun st => (s.size - st.2.2.toNat)) 1 ((0, [], 0) : Nat × List (Int × ByteArray) × Int) (at_start s) (by repeat (first | exact .nil | refine .cons rfl ?_)) rfl (fun _ => rfl) (fun _ => ⟨by simp [AV.cells], by simp [AO.conts, AV.cells]; intro y a _ _ _ e hy; subst e; simp at hy; subst hy; simp⟩) (fun st hI => ?_)
  obtain ⟨g, pre, p⟩ := st
  dsimp only at hI
  show AWP _ _ _ _ _ [(0, .str s), (4, .own (G.length + 0) g), (5, .int .i64 p)] _ [.row g 9 1 (pre.map fun y => AV.str y.2)]
  have hpl := at_len hI
  refine AWP.block ?_
  refine AWP.seq ?_
  refine AWP.region (fun _ => ?_)
  refine ARun.move (.inl rfl) rfl rfl rfl (Ev.plain rfl) optN ?_
  refine ARun.move (.inl rfl) rfl rfl rfl (Ev.plain rfl) optN ?_
  refine ARun.call rfl rfl rfl rfl cf14 (Ev.plain rfl) (.cons (Ev.plain rfl) (.cons (Ev.plain rfl) .nil)) rfl (fun hg => getFR_fn s p hs) optN ?_
  refine ARun.move (.inl rfl) rfl rfl rfl (Ev.plain rfl) optN ?_
  refine ARun.extract rfl rfl rfl rfl (Ev.plain rfl) rfl optN ?_
  refine ARun.extract rfl rfl rfl rfl (Ev.plain rfl) rfl optN ?_
  refine ARun.extract rfl rfl rfl rfl (Ev.plain rfl) rfl optN ?_
  refine ARun.move (.inr rfl) rfl rfl rfl (Ev.plain rfl) optN ?_
  refine ARun.move (.inr rfl) rfl rfl rfl (Ev.plain rfl) optN ?_
  refine ARun.move (.inr rfl) rfl rfl rfl (Ev.plain rfl) optN ?_
  refine ⟨_, _, rfl, hG, ?_⟩
  refine thenA_n ?_
  refine AWP.seq ?_
  refine AWP.seq ?_
  refine AWP.region (fun _ => ?_)
  refine ARun.move (.inl rfl) rfl rfl rfl (Ev.plain rfl) optN ?_
  refine ARun.cmp rfl rfl rfl rfl (Ev.plain rfl) (Ev.plain rfl) rfl optN ?_
  refine ⟨_, _, rfl, hG, ?_⟩
  refine thenA_n ?_
  refine AWP.cond rfl (fun h0 => ?_) (fun h0 => ?_)
  · skip
    simp at h0
    obtain ⟨rfl, rfl⟩ := at_stop hI h0
    refine AWP.seq ?_
    refine AWP.region (fun _ => ?_)
    refine ARun.move (.inl rfl) rfl rfl rfl (Ev.plain rfl) optN ?_
    refine ARun.move (.inl rfl) rfl rfl rfl (Ev.plain rfl) optN ?_
    refine ARun.move (.inr rfl) rfl rfl rfl (Ev.plain rfl) optN ?_
    refine ARun.move (.inr rfl) rfl rfl rfl (Ev.plain rfl) optN ?_
    refine ⟨_, _, rfl, hG, ?_⟩
    refine thenA_n ?_
    refine AWP.frzOwn 2 hG rfl rfl (by decide) (by simp [maxLen]; omega) rfl ?_
    refine AWP.ret ?_
    refine thenA_r ?_
    refine blockA_r ?_
    refine thenA_r ?_
    refine blockA_r ?_
    refine endF.many (.inr rfl) (rs := [.tmp 2, .tmp 3]) rfl (.cons (.tmp rfl) (.cons (.tmp rfl) .nil)) (by simp) ?_ hN
    rw [all_str]; rfl
  · skip
    simp at h0
    have hpl2 := at_len2 hI h0
    refine AWP.skip ?_
    refine thenA_n ?_
    refine AWP.seq ?_
    refine AWP.region (fun _ => ?_)
    refine ARun.move (.inl rfl) rfl rfl rfl (Ev.plain rfl) optN ?_
    refine ARun.move (.inl rfl) rfl rfl rfl (Ev.plain rfl) optN ?_
    refine ARun.buildSl rfl rfl rfl rfl Try.underlying22 sz9 zv9 rfl (by decide) (.cons (Ev.plain rfl) .nil) rfl rfl rfl rfl (by decide) rfl rfl optN ?_
    refine ARun.appendL hG rfl rfl rfl rfl Try.underlying22 ti9 rfl (by decide) (Ev.plain rfl) (Ev.plain rfl) rfl rfl (by simp [maxLen]; omega) (by simp; omega) (snd_snoc pre ((getF s p).2.1, (getF s p).1)) optN rfl ?_
    refine ARun.move (.inr rfl) rfl rfl rfl (Ev.plain rfl) optN ?_
    refine ⟨_, _, rfl, hG, ?_⟩
    refine thenA_n ?_
    refine AWP.region (fun _ => ?_)
    refine ARun.move (.inl rfl) rfl rfl rfl (Ev.plain rfl) optN ?_
    refine ARun.move (.inr rfl) rfl rfl rfl (Ev.plain rfl) optN ?_
    refine ⟨_, _, rfl, hG, ?_⟩
    refine blockA_n ?_
    refine thenA_n ⟨rfl, (g + 1, pre ++ [((getF s p).2.1, (getF s p).1)], (getF s p).2.1), _, ?_, ?_, rfl, ?_⟩
    · exact at_go hI h0
    · repeat (first | exact .nil | refine .cons rfl ?_)
    · dsimp only; have := getF_lt h0; omega
set_option maxHeartbeats 1000000 in
theorem same_fn (a b : List ByteArray) (hl : a.length ≤ 9223372036854775807) : FnP Try.prog 17 [.sl (a.map AV.str), .sl (b.map AV.str)] (.bool (decide (a = b))) := by
  refine FnP.of Try.func17 rfl rfl (by simp) (by simp [AV.cells]) (fun G hG => ?_)
  have hN : NoH G.length (.bool (decide (a = b))) := (by simp [AV.cells])
  refine AWP.seq ?_
  refine AWP.region (fun _ => ?_)
  refine ARun.move (.inr rfl) rfl rfl rfl (Ev.plain rfl) optN ?_
  refine ⟨_, _, rfl, hG, ?_⟩
  refine thenA_n ?_
  refine AWP.seq ?_
  refine AWP.seq ?_
  refine AWP.region (fun _ => ?_)
  refine ARun.move (.inl rfl) rfl rfl rfl (Ev.plain rfl) optN ?_
  refine ARun.lenSl rfl rfl rfl rfl Try.underlying22 (Ev.plain rfl) optN ?_
  refine ARun.move (.inl rfl) rfl rfl rfl (Ev.plain rfl) optN ?_
  refine ARun.lenSl rfl rfl rfl rfl Try.underlying22 (Ev.plain rfl) optN ?_
  refine ARun.cmp rfl rfl rfl rfl (Ev.plain rfl) (Ev.plain rfl) rfl optN ?_
  refine ⟨_, _, rfl, hG, ?_⟩
  refine thenA_n ?_
  refine AWP.cond rfl (fun h0 => ?_) (fun h0 => ?_)
  · skip
    simp [-List.getD_eq_getElem?_getD] at h0
    refine AWP.seq ?_
    refine AWP.region (fun _ => ?_)
    refine ARun.move (.inr rfl) rfl rfl rfl (Ev.plain rfl) optN ?_
    refine ⟨_, _, rfl, hG, ?_⟩
    refine thenA_n ?_
    refine AWP.ret ?_
    refine thenA_r ?_
    refine endF.one (.inr rfl) rfl (.tmp rfl) ?_ hN
    rw [decide_eq_false (fun e => absurd (congrArg List.length e) (by omega))]; rfl
  · skip
    simp [-List.getD_eq_getElem?_getD] at h0
    refine AWP.skip ?_
    refine thenA_n ?_
    refine AWP.seq ?_
    refine AWP.seq ?_
    refine AWP.region (fun _ => ?_)
    refine ARun.move (.inr rfl) rfl rfl rfl (Ev.plain rfl) optN ?_
    refine ⟨_, _, rfl, hG, ?_⟩
    refine thenA_n ?_
    refine AWP.block ?_
    refine AWP.rounds (fun k => k ≤ a.length ∧ a.take k = b.take k) (fun k => [(0, .sl (a.map AV.str)), (1, .sl (b.map AV.str)), (5, .int .i64 (k : Int))]) (fun k => []) (fun k => a.length - k) 0 0 ⟨by omega, rfl⟩ (by repeat (first | exact .nil | refine .cons rfl ?_)) rfl (fun _ => rfl) (fun _ => ⟨by simp [AV.cells], by simp⟩) (fun k hI => ?_)
    obtain ⟨hk, hs⟩ := hI
    refine AWP.seq ?_
    refine AWP.seq ?_
    refine AWP.region (fun _ => ?_)
    refine ARun.move (.inl rfl) rfl rfl rfl (Ev.plain rfl) optN ?_
    refine ARun.move (.inl rfl) rfl rfl rfl (Ev.plain rfl) optN ?_
    refine ARun.lenSl rfl rfl rfl rfl Try.underlying22 (Ev.plain rfl) optN ?_
    refine ARun.cmp rfl rfl rfl rfl (Ev.plain rfl) (Ev.plain rfl) rfl optN ?_
    refine ⟨_, _, rfl, hG, ?_⟩
    refine thenA_n ?_
    refine AWP.cond rfl (fun h1 => ?_) (fun h1 => ?_)
    · skip
      simp [-List.getD_eq_getElem?_getD] at h1
      refine AWP.skip ?_
      refine thenA_n ?_
      refine AWP.seq ?_
      refine AWP.block ?_
      refine AWP.seq ?_
      refine AWP.draw mixed (by kernel_rfl) (fun _ => ?_)
      refine ARun.move (.inl rfl) rfl rfl rfl (Ev.plain rfl) optN ?_
      refine ARun.move (.inl rfl) rfl rfl rfl (Ev.plain rfl) optN ?_
      first | refine ARun.indexSl rfl rfl rfl rfl Try.underlying22 sz9 (Ev.plain rfl) (Ev.plain rfl) (fun _ => rfl) (fun hg => getMap _ _ _ (by (try simp at hg); omega)) rfl rfl optN ?_ | refine ARun.indexSl rfl rfl rfl rfl Try.underlying22 sz9 (Ev.plain rfl) (Ev.plain rfl) (fun hg => ofNonneg (by (try simp at hg); omega)) (fun hg => getMap _ _ _ (by (try simp at hg); omega)) rfl rfl optN ?_
      refine ARun.loadPe rfl rfl rfl rfl Try.underlying9 rfl (Ev.plain rfl) rfl optN ?_
      refine ARun.move (.inl rfl) rfl rfl rfl (Ev.plain rfl) optN ?_
      refine ARun.move (.inl rfl) rfl rfl rfl (Ev.plain rfl) optN ?_
      first | refine ARun.indexSl rfl rfl rfl rfl Try.underlying22 sz9 (Ev.plain rfl) (Ev.plain rfl) (fun _ => rfl) (fun hg => getMap _ _ _ (by (try simp at hg); omega)) rfl rfl optN ?_ | refine ARun.indexSl rfl rfl rfl rfl Try.underlying22 sz9 (Ev.plain rfl) (Ev.plain rfl) (fun hg => ofNonneg (by (try simp at hg); omega)) (fun hg => getMap _ _ _ (by (try simp at hg); omega)) rfl rfl optN ?_
      refine ARun.loadPe rfl rfl rfl rfl Try.underlying9 rfl (Ev.plain rfl) rfl optN ?_
      refine ARun.cmpS rfl rfl rfl rfl (Ev.plain rfl) (Ev.plain rfl) rfl optN ?_
      refine ⟨by kernel_rfl, _, _, rfl, hG, ?_⟩
      refine thenA_n ?_
      refine AWP.cond rfl (fun h2 => ?_) (fun h2 => ?_)
      · skip
        simp [-List.getD_eq_getElem?_getD] at h2
        refine AWP.seq ?_
        refine AWP.region (fun _ => ?_)
        refine ARun.move (.inr rfl) rfl rfl rfl (Ev.plain rfl) optN ?_
        refine ⟨_, _, rfl, hG, ?_⟩
        refine thenA_n ?_
        refine AWP.ret ?_
        refine blockA_r ?_
        refine thenA_r ?_
        refine thenA_r ?_
        refine blockA_r ?_
        refine thenA_r ?_
        refine endF.one (.inr rfl) rfl (.tmp rfl) ?_ hN
        rw [decide_eq_false (ne_of_get (k := k) h2)]; rfl
      · skip
        simp [-List.getD_eq_getElem?_getD] at h2
        refine AWP.skip ?_
        refine blockA_n ?_
        refine thenA_n ?_
        refine AWP.region (fun _ => ?_)
        refine ARun.move (.inl rfl) rfl rfl rfl (Ev.plain rfl) optN ?_
        first | refine ARun.arith rfl rfl rfl rfl (Ev.plain rfl) (Ev.plain rfl) rfl (fun hg => i64w (by (try simp at hg); omega)) optN ?_ | refine ARun.arith rfl rfl rfl rfl (Ev.plain rfl) (Ev.plain rfl) rfl (fun _ => rfl) optN ?_
        refine ARun.move (.inr rfl) rfl rfl rfl (Ev.plain rfl) optN ?_
        refine ⟨_, _, rfl, hG, ?_⟩
        refine thenA_n ⟨rfl, k + 1, _, ?_, ?_, rfl, ?_⟩
        · exact ⟨by omega, take_eq_go hs h1 (by omega) h2⟩
        · repeat (first | exact .nil | refine .cons rfl ?_)
        · omega
    · skip
      simp [-List.getD_eq_getElem?_getD] at h1
      refine AWP.exit ?_
      refine thenA_x ?_
      refine thenA_x ?_
      refine blockA_h ?_
      refine thenA_n ?_
      refine AWP.seq ?_
      refine AWP.region (fun _ => ?_)
      refine ARun.move (.inr rfl) rfl rfl rfl (Ev.plain rfl) optN ?_
      refine ⟨_, _, rfl, hG, ?_⟩
      refine thenA_n ?_
      refine AWP.ret ?_
      refine endF.one (.inr rfl) rfl (.tmp rfl) ?_ hN
      rw [decide_eq_true (by rw [List.take_of_length_le h1, List.take_of_length_le (by omega)] at hs; exact hs)]; rfl
end Go.Proofs.Ytopmppnnihdnaaa
