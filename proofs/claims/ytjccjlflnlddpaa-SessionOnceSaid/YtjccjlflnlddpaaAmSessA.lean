/- Sessions by the abstract machine. -/
import Derived.Test.YtjccjlflnlddpaaAmTys
import Derived.Test.YtjccjlflnlddpaaSessPlain
namespace Go.Proofs.Ytjccjlflnlddpaa
set_option linter.unusedVariables false
set_option linter.unusedSimpArgs false
open Go.RowKit
open SessP
set_option maxRecDepth 100000
def aSe (s : Se) : AV := .agg [.int .i64 s.client, .int .i64 s.seq, .str s.reply]
instance : Inhabited Se := ⟨⟨0, 0, ⟨#[]⟩⟩⟩
theorem aSe_ext {x y : Se} (h : x.client = y.client ∧ x.seq = y.seq ∧ x.reply = y.reply) : x = y := by
  obtain ⟨a0, a1, a2⟩ := x
  obtain ⟨b0, b1, b2⟩ := y
  simp only at h
  obtain ⟨rfl, rfl, rfl⟩ := h
  rfl
theorem aSe_ne {x y : Se} (h : ¬x.client = y.client ∨ ¬x.seq = y.seq ∨ ¬x.reply = y.reply) : x ≠ y := by
  intro e; subst e; simp at h
theorem Se_idx {l : List Se} {k : Nat} (h : k < l.length) : l.getD k default = l[k] := by simp [List.getD, h]
/-- where the first one stands -/
def idxOf {α : Type} (p : α → Bool) (l : List α) : Int := match l.findIdx? p with
  | some i => (i : Int)
  | none => -1
theorem idx_hit {α : Type} [Inhabited α] {p : α → Bool} {l : List α} {k : Nat} (hk : k < l.length) (h : ∀ j, j < k → p (l.getD j default) = false) (hp : p (l.getD k default) = true) : idxOf p l = (k : Int) := by
  have : l.findIdx? p = some k := by
    rw [List.findIdx?_eq_some_iff_getElem]
    refine ⟨hk, ?_, fun j hj => ?_⟩
    · simpa [List.getD, hk] using hp
    · have := h j hj
      simp [List.getD, show j < l.length by omega] at this
      simp [this]
  unfold idxOf; rw [this]
theorem idx_none {α : Type} [Inhabited α] {p : α → Bool} {l : List α} (h : ∀ j, j < l.length → p (l.getD j default) = false) : idxOf p l = -1 := by
  have : l.findIdx? p = none := by
    rw [List.findIdx?_eq_none_iff]
    intro x hx
    obtain ⟨j, hj, rfl⟩ := List.mem_iff_getElem.1 hx
    have := h j hj
    simpa [List.getD, hj] using this
  unfold idxOf; rw [this]
theorem any_idx {α : Type} (p : α → Bool) (l : List α) : decide (0 ≤ idxOf p l) = l.any p := by
  unfold idxOf
  cases h : l.findIdx? p with
  | none =>
    have := List.findIdx?_eq_none_iff.1 h
    symm; simp; exact this
  | some i =>
    obtain ⟨hi, h2, _⟩ := List.findIdx?_eq_some_iff_getElem.1 h
    have : l.any p = true := List.any_eq_true.2 ⟨_, List.getElem_mem hi, h2⟩
    rw [this]; simp
theorem neg_one_cv : cAV (.int .i64 (-1)) = .int .i64 (-1) := rfl
theorem take_eq_go {α : Type} [Inhabited α] {a b : List α} {k : Nat} (h : a.take k = b.take k) (ha : k < a.length) (hb : k < b.length) (he : a.getD k default = b.getD k default) : a.take (k + 1) = b.take (k + 1) := by
  rw [List.take_succ_eq_append_getElem ha, List.take_succ_eq_append_getElem hb, h]
  simp [List.getD, ha, hb] at he
  rw [he]
theorem ne_of_get {α : Type} [Inhabited α] {a b : List α} {k : Nat} (he : a.getD k default ≠ b.getD k default) : a ≠ b := fun e => he (by rw [e])
set_option maxHeartbeats 1000000 in
theorem number_fn (n : Int) : FnP Try.prog 18 [.int .i64 n] (.bool (numB n)) := by
  refine FnP.of Try.func18 rfl rfl (by simp) (by simp [AV.cells, aSe]) (fun G hG => ?_)
  have hN : NoH G.length (.bool (numB n)) := (by simp [AV.cells, aSe])
  refine AWP.seq ?_
  refine AWP.region (fun _ => ?_)
  refine ARun.move (.inr rfl) rfl rfl rfl (Ev.plain rfl) optN ?_
  refine ⟨_, _, rfl, hG, ?_⟩
  refine thenA_n ?_
  refine AWP.seq ?_
  refine AWP.region (fun _ => ?_)
  refine ARun.move (.inl rfl) rfl rfl rfl (Ev.plain rfl) optN ?_
  refine ARun.cmp rfl rfl rfl rfl (Ev.plain rfl) (Ev.plain rfl) rfl optN ?_
  refine ARun.move (.inl rfl) rfl rfl rfl (Ev.plain rfl) optN ?_
  refine ARun.move (.inl rfl) rfl rfl rfl (Ev.plain rfl) optS ?_
  refine ARun.cmp rfl rfl rfl rfl (Ev.opt rfl id) (Ev.plain rfl) rfl optS ?_
  refine ARun.pick rfl rfl rfl rfl (Ev.plain rfl) (Ev.opt rfl (by first | exact pkT | exact pkT2 | simp +contextual)) (Ev.plain rfl) (andB _ _) optN ?_
  refine ARun.move (.inr rfl) rfl rfl rfl (Ev.plain rfl) optN ?_
  refine ⟨_, _, rfl, hG, ?_⟩
  refine thenA_n ?_
  refine AWP.ret ?_
  refine endF.one (.inr rfl) rfl (.tmp rfl) ?_ hN
  simp [numB, Bool.decide_and]
set_option maxHeartbeats 1000000 in
theorem may_fn (s : Se) : FnP Try.prog 19 [aSe s] (.bool (may s)) := by
  refine FnP.of Try.func19 rfl rfl (by simp) (by simp [AV.cells, aSe]) (fun G hG => ?_)
  have hN : NoH G.length (.bool (may s)) := (by simp [AV.cells, aSe])
  refine AWP.seq ?_
  refine AWP.region (fun _ => ?_)
  refine ARun.box (j := 0) hG rfl rfl rfl rfl rfl (Ev.plain rfl) rfl rfl optN ?_
  refine ARun.move (.inr rfl) rfl rfl rfl (Ev.plain rfl) optN ?_
  refine ⟨_, _, rfl, hG, ?_⟩
  refine thenA_n ?_
  refine AWP.seq ?_
  refine AWP.region (fun _ => ?_)
  refine ARun.fieldBox rfl rfl rfl rfl Try.underlying24 rfl rfl sz3 (by decide) (Ev.plain rfl) ((hG.at _ _).trans rfl) optN ?_
  refine ARun.loadBox rfl rfl rfl rfl Try.underlying3 rfl (Ev.plain rfl) ((hG.at _ _).trans rfl) rfl optN ?_
  refine ARun.call rfl rfl rfl rfl cf18 (Ev.plain rfl) (.cons (Ev.plain rfl) .nil) rfl (fun hg => number_fn _) optN ?_
  refine ARun.move (.inl rfl) rfl rfl rfl (Ev.plain rfl) optN ?_
  refine ARun.fieldBox rfl rfl rfl rfl Try.underlying24 rfl rfl sz3 (by decide) (Ev.plain rfl) ((hG.at _ _).trans rfl) optS ?_
  refine ARun.loadBox rfl rfl rfl rfl Try.underlying3 rfl (Ev.opt rfl id) ((hG.at _ _).trans rfl) rfl optS ?_
  refine ARun.call rfl rfl rfl rfl cf18 (Ev.plain rfl) (.cons (Ev.opt rfl id) .nil) rfl (fun hg => number_fn _) optS ?_
  refine ARun.pick rfl rfl rfl rfl (Ev.plain rfl) (Ev.opt rfl (by first | exact pkT | exact pkT2 | simp +contextual)) (Ev.plain rfl) (andB _ _) optN ?_
  refine ARun.move (.inl rfl) rfl rfl rfl (Ev.plain rfl) optN ?_
  refine ARun.fieldBox rfl rfl rfl rfl Try.underlying24 rfl rfl sz9 (by decide) (Ev.plain rfl) ((hG.at _ _).trans rfl) optS ?_
  refine ARun.loadBox rfl rfl rfl rfl Try.underlying9 rfl (Ev.opt rfl id) ((hG.at _ _).trans rfl) rfl optS ?_
  refine ARun.lenStr rfl rfl rfl rfl Try.underlying9 (Ev.opt rfl id) optS ?_
  refine ARun.cmp rfl rfl rfl rfl (Ev.opt rfl id) (Ev.plain rfl) rfl optS ?_
  refine ARun.pick rfl rfl rfl rfl (Ev.plain rfl) (Ev.opt rfl (by first | exact pkT | exact pkT2 | simp +contextual)) (Ev.plain rfl) (andB _ _) optN ?_
  refine ARun.move (.inr rfl) rfl rfl rfl (Ev.plain rfl) optN ?_
  refine ⟨_, _, rfl, hG, ?_⟩
  refine thenA_n ?_
  refine AWP.ret ?_
  refine endF.one (.inr rfl) rfl (.tmp rfl) ?_ hN
  have : ((s.reply.size : Int) ≤ 300) ↔ s.reply.size ≤ 300 := by omega
  simp [may, this]
theorem step_ok (l : List Se) (k : Nat) (hk : k < l.length) : okFrom 0 (l.take (k + 1)) = (okFrom 0 (l.take k) && (may (l.getD k default) && decide (lastId 0 (l.take k) < (l.getD k default).client))) := by
  rw [Se_idx hk, show l.take (k + 1) = l.take k ++ [l[k]] by simp]; exact okFrom_snoc _ _ _
theorem last_of (l : List Se) (k : Nat) (hk : k ≤ l.length) : lastId 0 (l.take k) = if 0 < k then (l.getD (k - 1) default).client else 0 := by
  by_cases h : 0 < k
  · rw [if_pos h, lastId_take l k h hk, Se_idx (by omega)]
  · obtain rfl : k = 0 := by omega
    rfl
theorem okE_bad {l : List Se} {k : Nat} (h : okFrom 0 (l.take (k + 1)) = false) : okE l = 2 := by
  unfold okE ok; rw [okFrom_cut h]; simp
theorem okE_big {l : List Se} (h : 20 < l.length) : okE l = 2 := by
  unfold okE ok; rw [decide_eq_false (by omega)]; simp
theorem okE_good {l : List Se} (h : l.length ≤ 20) (h2 : okFrom 0 l = true) : okE l = 0 := by
  unfold okE ok; rw [decide_eq_true h, h2]; simp
theorem chk_bad {l : List Se} {k : Nat} (hk : k < l.length) (h : may (l.getD k default) = false ∨ 0 < k ∧ (l.getD k default).client ≤ (l.getD (k - 1) default).client) : okE l = 2 := by
  refine okE_bad (k := k) ?_
  rw [step_ok l k hk, last_of l k (by omega)]
  rcases h with h | ⟨h, h2⟩
  · rw [h]; simp
  · rw [if_pos h, decide_eq_false (by omega)]; simp
theorem may_pos {s : Se} (h : may s = true) : 0 < s.client := by
  unfold may numB at h; simp at h; omega
theorem may_iff {s : Se} : may s = true ↔ (1 ≤ s.client ∧ s.client ≤ 99999) ∧ (1 ≤ s.seq ∧ s.seq ≤ 99999) ∧ (s.reply.size : Int) ≤ 300 := by
  unfold may numB; simp [and_assoc]; omega
theorem chk_go {l : List Se} {k : Nat} (hk : k < l.length) (hok : okFrom 0 (l.take k) = true) (h : may (l.getD k default) = true ∧ (0 < k → (l.getD (k - 1) default).client < (l.getD k default).client)) : okFrom 0 (l.take (k + 1)) = true := by
  rw [step_ok l k hk, last_of l k (by omega), hok, h.1]
  have h1 := may_pos h.1
  by_cases hk0 : 0 < k
  · rw [if_pos hk0, decide_eq_true (h.2 hk0)]; rfl
  · rw [if_neg hk0, decide_eq_true h1]; rfl
set_option maxHeartbeats 1000000 in
theorem check_fn (l : List Se) : FnP Try.prog 15 [.sl (l.map aSe)] (.int .i64 (okE l)) := by
  refine FnP.of Try.func15 rfl rfl (by simp) (by simp [AV.cells, aSe]) (fun G hG => ?_)
  have hN : NoH G.length (.int .i64 (okE l)) := (by simp [AV.cells, aSe])
  refine AWP.seq ?_
  refine AWP.region (fun _ => ?_)
  refine ARun.move (.inr rfl) rfl rfl rfl (Ev.plain rfl) optN ?_
  refine ⟨_, _, rfl, hG, ?_⟩
  refine thenA_n ?_
  refine AWP.seq ?_
  refine AWP.seq ?_
  refine AWP.region (fun _ => ?_)
  refine ARun.move (.inl rfl) rfl rfl rfl (Ev.plain rfl) optN ?_
  refine ARun.lenSl rfl rfl rfl rfl Try.underlying22 (Ev.plain rfl) optN ?_
  refine ARun.cmp rfl rfl rfl rfl (Ev.plain rfl) (Ev.plain rfl) rfl optN ?_
  refine ⟨_, _, rfl, hG, ?_⟩
  refine thenA_n ?_
  refine AWP.cond rfl (fun h0 => ?_) (fun h0 => ?_)
  · skip
    simp [-List.getD_eq_getElem?_getD] at h0
    refine AWP.seq ?_
    refine AWP.region (fun _ => ?_)
    refine ARun.move (.inr rfl) rfl rfl rfl (Ev.plain rfl) optN ?_
    refine ⟨_, _, rfl, hG, ?_⟩
    refine thenA_n ?_
    refine AWP.ret ?_
    refine thenA_r ?_
    refine endF.one (.inr rfl) rfl (.tmp rfl) ?_ hN
    rw [okE_big (by omega)]; rfl
  · skip
    simp [-List.getD_eq_getElem?_getD] at h0
    refine AWP.skip ?_
    refine thenA_n ?_
    refine AWP.seq ?_
    refine AWP.seq ?_
    refine AWP.region (fun _ => ?_)
    refine ARun.move (.inl rfl) rfl rfl rfl (Ev.plain rfl) optN ?_
    refine ARun.lenSl rfl rfl rfl rfl Try.underlying22 (Ev.plain rfl) optN ?_
    refine ARun.move (.inl rfl) rfl rfl rfl (Ev.plain rfl) optN ?_
    refine ⟨_, _, rfl, hG, ?_⟩
    refine thenA_n ?_
    refine AWP.block ?_
    refine AWP.rounds (fun k => k ≤ l.length ∧ okFrom 0 (l.take k) = true) (fun k => [(0, .sl (l.map aSe)), (8, .sl (l.map aSe)), (9, .int .i64 ((l.map aSe).length : Int)), (10, .int .i64 (k : Int))]) (fun k => []) (fun k => l.length - k) 0 0 ⟨by omega, rfl⟩ (by repeat (first | exact .nil | refine .cons rfl ?_)) rfl (fun _ => rfl) (fun _ => (by simp [AO.conts, AV.cells, aSe])) (fun k hI => ?_)
    obtain ⟨hk, hok⟩ := hI
    refine AWP.seq ?_
    refine AWP.region (fun _ => ?_)
    refine ARun.cmp rfl rfl rfl rfl (Ev.plain rfl) (Ev.plain rfl) rfl optN ?_
    refine ⟨_, _, rfl, hG, ?_⟩
    refine thenA_n ?_
    refine AWP.seq ?_
    refine AWP.cond rfl (fun h1 => ?_) (fun h1 => ?_)
    · skip
      simp [-List.getD_eq_getElem?_getD] at h1
      refine AWP.skip ?_
      refine thenA_n ?_
      refine AWP.seq ?_
      refine AWP.block ?_
      refine AWP.seq ?_
      refine AWP.region (fun _ => ?_)
      refine ARun.move (.inl rfl) rfl rfl rfl (Ev.plain rfl) optN ?_
      first | refine ARun.indexSl rfl rfl rfl rfl Try.underlying22 sz24 (Ev.plain rfl) (Ev.plain rfl) (fun _ => rfl) (fun hg => getMap _ _ _ (by (try simp at hg); omega)) rfl rfl optN ?_ | refine ARun.indexSl rfl rfl rfl rfl Try.underlying22 sz24 (Ev.plain rfl) (Ev.plain rfl) (fun hg => ofNonneg (by (try simp at hg); omega)) (fun hg => getMap _ _ _ (by (try simp at hg); omega)) rfl rfl optN ?_
      refine ARun.loadPeA rfl rfl rfl rfl Try.underlying24 rfl sz24 (Ev.plain rfl) rfl optN ?_
      refine ARun.alloc (j := 0) hG rfl rfl rfl rfl rfl zv24 rfl optN ?_
      refine ARun.move (.inr rfl) rfl rfl rfl (Ev.plain rfl) optN ?_
      refine ARun.storeL hG rfl rfl rfl sz24 (Ev.plain rfl) (Ev.plain rfl) rfl rfl rfl rfl rfl (Nat.le_of_ble_eq_true rfl) rfl rfl ?_
      refine ⟨_, _, rfl, hG, ?_⟩
      refine thenA_n ?_
      refine AWP.seq ?_
      refine AWP.draw mixed (by kernel_rfl) (fun _ => ?_)
      refine ARun.loadBoxA rfl rfl rfl rfl Try.underlying24 rfl sz24 (Ev.plain rfl) ((hG.at _ _).trans rfl) rfl rfl optN ?_
      refine ARun.call rfl rfl rfl rfl cf19 (Ev.plain rfl) (.cons (Ev.plain rfl) .nil) rfl (fun hg => may_fn _) optN ?_
      refine ARun.not rfl rfl rfl rfl (Ev.plain rfl) optN ?_
      refine ARun.move (.inl rfl) rfl rfl rfl (Ev.plain rfl) optN ?_
      refine ARun.move (.inl rfl) rfl rfl rfl (Ev.plain rfl) optS ?_
      refine ARun.cmp rfl rfl rfl rfl (Ev.opt rfl id) (Ev.plain rfl) rfl optS ?_
      refine ARun.move (.inl rfl) rfl rfl rfl (Ev.opt rfl id) optS ?_
      refine ARun.fieldBox rfl rfl rfl rfl Try.underlying24 rfl rfl sz3 (by decide) (Ev.plain rfl) ((hG.at _ _).trans rfl) optS ?_
      refine ARun.loadBox rfl rfl rfl rfl Try.underlying3 rfl (Ev.opt rfl id) ((hG.at _ _).trans rfl) rfl optS ?_
      refine ARun.move (.inl rfl) rfl rfl rfl (Ev.plain rfl) optS ?_
      refine ARun.move (.inl rfl) rfl rfl rfl (Ev.plain rfl) optS ?_
      first | refine ARun.arith rfl rfl rfl rfl (Ev.opt rfl id) (Ev.plain rfl) rfl (fun hg => i64w (by (try simp at hg); omega)) optS ?_ | refine ARun.arith rfl rfl rfl rfl (Ev.opt rfl id) (Ev.plain rfl) rfl (fun _ => rfl) optS ?_
      first | refine ARun.indexSl rfl rfl rfl rfl Try.underlying22 sz24 (Ev.opt rfl id) (Ev.opt rfl id) (fun _ => rfl) (fun hg => getMap _ _ _ (by (try simp at hg); omega)) rfl rfl optS ?_ | refine ARun.indexSl rfl rfl rfl rfl Try.underlying22 sz24 (Ev.opt rfl id) (Ev.opt rfl id) (fun hg => ofNonneg (by (try simp at hg); omega)) (fun hg => getMap _ _ _ (by (try simp at hg); omega)) rfl rfl optS ?_
      refine ARun.fieldPe rfl rfl rfl rfl Try.underlying24 rfl rfl sz3 (by decide) (Ev.opt rfl id) rfl optS ?_
      refine ARun.loadPe rfl rfl rfl rfl Try.underlying3 rfl (Ev.opt rfl id) rfl optS ?_
      refine ARun.cmp rfl rfl rfl rfl (Ev.opt rfl id) (Ev.opt rfl id) rfl optS ?_
      refine ARun.pick rfl rfl rfl rfl (Ev.opt rfl id) (Ev.opt rfl (by first | exact pkT | exact pkT2 | simp +contextual)) (Ev.plain rfl) (andB _ _) optS ?_
      refine ARun.pick rfl rfl rfl rfl (Ev.plain rfl) (Ev.plain rfl) (Ev.opt rfl (by first | exact pkF | exact pkF2 | simp +contextual)) (orB _ _) optN ?_
      refine ⟨by kernel_rfl, _, _, rfl, hG, ?_⟩
      refine thenA_n ?_
      refine AWP.cond rfl (fun h2 => ?_) (fun h2 => ?_)
      · skip
        simp [-List.getD_eq_getElem?_getD] at h2
        refine AWP.seq ?_
        refine AWP.region (fun _ => ?_)
        refine ARun.move (.inr rfl) rfl rfl rfl (Ev.plain rfl) optN ?_
        refine ⟨_, _, rfl, hG, ?_⟩
        refine thenA_n ?_
        refine AWP.ret ?_
        refine blockA_r ?_
        refine thenA_r ?_
        refine thenA_r ?_
        refine blockA_r ?_
        refine thenA_r ?_
        refine endF.one (.inr rfl) rfl (.tmp rfl) ?_ hN
        rw [chk_bad h1 h2]; rfl
      · skip
        simp [-List.getD_eq_getElem?_getD] at h2
        refine AWP.skip ?_
        refine blockA_n ?_
        refine thenA_n ?_
        refine AWP.region (fun _ => ?_)
        first | refine ARun.arith rfl rfl rfl rfl (Ev.plain rfl) (Ev.plain rfl) rfl (fun hg => i64w (by (try simp at hg); omega)) optN ?_ | refine ARun.arith rfl rfl rfl rfl (Ev.plain rfl) (Ev.plain rfl) rfl (fun _ => rfl) optN ?_
        refine ARun.move (.inl rfl) rfl rfl rfl (Ev.plain rfl) optN ?_
        refine ⟨_, _, rfl, hG, ?_⟩
        refine thenA_n ⟨rfl, k + 1, _, ?_, ?_, rfl, ?_⟩
        · exact ⟨by omega, chk_go h1 hok h2⟩
        · repeat (first | exact .nil | refine .cons rfl ?_)
        · omega
    · skip
      simp [-List.getD_eq_getElem?_getD] at h1
      refine AWP.exit ?_
      refine thenA_x ?_
      refine thenA_x ?_
      refine blockA_h ?_
      refine thenA_n ?_
      refine AWP.seq ?_
      refine AWP.region (fun _ => ?_)
      refine ARun.move (.inr rfl) rfl rfl rfl (Ev.plain rfl) optN ?_
      refine ⟨_, _, rfl, hG, ?_⟩
      refine thenA_n ?_
      refine AWP.ret ?_
      refine endF.one (.inr rfl) rfl (.tmp rfl) ?_ hN
      rw [okE_good (by omega) (by rw [← List.take_of_length_le h1]; exact hok)]; rfl
set_option maxHeartbeats 1000000 in
theorem indexSe (F : Nat) (fs cs : List AV) (p : Se → Bool) (l : List Se) (hl : l.length ≤ 9223372036854775807) (hcf : ∀ (vs : Array Value) (W : World), (callFunc F vs).run Try.prog W = .ok (.enter F vs) W) (hn : (∀ x, x ∈ fs → NoH 0 x) ∧ ∀ x, x ∈ cs → NoH 0 x) (hp : ∀ x, x ∈ l → FnP Try.prog F (fs ++ [aSe x] ++ cs) (.bool (p x))) : FnP Try.prog 21 [.sl (l.map aSe), .fn (.func F) fs cs] (.int .i64 (idxOf p l)) := by
  refine FnP.of Try.func21 rfl rfl (by simp) (by simp [AV.cells, aSe]) (fun G hG => ?_)
  have hN : NoH G.length (.int .i64 (idxOf p l)) := (by simp [AV.cells, aSe])
  refine AWP.seq ?_
  refine AWP.region (fun _ => ?_)
  refine ARun.move (.inr rfl) rfl rfl rfl (Ev.plain rfl) optN ?_
  refine ⟨_, _, rfl, hG, ?_⟩
  refine thenA_n ?_
  refine AWP.seq ?_
  refine AWP.seq ?_
  refine AWP.region (fun _ => ?_)
  refine ARun.move (.inl rfl) rfl rfl rfl (Ev.plain rfl) optN ?_
  refine ARun.lenSl rfl rfl rfl rfl Try.underlying22 (Ev.plain rfl) optN ?_
  refine ARun.move (.inl rfl) rfl rfl rfl (Ev.plain rfl) optN ?_
  refine ⟨_, _, rfl, hG, ?_⟩
  refine thenA_n ?_
  refine AWP.block ?_
  refine AWP.rounds (fun k => k ≤ l.length ∧ ∀ j, j < k → p (l.getD j default) = false) (fun k => [(0, .sl (l.map aSe)), (1, .fn (.func F) fs cs), (7, .int .i64 ((l.map aSe).length : Int)), (8, .int .i64 (k : Int))]) (fun k => []) (fun k => l.length - k) 0 0 ⟨by omega, fun j h => by omega⟩ (by repeat (first | exact .nil | refine .cons rfl ?_)) rfl (fun _ => rfl) (fun _ => ⟨by simp [AV.cells, aSe]; exact ⟨fun x hx => (hn.1 x hx).mono (by omega), fun x hx => (hn.2 x hx).mono (by omega)⟩, by simp⟩) (fun k hI => ?_)
  obtain ⟨hk, hno⟩ := hI
  refine AWP.seq ?_
  refine AWP.region (fun _ => ?_)
  refine ARun.cmp rfl rfl rfl rfl (Ev.plain rfl) (Ev.plain rfl) rfl optN ?_
  refine ⟨_, _, rfl, hG, ?_⟩
  refine thenA_n ?_
  refine AWP.seq ?_
  refine AWP.cond rfl (fun h0 => ?_) (fun h0 => ?_)
  · skip
    try simp [-List.getD_eq_getElem?_getD] at h0
    refine AWP.skip ?_
    refine thenA_n ?_
    refine AWP.seq ?_
    refine AWP.block ?_
    refine AWP.seq ?_
    refine AWP.region (fun _ => ?_)
    refine ARun.move (.inl rfl) rfl rfl rfl (Ev.plain rfl) optN ?_
    refine ARun.move (.inr rfl) rfl rfl rfl (Ev.plain rfl) optN ?_
    refine ⟨_, _, rfl, hG, ?_⟩
    refine thenA_n ?_
    refine AWP.seq ?_
    refine AWP.region (fun _ => ?_)
    refine ARun.move (.inl rfl) rfl rfl rfl (Ev.plain rfl) optN ?_
    refine ARun.move (.inl rfl) rfl rfl rfl (Ev.plain rfl) optN ?_
    refine ARun.move (.inl rfl) rfl rfl rfl (Ev.plain rfl) optN ?_
    first | refine ARun.indexSl rfl rfl rfl rfl Try.underlying22 sz24 (Ev.plain rfl) (Ev.plain rfl) (fun _ => rfl) (fun hg => getMap _ _ _ (by (try simp at hg); omega)) rfl rfl optN ?_ | refine ARun.indexSl rfl rfl rfl rfl Try.underlying22 sz24 (Ev.plain rfl) (Ev.plain rfl) (fun hg => ofNonneg (by (try simp at hg); omega)) (fun hg => getMap _ _ _ (by (try simp at hg); omega)) rfl rfl optN ?_
    refine ARun.loadPeA rfl rfl rfl rfl Try.underlying24 rfl sz24 (Ev.plain rfl) rfl optN ?_
    refine ARun.call rfl rfl rfl rfl hcf (Ev.plain rfl) (.cons (Ev.plain rfl) .nil) rfl (fun hg => hp _ (by rw [List.getD, List.getElem?_eq_getElem h0]; exact List.getElem_mem h0)) optN ?_
    refine ⟨_, _, rfl, hG, ?_⟩
    refine thenA_n ?_
    refine AWP.cond rfl (fun h1 => ?_) (fun h1 => ?_)
    · skip
      try simp [-List.getD_eq_getElem?_getD] at h1
      refine AWP.seq ?_
      refine AWP.region (fun _ => ?_)
      refine ARun.move (.inl rfl) rfl rfl rfl (Ev.plain rfl) optN ?_
      refine ARun.move (.inr rfl) rfl rfl rfl (Ev.plain rfl) optN ?_
      refine ⟨_, _, rfl, hG, ?_⟩
      refine thenA_n ?_
      refine AWP.ret ?_
      refine blockA_r ?_
      refine thenA_r ?_
      refine thenA_r ?_
      refine blockA_r ?_
      refine thenA_r ?_
      refine endF.one (.inr rfl) rfl (.tmp rfl) ?_ hN
      rw [idx_hit h0 hno h1]
    · skip
      try simp [-List.getD_eq_getElem?_getD] at h1
      refine AWP.skip ?_
      refine blockA_n ?_
      refine thenA_n ?_
      refine AWP.region (fun _ => ?_)
      first | refine ARun.arith rfl rfl rfl rfl (Ev.plain rfl) (Ev.plain rfl) rfl (fun hg => i64w (by (try simp at hg); omega)) optN ?_ | refine ARun.arith rfl rfl rfl rfl (Ev.plain rfl) (Ev.plain rfl) rfl (fun _ => rfl) optN ?_
      refine ARun.move (.inl rfl) rfl rfl rfl (Ev.plain rfl) optN ?_
      refine ⟨_, _, rfl, hG, ?_⟩
      refine thenA_n ⟨rfl, k + 1, _, ?_, ?_, rfl, ?_⟩
      · refine ⟨by omega, fun j hj => ?_⟩
        by_cases e : j = k
        · subst e; exact h1
        · exact hno j (by omega)
      · repeat (first | exact .nil | refine .cons rfl ?_)
      · omega
  · skip
    try simp [-List.getD_eq_getElem?_getD] at h0
    refine AWP.exit ?_
    refine thenA_x ?_
    refine thenA_x ?_
    refine blockA_h ?_
    refine thenA_n ?_
    refine AWP.seq ?_
    refine AWP.region (fun _ => ?_)
    refine ARun.move (.inr rfl) rfl rfl rfl (Ev.plain rfl) optN ?_
    refine ⟨_, _, rfl, hG, ?_⟩
    refine thenA_n ?_
    refine AWP.ret ?_
    refine endF.one (.inr rfl) rfl (.tmp rfl) ?_ hN
    rw [idx_none (fun j hj => hno j (by omega))]; rfl
set_option maxHeartbeats 1000000 in
theorem eq_fn (a b : List Se) (hl : a.length ≤ 9223372036854775807) : FnP Try.prog 25 [.sl (a.map aSe), .sl (b.map aSe)] (.bool (decide (a = b))) := by
  refine FnP.of Try.func25 rfl rfl (by simp) (by simp [AV.cells, aSe]) (fun G hG => ?_)
  have hN : NoH G.length (.bool (decide (a = b))) := (by simp [AV.cells, aSe])
  refine AWP.seq ?_
  refine AWP.region (fun _ => ?_)
  refine ARun.move (.inr rfl) rfl rfl rfl (Ev.plain rfl) optN ?_
  refine ⟨_, _, rfl, hG, ?_⟩
  refine thenA_n ?_
  refine AWP.seq ?_
  refine AWP.seq ?_
  refine AWP.region (fun _ => ?_)
  refine ARun.move (.inl rfl) rfl rfl rfl (Ev.plain rfl) optN ?_
  refine ARun.lenSl rfl rfl rfl rfl Try.underlying22 (Ev.plain rfl) optN ?_
  refine ARun.move (.inl rfl) rfl rfl rfl (Ev.plain rfl) optN ?_
  refine ARun.lenSl rfl rfl rfl rfl Try.underlying22 (Ev.plain rfl) optN ?_
  refine ARun.cmp rfl rfl rfl rfl (Ev.plain rfl) (Ev.plain rfl) rfl optN ?_
  refine ⟨_, _, rfl, hG, ?_⟩
  refine thenA_n ?_
  refine AWP.cond rfl (fun h0 => ?_) (fun h0 => ?_)
  · skip
    simp [-List.getD_eq_getElem?_getD] at h0
    refine AWP.seq ?_
    refine AWP.region (fun _ => ?_)
    refine ARun.move (.inr rfl) rfl rfl rfl (Ev.plain rfl) optN ?_
    refine ⟨_, _, rfl, hG, ?_⟩
    refine thenA_n ?_
    refine AWP.ret ?_
    refine thenA_r ?_
    refine endF.one (.inr rfl) rfl (.tmp rfl) ?_ hN
    rw [decide_eq_false (fun e => absurd (congrArg List.length e) (by omega))]; rfl
  · skip
    simp [-List.getD_eq_getElem?_getD] at h0
    refine AWP.skip ?_
    refine thenA_n ?_
    refine AWP.seq ?_
    refine AWP.seq ?_
    refine AWP.region (fun _ => ?_)
    refine ARun.move (.inl rfl) rfl rfl rfl (Ev.plain rfl) optN ?_
    refine ARun.lenSl rfl rfl rfl rfl Try.underlying22 (Ev.plain rfl) optN ?_
    refine ARun.move (.inl rfl) rfl rfl rfl (Ev.plain rfl) optN ?_
    refine ⟨_, _, rfl, hG, ?_⟩
    refine thenA_n ?_
    refine AWP.block ?_
    refine AWP.rounds (fun k => k ≤ a.length ∧ a.take k = b.take k) (fun k => [(0, .sl (a.map aSe)), (1, .sl (b.map aSe)), (12, .int .i64 ((a.map aSe).length : Int)), (13, .int .i64 (k : Int))]) (fun k => []) (fun k => a.length - k) 0 0 ⟨by omega, rfl⟩ (by repeat (first | exact .nil | refine .cons rfl ?_)) rfl (fun _ => rfl) (fun _ => (by simp [AO.conts, AV.cells, aSe])) (fun k hI => ?_)
    obtain ⟨hk, hs⟩ := hI
    refine AWP.seq ?_
    refine AWP.region (fun _ => ?_)
    refine ARun.cmp rfl rfl rfl rfl (Ev.plain rfl) (Ev.plain rfl) rfl optN ?_
    refine ⟨_, _, rfl, hG, ?_⟩
    refine thenA_n ?_
    refine AWP.seq ?_
    refine AWP.cond rfl (fun h1 => ?_) (fun h1 => ?_)
    · skip
      simp [-List.getD_eq_getElem?_getD] at h1
      refine AWP.skip ?_
      refine thenA_n ?_
      refine AWP.seq ?_
      refine AWP.block ?_
      refine AWP.seq ?_
      refine AWP.region (fun _ => ?_)
      refine ARun.move (.inl rfl) rfl rfl rfl (Ev.plain rfl) optN ?_
      refine ARun.move (.inr rfl) rfl rfl rfl (Ev.plain rfl) optN ?_
      refine ⟨_, _, rfl, hG, ?_⟩
      refine thenA_n ?_
      refine AWP.seq ?_
      refine AWP.draw mixed (by kernel_rfl) (fun _ => ?_)
      refine ARun.move (.inl rfl) rfl rfl rfl (Ev.plain rfl) optN ?_
      refine ARun.move (.inl rfl) rfl rfl rfl (Ev.plain rfl) optN ?_
      first | refine ARun.indexSl rfl rfl rfl rfl Try.underlying22 sz24 (Ev.plain rfl) (Ev.plain rfl) (fun _ => rfl) (fun hg => getMap _ _ _ (by (try simp at hg); omega)) rfl rfl optN ?_ | refine ARun.indexSl rfl rfl rfl rfl Try.underlying22 sz24 (Ev.plain rfl) (Ev.plain rfl) (fun hg => ofNonneg (by (try simp at hg); omega)) (fun hg => getMap _ _ _ (by (try simp at hg); omega)) rfl rfl optN ?_
      refine ARun.loadPeA rfl rfl rfl rfl Try.underlying24 rfl sz24 (Ev.plain rfl) rfl optN ?_
      refine ARun.move (.inl rfl) rfl rfl rfl (Ev.plain rfl) optN ?_
      refine ARun.move (.inl rfl) rfl rfl rfl (Ev.plain rfl) optN ?_
      first | refine ARun.indexSl rfl rfl rfl rfl Try.underlying22 sz24 (Ev.plain rfl) (Ev.plain rfl) (fun _ => rfl) (fun hg => getMap _ _ _ (by (try simp at hg); omega)) rfl rfl optN ?_ | refine ARun.indexSl rfl rfl rfl rfl Try.underlying22 sz24 (Ev.plain rfl) (Ev.plain rfl) (fun hg => ofNonneg (by (try simp at hg); omega)) (fun hg => getMap _ _ _ (by (try simp at hg); omega)) rfl rfl optN ?_
      refine ARun.loadPeA rfl rfl rfl rfl Try.underlying24 rfl sz24 (Ev.plain rfl) rfl optN ?_
      refine ARun.eqAgg rfl rfl rfl rfl eq24 (Ev.plain rfl) (Ev.plain rfl) rfl (.inr ⟨rfl, rfl⟩) optN ?_
      refine ⟨by kernel_rfl, _, _, rfl, hG, ?_⟩
      refine thenA_n ?_
      refine AWP.cond rfl (fun h2 => ?_) (fun h2 => ?_)
      · skip
        simp [-List.getD_eq_getElem?_getD] at h2
        refine AWP.seq ?_
        refine AWP.region (fun _ => ?_)
        refine ARun.move (.inr rfl) rfl rfl rfl (Ev.plain rfl) optN ?_
        refine ⟨_, _, rfl, hG, ?_⟩
        refine thenA_n ?_
        refine AWP.ret ?_
        refine blockA_r ?_
        refine thenA_r ?_
        refine thenA_r ?_
        refine blockA_r ?_
        refine thenA_r ?_
        refine endF.one (.inr rfl) rfl (.tmp rfl) ?_ hN
        rw [decide_eq_false (ne_of_get (k := k) (aSe_ne h2))]; rfl
      · skip
        simp [-List.getD_eq_getElem?_getD] at h2
        refine AWP.skip ?_
        refine blockA_n ?_
        refine thenA_n ?_
        refine AWP.region (fun _ => ?_)
        first | refine ARun.arith rfl rfl rfl rfl (Ev.plain rfl) (Ev.plain rfl) rfl (fun hg => i64w (by (try simp at hg); omega)) optN ?_ | refine ARun.arith rfl rfl rfl rfl (Ev.plain rfl) (Ev.plain rfl) rfl (fun _ => rfl) optN ?_
        refine ARun.move (.inl rfl) rfl rfl rfl (Ev.plain rfl) optN ?_
        refine ⟨_, _, rfl, hG, ?_⟩
        refine thenA_n ⟨rfl, k + 1, _, ?_, ?_, rfl, ?_⟩
        · exact ⟨by omega, take_eq_go hs h1 (by omega) (aSe_ext h2)⟩
        · repeat (first | exact .nil | refine .cons rfl ?_)
        · omega
    · skip
      simp [-List.getD_eq_getElem?_getD] at h1
      refine AWP.exit ?_
      refine thenA_x ?_
      refine thenA_x ?_
      refine blockA_h ?_
      refine thenA_n ?_
      refine AWP.seq ?_
      refine AWP.region (fun _ => ?_)
      refine ARun.move (.inr rfl) rfl rfl rfl (Ev.plain rfl) optN ?_
      refine ⟨_, _, rfl, hG, ?_⟩
      refine thenA_n ?_
      refine AWP.ret ?_
      refine endF.one (.inr rfl) rfl (.tmp rfl) ?_ hN
      rw [decide_eq_true (by rw [List.take_of_length_le h1, List.take_of_length_le (by omega)] at hs; exact hs)]; rfl
set_option maxHeartbeats 1000000 in
theorem same_fn (a b : List Se) (hl : a.length ≤ 9223372036854775807) : FnP Try.prog 14 [.sl (a.map aSe), .sl (b.map aSe)] (.bool (decide (a = b))) := by
  refine FnP.of Try.func14 rfl rfl (by simp) (by simp [AV.cells, aSe]) (fun G hG => ?_)
  have hN : NoH G.length (.bool (decide (a = b))) := (by simp [AV.cells, aSe])
  refine AWP.seq ?_
  refine AWP.region (fun _ => ?_)
  refine ARun.move (.inr rfl) rfl rfl rfl (Ev.plain rfl) optN ?_
  refine ⟨_, _, rfl, hG, ?_⟩
  refine thenA_n ?_
  refine AWP.seq ?_
  refine AWP.seq ?_
  refine AWP.region (fun _ => ?_)
  refine ARun.move (.inl rfl) rfl rfl rfl (Ev.plain rfl) optN ?_
  refine ARun.lenSl rfl rfl rfl rfl Try.underlying22 (Ev.plain rfl) optN ?_
  refine ARun.move (.inl rfl) rfl rfl rfl (Ev.plain rfl) optN ?_
  refine ARun.lenSl rfl rfl rfl rfl Try.underlying22 (Ev.plain rfl) optN ?_
  refine ARun.cmp rfl rfl rfl rfl (Ev.plain rfl) (Ev.plain rfl) rfl optN ?_
  refine ⟨_, _, rfl, hG, ?_⟩
  refine thenA_n ?_
  refine AWP.cond rfl (fun h0 => ?_) (fun h0 => ?_)
  · skip
    simp [-List.getD_eq_getElem?_getD] at h0
    refine AWP.seq ?_
    refine AWP.region (fun _ => ?_)
    refine ARun.move (.inr rfl) rfl rfl rfl (Ev.plain rfl) optN ?_
    refine ⟨_, _, rfl, hG, ?_⟩
    refine thenA_n ?_
    refine AWP.ret ?_
    refine thenA_r ?_
    refine endF.one (.inr rfl) rfl (.tmp rfl) ?_ hN
    rw [decide_eq_false (fun e => absurd (congrArg List.length e) (by omega))]; rfl
  · skip
    simp [-List.getD_eq_getElem?_getD] at h0
    refine AWP.skip ?_
    refine thenA_n ?_
    refine AWP.seq ?_
    refine AWP.seq ?_
    refine AWP.region (fun _ => ?_)
    refine ARun.move (.inr rfl) rfl rfl rfl (Ev.plain rfl) optN ?_
    refine ⟨_, _, rfl, hG, ?_⟩
    refine thenA_n ?_
    refine AWP.block ?_
    refine AWP.rounds (fun k => k ≤ a.length ∧ a.take k = b.take k) (fun k => [(0, .sl (a.map aSe)), (1, .sl (b.map aSe)), (5, .int .i64 (k : Int))]) (fun k => []) (fun k => a.length - k) 0 0 ⟨by omega, rfl⟩ (by repeat (first | exact .nil | refine .cons rfl ?_)) rfl (fun _ => rfl) (fun _ => (by simp [AO.conts, AV.cells, aSe])) (fun k hI => ?_)
    obtain ⟨hk, hs⟩ := hI
    refine AWP.seq ?_
    refine AWP.seq ?_
    refine AWP.region (fun _ => ?_)
    refine ARun.move (.inl rfl) rfl rfl rfl (Ev.plain rfl) optN ?_
    refine ARun.move (.inl rfl) rfl rfl rfl (Ev.plain rfl) optN ?_
    refine ARun.lenSl rfl rfl rfl rfl Try.underlying22 (Ev.plain rfl) optN ?_
    refine ARun.cmp rfl rfl rfl rfl (Ev.plain rfl) (Ev.plain rfl) rfl optN ?_
    refine ⟨_, _, rfl, hG, ?_⟩
    refine thenA_n ?_
    refine AWP.cond rfl (fun h1 => ?_) (fun h1 => ?_)
    · skip
      simp [-List.getD_eq_getElem?_getD] at h1
      refine AWP.skip ?_
      refine thenA_n ?_
      refine AWP.seq ?_
      refine AWP.block ?_
      refine AWP.seq ?_
      refine AWP.draw mixed (by kernel_rfl) (fun _ => ?_)
      refine ARun.move (.inl rfl) rfl rfl rfl (Ev.plain rfl) optN ?_
      refine ARun.move (.inl rfl) rfl rfl rfl (Ev.plain rfl) optN ?_
      first | refine ARun.indexSl rfl rfl rfl rfl Try.underlying22 sz24 (Ev.plain rfl) (Ev.plain rfl) (fun _ => rfl) (fun hg => getMap _ _ _ (by (try simp at hg); omega)) rfl rfl optN ?_ | refine ARun.indexSl rfl rfl rfl rfl Try.underlying22 sz24 (Ev.plain rfl) (Ev.plain rfl) (fun hg => ofNonneg (by (try simp at hg); omega)) (fun hg => getMap _ _ _ (by (try simp at hg); omega)) rfl rfl optN ?_
      refine ARun.loadPeA rfl rfl rfl rfl Try.underlying24 rfl sz24 (Ev.plain rfl) rfl optN ?_
      refine ARun.move (.inl rfl) rfl rfl rfl (Ev.plain rfl) optN ?_
      refine ARun.move (.inl rfl) rfl rfl rfl (Ev.plain rfl) optN ?_
      first | refine ARun.indexSl rfl rfl rfl rfl Try.underlying22 sz24 (Ev.plain rfl) (Ev.plain rfl) (fun _ => rfl) (fun hg => getMap _ _ _ (by (try simp at hg); omega)) rfl rfl optN ?_ | refine ARun.indexSl rfl rfl rfl rfl Try.underlying22 sz24 (Ev.plain rfl) (Ev.plain rfl) (fun hg => ofNonneg (by (try simp at hg); omega)) (fun hg => getMap _ _ _ (by (try simp at hg); omega)) rfl rfl optN ?_
      refine ARun.loadPeA rfl rfl rfl rfl Try.underlying24 rfl sz24 (Ev.plain rfl) rfl optN ?_
      refine ARun.eqAgg rfl rfl rfl rfl eq24 (Ev.plain rfl) (Ev.plain rfl) rfl (.inr ⟨rfl, rfl⟩) optN ?_
      refine ⟨by kernel_rfl, _, _, rfl, hG, ?_⟩
      refine thenA_n ?_
      refine AWP.cond rfl (fun h2 => ?_) (fun h2 => ?_)
      · skip
        simp [-List.getD_eq_getElem?_getD] at h2
        refine AWP.seq ?_
        refine AWP.region (fun _ => ?_)
        refine ARun.move (.inr rfl) rfl rfl rfl (Ev.plain rfl) optN ?_
        refine ⟨_, _, rfl, hG, ?_⟩
        refine thenA_n ?_
        refine AWP.ret ?_
        refine blockA_r ?_
        refine thenA_r ?_
        refine thenA_r ?_
        refine blockA_r ?_
        refine thenA_r ?_
        refine endF.one (.inr rfl) rfl (.tmp rfl) ?_ hN
        rw [decide_eq_false (ne_of_get (k := k) (aSe_ne h2))]; rfl
      · skip
        simp [-List.getD_eq_getElem?_getD] at h2
        refine AWP.skip ?_
        refine blockA_n ?_
        refine thenA_n ?_
        refine AWP.region (fun _ => ?_)
        refine ARun.move (.inl rfl) rfl rfl rfl (Ev.plain rfl) optN ?_
        first | refine ARun.arith rfl rfl rfl rfl (Ev.plain rfl) (Ev.plain rfl) rfl (fun hg => i64w (by (try simp at hg); omega)) optN ?_ | refine ARun.arith rfl rfl rfl rfl (Ev.plain rfl) (Ev.plain rfl) rfl (fun _ => rfl) optN ?_
        refine ARun.move (.inr rfl) rfl rfl rfl (Ev.plain rfl) optN ?_
        refine ⟨_, _, rfl, hG, ?_⟩
        refine thenA_n ⟨rfl, k + 1, _, ?_, ?_, rfl, ?_⟩
        · exact ⟨by omega, take_eq_go hs h1 (by omega) (aSe_ext h2)⟩
        · repeat (first | exact .nil | refine .cons rfl ?_)
        · omega
    · skip
      simp [-List.getD_eq_getElem?_getD] at h1
      refine AWP.exit ?_
      refine thenA_x ?_
      refine thenA_x ?_
      refine blockA_h ?_
      refine thenA_n ?_
      refine AWP.seq ?_
      refine AWP.region (fun _ => ?_)
      refine ARun.move (.inr rfl) rfl rfl rfl (Ev.plain rfl) optN ?_
      refine ⟨_, _, rfl, hG, ?_⟩
      refine thenA_n ?_
      refine AWP.ret ?_
      refine endF.one (.inr rfl) rfl (.tmp rfl) ?_ hN
      rw [decide_eq_true (by rw [List.take_of_length_le h1, List.take_of_length_le (by omega)] at hs; exact hs)]; rfl
set_option maxHeartbeats 1000000 in
theorem sameP_fn (a b : List Se) (hl : a.length ≤ 9223372036854775807) : FnP Try.prog 17 [.sl (a.map aSe), .sl (b.map aSe)] (.bool (decide (a = b))) := by
  refine FnP.of Try.func17 rfl rfl (by simp) (by simp [AV.cells, aSe]) (fun G hG => ?_)
  have hN : NoH G.length (.bool (decide (a = b))) := (by simp [AV.cells, aSe])
  refine AWP.seq ?_
  refine AWP.region (fun _ => ?_)
  refine ARun.move (.inr rfl) rfl rfl rfl (Ev.plain rfl) optN ?_
  refine ⟨_, _, rfl, hG, ?_⟩
  refine thenA_n ?_
  refine AWP.seq ?_
  refine AWP.region (fun _ => ?_)
  refine ARun.move (.inl rfl) rfl rfl rfl (Ev.plain rfl) optN ?_
  refine ARun.move (.inl rfl) rfl rfl rfl (Ev.plain rfl) optN ?_
  refine ARun.call rfl rfl rfl rfl cf25 (Ev.plain rfl) (.cons (Ev.plain rfl) (.cons (Ev.plain rfl) .nil)) rfl (fun hg => eq_fn _ _ hl) optN ?_
  refine ARun.move (.inr rfl) rfl rfl rfl (Ev.plain rfl) optN ?_
  refine ⟨_, _, rfl, hG, ?_⟩
  refine thenA_n ?_
  refine AWP.ret ?_
  refine endF.one (.inr rfl) rfl (.tmp rfl) ?_ hN
  rfl
/-- a client's session -/
def findP (l : List Se) (c : Int) : Se × Bool := if 0 ≤ idxOf (fun x => decide (x.client = c)) l then (l.getD (idxOf (fun x => decide (x.client = c)) l).toNat default, true) else (default, false)
theorem idx_range {α : Type} (p : α → Bool) (l : List α) : -1 ≤ idxOf p l ∧ idxOf p l < l.length := by
  unfold idxOf
  cases h : l.findIdx? p with
  | none => simp; omega
  | some i =>
    obtain ⟨hi, _⟩ := List.findIdx?_eq_some_iff_getElem.1 h
    simp; omega
set_option maxHeartbeats 1000000 in
theorem off_fn (x : Se) (c : Int) : FnP Try.prog 26 [aSe x, .pe [.int .i64 c]] (.bool (decide (x.client = c))) := by
  refine FnP.of Try.func26 rfl rfl (by simp) (by simp [AV.cells, aSe]) (fun G hG => ?_)
  have hN : NoH G.length (.bool (decide (x.client = c))) := (by simp [AV.cells, aSe])
  refine AWP.seq ?_
  refine AWP.region (fun _ => ?_)
  refine ARun.box (j := 0) hG rfl rfl rfl rfl rfl (Ev.plain rfl) rfl rfl optN ?_
  refine ARun.move (.inr rfl) rfl rfl rfl (Ev.plain rfl) optN ?_
  refine ⟨_, _, rfl, hG, ?_⟩
  refine thenA_n ?_
  refine AWP.seq ?_
  refine AWP.region (fun _ => ?_)
  refine ARun.fieldBox rfl rfl rfl rfl Try.underlying24 rfl rfl sz3 (by decide) (Ev.plain rfl) ((hG.at _ _).trans rfl) optN ?_
  refine ARun.loadBox rfl rfl rfl rfl Try.underlying3 rfl (Ev.plain rfl) ((hG.at _ _).trans rfl) rfl optN ?_
  first | refine ARun.loadPe rfl rfl rfl rfl Try.underlying3 rfl (Ev.plain rfl) rfl optN ?_ | refine ARun.loadBox rfl rfl rfl rfl Try.underlying3 rfl (Ev.plain rfl) ((hG.at _ _).trans rfl) rfl optN ?_
  refine ARun.cmp rfl rfl rfl rfl (Ev.plain rfl) (Ev.plain rfl) rfl optN ?_
  refine ARun.move (.inr rfl) rfl rfl rfl (Ev.plain rfl) optN ?_
  refine ⟨_, _, rfl, hG, ?_⟩
  refine thenA_n ?_
  refine AWP.ret ?_
  refine endF.one (.inr rfl) rfl (.tmp rfl) ?_ hN
  rfl
set_option maxHeartbeats 1000000 in
theorem of_fn (c : Int) : FnP Try.prog 22 [.int .i64 c] (.fn (.func 26) [] [.pe [.int .i64 c]]) := by
  refine FnP.of Try.func22 rfl rfl (by simp) (by simp [AV.cells, aSe]) (fun G hG => ?_)
  have hN : NoH G.length (.fn (.func 26) [] [.pe [.int .i64 c]]) := (by simp [AV.cells, aSe])
  refine AWP.seq ?_
  refine AWP.region (fun _ => ?_)
  refine ARun.box (j := 0) hG rfl rfl rfl rfl rfl (Ev.plain rfl) rfl rfl optN ?_
  refine ARun.move (.inr rfl) rfl rfl rfl (Ev.plain rfl) optN ?_
  refine ⟨_, _, rfl, hG, ?_⟩
  refine thenA_n ?_
  refine AWP.seq ?_
  refine AWP.frzBox 1 hG rfl rfl rfl ?_
  refine AWP.region (fun _ => ?_)
  refine ARun.makeFunc rfl rfl rfl rfl .nil (.cons (Ev.plain rfl) .nil) optN ?_
  refine ARun.move (.inr rfl) rfl rfl rfl (Ev.plain rfl) optN ?_
  refine ⟨_, _, rfl, hG, ?_⟩
  refine thenA_n ?_
  refine AWP.ret ?_
  refine endF.one (.inr rfl) rfl (.tmp rfl) ?_ hN
  rfl
set_option maxHeartbeats 1000000 in
theorem find_fn (l : List Se) (c : Int) (hl : l.length ≤ 9223372036854775807) : FnP Try.prog 12 [.sl (l.map aSe), .int .i64 c] (.tup [aSe (findP l c).1, .bool (findP l c).2]) := by
  have hr := idx_range (fun x : Se => decide (x.client = c)) l
  refine FnP.of Try.func12 rfl rfl (by simp) (by simp [AV.cells, aSe]) (fun G hG => ?_)
  have hN : NoH G.length (.tup [aSe (findP l c).1, .bool (findP l c).2]) := (by simp [AV.cells, aSe])
  refine AWP.seq ?_
  refine AWP.region (fun _ => ?_)
  refine ARun.alloc (j := 0) hG rfl rfl rfl rfl rfl zv24 rfl optN ?_
  refine ARun.move (.inr rfl) rfl rfl rfl (Ev.plain rfl) optN ?_
  refine ⟨_, _, rfl, hG, ?_⟩
  refine thenA_n ?_
  refine AWP.seq ?_
  refine AWP.region (fun _ => ?_)
  refine ARun.move (.inl rfl) rfl rfl rfl (Ev.plain rfl) optN ?_
  refine ARun.move (.inl rfl) rfl rfl rfl (Ev.plain rfl) optN ?_
  refine ARun.call rfl rfl rfl rfl cf22 (Ev.plain rfl) (.cons (Ev.plain rfl) .nil) rfl (fun hg => of_fn _) optN ?_
  refine ARun.call rfl rfl rfl rfl cf21 (Ev.plain rfl) (.cons (Ev.plain rfl) (.cons (Ev.plain rfl) .nil)) rfl (fun hg => indexSe 26 [] _ (fun x => decide (x.client = c)) l hl cf26 (by simp) (fun x _ => off_fn x c)) optN ?_
  refine ARun.move (.inr rfl) rfl rfl rfl (Ev.plain rfl) optN ?_
  refine ⟨_, _, rfl, hG, ?_⟩
  refine thenA_n ?_
  refine AWP.seq ?_
  refine AWP.seq ?_
  refine AWP.region (fun _ => ?_)
  refine ARun.move (.inl rfl) rfl rfl rfl (Ev.plain rfl) optN ?_
  refine ARun.cmp rfl rfl rfl rfl (Ev.plain rfl) (Ev.plain rfl) rfl optN ?_
  refine ⟨_, _, rfl, hG, ?_⟩
  refine thenA_n ?_
  refine AWP.cond rfl (fun h0 => ?_) (fun h0 => ?_)
  · skip
    simp at h0
    refine AWP.seq ?_
    refine AWP.region (fun _ => ?_)
    refine ARun.build rfl rfl rfl rfl so24 .nil rfl rfl optN ?_
    refine ARun.storeL hG rfl rfl rfl sz24 (Ev.plain rfl) (Ev.plain rfl) rfl rfl rfl rfl rfl (Nat.le_of_ble_eq_true rfl) rfl rfl ?_
    refine ARun.move (.inr rfl) rfl rfl rfl (Ev.plain rfl) optN ?_
    refine ⟨_, _, rfl, hG, ?_⟩
    refine thenA_n ?_
    refine AWP.ret ?_
    refine thenA_r ?_
    refine endF.many (.inr rfl) (rs := [.cell 4 24, .tmp 5]) rfl (.cons (.cellA rfl ((hG.at _ _).trans rfl) Try.underlying24 rfl sz24 rfl rfl) (.cons (.tmp rfl) .nil)) (by simp) ?_ hN
    rw [show findP l c = (default, false) from by unfold findP; rw [if_neg (by omega)]]; rfl
  · skip
    simp at h0
    refine AWP.skip ?_
    refine thenA_n ?_
    refine AWP.seq ?_
    refine AWP.region (fun _ => ?_)
    refine ARun.move (.inl rfl) rfl rfl rfl (Ev.plain rfl) optN ?_
    refine ARun.move (.inl rfl) rfl rfl rfl (Ev.plain rfl) optN ?_
    first | refine ARun.indexSl rfl rfl rfl rfl Try.underlying22 sz24 (Ev.plain rfl) (Ev.plain rfl) (fun _ => rfl) (fun hg => getMap _ _ _ (by (try simp at hg); omega)) rfl rfl optN ?_ | refine ARun.indexSl rfl rfl rfl rfl Try.underlying22 sz24 (Ev.plain rfl) (Ev.plain rfl) (fun hg => ofNonneg (by (try simp at hg); omega)) (fun hg => getMap _ _ _ (by (try simp at hg); omega)) rfl rfl optN ?_
    refine ARun.loadPeA rfl rfl rfl rfl Try.underlying24 rfl sz24 (Ev.plain rfl) rfl optN ?_
    refine ARun.storeL hG rfl rfl rfl sz24 (Ev.plain rfl) (Ev.plain rfl) rfl rfl rfl rfl rfl (Nat.le_of_ble_eq_true rfl) rfl rfl ?_
    refine ARun.move (.inr rfl) rfl rfl rfl (Ev.plain rfl) optN ?_
    refine ⟨_, _, rfl, hG, ?_⟩
    refine thenA_n ?_
    refine AWP.ret ?_
    refine endF.many (.inr rfl) (rs := [.cell 4 24, .tmp 5]) rfl (.cons (.cellA rfl ((hG.at _ _).trans rfl) Try.underlying24 rfl sz24 rfl rfl) (.cons (.tmp rfl) .nil)) (by simp) ?_ hN
    rw [show findP l c = (l.getD (idxOf (fun x => decide (x.client = c)) l).toNat default, true) from by unfold findP; rw [if_pos (by omega)]]; rfl
/-- what Ask tells -/
def askP (l : List Se) (c q : Int) : ByteArray × Bool × Int :=
  if okE l = 0 ∧ numB c = true ∧ numB q = true then
    if (findP l c).2 = true then
      if (findP l c).1.seq = q then ((findP l c).1.reply, true, 0) else if q < (findP l c).1.seq then (⟨#[]⟩, false, 45) else (⟨#[]⟩, false, 0)
    else if 20 ≤ l.length then (⟨#[]⟩, false, 8) else (⟨#[]⟩, false, 0)
  else (⟨#[]⟩, false, 2)
theorem findP_id {l : List Se} {c : Int} (h : (findP l c).2 = true) : (findP l c).1.client = c := by
  unfold findP at h ⊢
  split at h
  · rename_i hp
    rw [if_pos hp]
    unfold idxOf at hp ⊢
    cases hf : l.findIdx? (fun x => decide (x.client = c)) with
    | none => rw [hf] at hp; simp at hp
    | some i =>
      obtain ⟨hi, h2, _⟩ := List.findIdx?_eq_some_iff_getElem.1 hf
      simp [hi]; simpa using h2
  · simp at h
theorem okE_two (l : List Se) : okE l = 0 ∨ okE l = 2 := by unfold okE; split <;> simp
set_option maxHeartbeats 1000000 in
theorem ask_fn (l : List Se) (c q : Int) (hl : l.length ≤ 9223372036854775807) : FnP Try.prog 8 [.sl (l.map aSe), .int .i64 c, .int .i64 q] (.tup [.str (askP l c q).1, .bool (askP l c q).2.1, .int .i64 (askP l c q).2.2]) := by
  have hid := findP_id (l := l) (c := c)
  refine FnP.of Try.func8 rfl rfl (by simp) (by simp [AV.cells, aSe]) (fun G hG => ?_)
  have hN : NoH G.length (.tup [.str (askP l c q).1, .bool (askP l c q).2.1, .int .i64 (askP l c q).2.2]) := (by simp [AV.cells, aSe])
  refine AWP.seq ?_
  refine AWP.region (fun _ => ?_)
  refine ARun.move (.inr rfl) rfl rfl rfl (Ev.plain rfl) optN ?_
  refine ARun.move (.inr rfl) rfl rfl rfl (Ev.plain rfl) optN ?_
  refine ARun.move (.inr rfl) rfl rfl rfl (Ev.plain rfl) optN ?_
  refine ⟨_, _, rfl, hG, ?_⟩
  refine thenA_n ?_
  refine AWP.seq ?_
  refine AWP.seq ?_
  refine AWP.region (fun _ => ?_)
  refine ARun.move (.inl rfl) rfl rfl rfl (Ev.plain rfl) optN ?_
  refine ARun.call rfl rfl rfl rfl cf15 (Ev.plain rfl) (.cons (Ev.plain rfl) .nil) rfl (fun hg => check_fn l) optN ?_
  refine ARun.cmp rfl rfl rfl rfl (Ev.plain rfl) (Ev.plain rfl) rfl optN ?_
  refine ARun.move (.inl rfl) rfl rfl rfl (Ev.plain rfl) optN ?_
  refine ARun.move (.inl rfl) rfl rfl rfl (Ev.plain rfl) optS ?_
  refine ARun.call rfl rfl rfl rfl cf18 (Ev.plain rfl) (.cons (Ev.opt rfl id) .nil) rfl (fun hg => number_fn _) optS ?_
  refine ARun.not rfl rfl rfl rfl (Ev.opt rfl id) optS ?_
  refine ARun.pick rfl rfl rfl rfl (Ev.plain rfl) (Ev.plain rfl) (Ev.opt rfl (by first | exact pkF | exact pkF2 | simp +contextual)) (orB _ _) optN ?_
  refine ARun.move (.inl rfl) rfl rfl rfl (Ev.plain rfl) optN ?_
  refine ARun.move (.inl rfl) rfl rfl rfl (Ev.plain rfl) optS ?_
  refine ARun.call rfl rfl rfl rfl cf18 (Ev.plain rfl) (.cons (Ev.opt rfl id) .nil) rfl (fun hg => number_fn _) optS ?_
  refine ARun.not rfl rfl rfl rfl (Ev.opt rfl id) optS ?_
  refine ARun.pick rfl rfl rfl rfl (Ev.plain rfl) (Ev.plain rfl) (Ev.opt rfl (by first | exact pkF | exact pkF2 | simp +contextual)) (orB _ _) optN ?_
  refine ⟨_, _, rfl, hG, ?_⟩
  refine thenA_n ?_
  refine AWP.cond rfl (fun h0 => ?_) (fun h0 => ?_)
  · skip
    simp at h0
    refine AWP.seq ?_
    refine AWP.region (fun _ => ?_)
    refine ARun.move (.inr rfl) rfl rfl rfl (Ev.plain rfl) optN ?_
    refine ARun.move (.inr rfl) rfl rfl rfl (Ev.plain rfl) optN ?_
    refine ARun.move (.inr rfl) rfl rfl rfl (Ev.plain rfl) optN ?_
    refine ⟨_, _, rfl, hG, ?_⟩
    refine thenA_n ?_
    refine AWP.ret ?_
    refine thenA_r ?_
    refine endF.many (.inr rfl) (rs := [.tmp 6, .tmp 7, .tmp 8]) rfl (.cons (.tmp rfl) (.cons (.tmp rfl) (.cons (.tmp rfl) .nil))) (by simp) ?_ hN
    unfold askP; rw [if_neg (by rintro ⟨a, b, c⟩; simp_all)]; rfl
  · skip
    simp at h0
    refine AWP.skip ?_
    refine thenA_n ?_
    refine AWP.seq ?_
    refine AWP.region (fun _ => ?_)
    refine ARun.move (.inl rfl) rfl rfl rfl (Ev.plain rfl) optN ?_
    refine ARun.move (.inl rfl) rfl rfl rfl (Ev.plain rfl) optN ?_
    refine ARun.call rfl rfl rfl rfl cf12 (Ev.plain rfl) (.cons (Ev.plain rfl) (.cons (Ev.plain rfl) .nil)) rfl (fun hg => find_fn l c hl) optN ?_
    refine ARun.move (.inl rfl) rfl rfl rfl (Ev.plain rfl) optN ?_
    refine ARun.extract rfl rfl rfl rfl (Ev.plain rfl) rfl optN ?_
    refine ARun.extract rfl rfl rfl rfl (Ev.plain rfl) rfl optN ?_
    refine ARun.alloc (j := 0) hG rfl rfl rfl rfl rfl zv24 rfl optN ?_
    refine ARun.storeL hG rfl rfl rfl sz24 (Ev.plain rfl) (Ev.plain rfl) rfl rfl rfl rfl rfl (Nat.le_of_ble_eq_true rfl) rfl rfl ?_
    refine ARun.move (.inr rfl) rfl rfl rfl (Ev.plain rfl) optN ?_
    refine ⟨_, _, rfl, hG, ?_⟩
    refine thenA_n ?_
    refine AWP.seq ?_
    refine AWP.block ?_
    refine AWP.seq ?_
    refine AWP.region (fun _ => ?_)
    refine ARun.move (.inl rfl) rfl rfl rfl (Ev.plain rfl) optN ?_
    refine ARun.not rfl rfl rfl rfl (Ev.plain rfl) optN ?_
    refine ARun.move (.inl rfl) rfl rfl rfl (Ev.plain rfl) optN ?_
    refine ARun.move (.inl rfl) rfl rfl rfl (Ev.plain rfl) optS ?_
    refine ARun.lenSl rfl rfl rfl rfl Try.underlying22 (Ev.opt rfl id) optS ?_
    refine ARun.cmp rfl rfl rfl rfl (Ev.opt rfl id) (Ev.plain rfl) rfl optS ?_
    refine ARun.pick rfl rfl rfl rfl (Ev.plain rfl) (Ev.opt rfl (by first | exact pkT | exact pkT2 | simp +contextual)) (Ev.plain rfl) (andB _ _) optN ?_
    refine ARun.move (.inr rfl) rfl rfl rfl (Ev.plain rfl) optN ?_
    refine ⟨_, _, rfl, hG, ?_⟩
    refine thenA_n ?_
    refine AWP.cond rfl (fun h1 => ?_) (fun h1 => ?_)
    · skip
      simp at h1
      refine AWP.seq ?_
      refine AWP.region (fun _ => ?_)
      refine ARun.move (.inr rfl) rfl rfl rfl (Ev.plain rfl) optN ?_
      refine ARun.move (.inr rfl) rfl rfl rfl (Ev.plain rfl) optN ?_
      refine ARun.move (.inr rfl) rfl rfl rfl (Ev.plain rfl) optN ?_
      refine ⟨_, _, rfl, hG, ?_⟩
      refine thenA_n ?_
      refine AWP.ret ?_
      refine blockA_r ?_
      refine thenA_r ?_
      refine endF.many (.inr rfl) (rs := [.tmp 6, .tmp 7, .tmp 8]) rfl (.cons (.tmp rfl) (.cons (.tmp rfl) (.cons (.tmp rfl) .nil))) (by simp) ?_ hN
      unfold askP; rw [if_pos ⟨h0.1.1, h0.1.2, h0.2⟩, if_neg (by simp [h1.1]), if_pos (by omega)]; rfl
    · skip
      simp at h1
      refine AWP.seq ?_
      refine AWP.region (fun _ => ?_)
      refine ARun.move (.inl rfl) rfl rfl rfl (Ev.plain rfl) optN ?_
      refine ARun.move (.inl rfl) rfl rfl rfl (Ev.plain rfl) optN ?_
      refine ARun.loadBoxA rfl rfl rfl rfl Try.underlying24 rfl sz24 (Ev.plain rfl) ((hG.at _ _).trans rfl) rfl rfl optS ?_
      refine ARun.move (.inl rfl) rfl rfl rfl (Ev.plain rfl) optS ?_
      refine ARun.move (.inl rfl) rfl rfl rfl (Ev.plain rfl) optS ?_
      refine ARun.fieldBox rfl rfl rfl rfl Try.underlying24 rfl rfl sz9 (by decide) (Ev.plain rfl) ((hG.at _ _).trans rfl) optS ?_
      refine ARun.loadBox rfl rfl rfl rfl Try.underlying9 rfl (Ev.opt rfl id) ((hG.at _ _).trans rfl) rfl optS ?_
      refine ARun.build rfl rfl rfl rfl so24 (.cons (Ev.opt rfl id) (.cons (Ev.opt rfl id) (.cons (Ev.opt rfl id) .nil))) rfl rfl optS ?_
      refine ARun.eqAgg rfl rfl rfl rfl eq24 (Ev.opt rfl id) (Ev.opt rfl id) rfl (.inl ⟨rfl, rfl⟩) optS ?_
      refine ARun.pick rfl rfl rfl rfl (Ev.plain rfl) (Ev.opt rfl (by first | exact pkT | exact pkT2 | simp +contextual)) (Ev.plain rfl) (andB _ _) optN ?_
      refine ARun.move (.inr rfl) rfl rfl rfl (Ev.plain rfl) optN ?_
      refine ⟨_, _, rfl, hG, ?_⟩
      refine thenA_n ?_
      refine AWP.cond rfl (fun h2 => ?_) (fun h2 => ?_)
      · skip
        simp at h2
        refine AWP.seq ?_
        refine AWP.region (fun _ => ?_)
        refine ARun.fieldBox rfl rfl rfl rfl Try.underlying24 rfl rfl sz9 (by decide) (Ev.plain rfl) ((hG.at _ _).trans rfl) optN ?_
        refine ARun.loadBox rfl rfl rfl rfl Try.underlying9 rfl (Ev.plain rfl) ((hG.at _ _).trans rfl) rfl optN ?_
        refine ARun.move (.inr rfl) rfl rfl rfl (Ev.plain rfl) optN ?_
        refine ARun.move (.inr rfl) rfl rfl rfl (Ev.plain rfl) optN ?_
        refine ARun.move (.inr rfl) rfl rfl rfl (Ev.plain rfl) optN ?_
        refine ⟨_, _, rfl, hG, ?_⟩
        refine thenA_n ?_
        refine AWP.ret ?_
        refine blockA_r ?_
        refine thenA_r ?_
        refine endF.many (.inr rfl) (rs := [.tmp 6, .tmp 7, .tmp 8]) rfl (.cons (.tmp rfl) (.cons (.tmp rfl) (.cons (.tmp rfl) .nil))) (by simp) ?_ hN
        unfold askP; rw [if_pos ⟨h0.1.1, h0.1.2, h0.2⟩, if_pos h2.1, if_pos h2.2.2]; rfl
      · skip
        simp at h2
        refine AWP.seq ?_
        refine AWP.region (fun _ => ?_)
        refine ARun.move (.inl rfl) rfl rfl rfl (Ev.plain rfl) optN ?_
        refine ARun.move (.inl rfl) rfl rfl rfl (Ev.plain rfl) optN ?_
        refine ARun.fieldBox rfl rfl rfl rfl Try.underlying24 rfl rfl sz3 (by decide) (Ev.plain rfl) ((hG.at _ _).trans rfl) optS ?_
        refine ARun.loadBox rfl rfl rfl rfl Try.underlying3 rfl (Ev.opt rfl id) ((hG.at _ _).trans rfl) rfl optS ?_
        refine ARun.move (.inl rfl) rfl rfl rfl (Ev.plain rfl) optS ?_
        refine ARun.cmp rfl rfl rfl rfl (Ev.opt rfl id) (Ev.opt rfl id) rfl optS ?_
        refine ARun.pick rfl rfl rfl rfl (Ev.plain rfl) (Ev.opt rfl (by first | exact pkT | exact pkT2 | simp +contextual)) (Ev.plain rfl) (andB _ _) optN ?_
        refine ARun.move (.inr rfl) rfl rfl rfl (Ev.plain rfl) optN ?_
        refine ⟨_, _, rfl, hG, ?_⟩
        refine thenA_n ?_
        refine AWP.cond rfl (fun h3 => ?_) (fun h3 => ?_)
        · skip
          simp at h3
          refine AWP.seq ?_
          refine AWP.region (fun _ => ?_)
          refine ARun.move (.inr rfl) rfl rfl rfl (Ev.plain rfl) optN ?_
          refine ARun.move (.inr rfl) rfl rfl rfl (Ev.plain rfl) optN ?_
          refine ARun.move (.inr rfl) rfl rfl rfl (Ev.plain rfl) optN ?_
          refine ⟨_, _, rfl, hG, ?_⟩
          refine thenA_n ?_
          refine AWP.ret ?_
          refine blockA_r ?_
          refine thenA_r ?_
          refine endF.many (.inr rfl) (rs := [.tmp 6, .tmp 7, .tmp 8]) rfl (.cons (.tmp rfl) (.cons (.tmp rfl) (.cons (.tmp rfl) .nil))) (by simp) ?_ hN
          unfold askP; rw [if_pos ⟨h0.1.1, h0.1.2, h0.2⟩, if_pos h3.1, if_neg (fun e => h2 h3.1 (hid h3.1) e), if_pos h3.2]; rfl
        · skip
          simp at h3
          refine AWP.skip ?_
          refine blockA_n ?_
          refine thenA_n ?_
          refine AWP.seq ?_
          refine AWP.region (fun _ => ?_)
          refine ARun.move (.inr rfl) rfl rfl rfl (Ev.plain rfl) optN ?_
          refine ARun.move (.inr rfl) rfl rfl rfl (Ev.plain rfl) optN ?_
          refine ARun.move (.inr rfl) rfl rfl rfl (Ev.plain rfl) optN ?_
          refine ⟨_, _, rfl, hG, ?_⟩
          refine thenA_n ?_
          refine AWP.ret ?_
          refine endF.many (.inr rfl) (rs := [.tmp 6, .tmp 7, .tmp 8]) rfl (.cons (.tmp rfl) (.cons (.tmp rfl) (.cons (.tmp rfl) .nil))) (by simp) ?_ hN
          unfold askP; rw [if_pos ⟨h0.1.1, h0.1.2, h0.2⟩]
          by_cases hf : (findP l c).2 = true
          · rw [if_pos hf, if_neg (fun e => h2 hf (hid hf) e), if_neg (by have := h3 hf; omega)]; rfl
          · rw [if_neg hf, if_neg (by have := h1 (by simpa using hf); omega)]; rfl
set_option maxHeartbeats 1000000 in
theorem checkR_fn (l : List Se) : FnP Try.prog 16 [.sl (l.map aSe)] (.int .i64 (okE l)) := by
  refine FnP.of Try.func16 rfl rfl (by simp) (by simp [AV.cells, aSe]) (fun G hG => ?_)
  have hN : NoH G.length (.int .i64 (okE l)) := (by simp [AV.cells, aSe])
  refine AWP.seq ?_
  refine AWP.region (fun _ => ?_)
  refine ARun.move (.inr rfl) rfl rfl rfl (Ev.plain rfl) optN ?_
  refine ⟨_, _, rfl, hG, ?_⟩
  refine thenA_n ?_
  refine AWP.seq ?_
  refine AWP.seq ?_
  refine AWP.region (fun _ => ?_)
  refine ARun.move (.inl rfl) rfl rfl rfl (Ev.plain rfl) optN ?_
  refine ARun.lenSl rfl rfl rfl rfl Try.underlying22 (Ev.plain rfl) optN ?_
  refine ARun.cmp rfl rfl rfl rfl (Ev.plain rfl) (Ev.plain rfl) rfl optN ?_
  refine ⟨_, _, rfl, hG, ?_⟩
  refine thenA_n ?_
  refine AWP.cond rfl (fun h0 => ?_) (fun h0 => ?_)
  · skip
    simp [-List.getD_eq_getElem?_getD] at h0
    refine AWP.seq ?_
    refine AWP.region (fun _ => ?_)
    refine ARun.move (.inr rfl) rfl rfl rfl (Ev.plain rfl) optN ?_
    refine ⟨_, _, rfl, hG, ?_⟩
    refine thenA_n ?_
    refine AWP.ret ?_
    refine thenA_r ?_
    refine endF.one (.inr rfl) rfl (.tmp rfl) ?_ hN
    rw [okE_big (by omega)]; rfl
  · skip
    simp [-List.getD_eq_getElem?_getD] at h0
    refine AWP.skip ?_
    refine thenA_n ?_
    refine AWP.seq ?_
    refine AWP.seq ?_
    refine AWP.region (fun _ => ?_)
    refine ARun.move (.inr rfl) rfl rfl rfl (Ev.plain rfl) optN ?_
    refine ⟨_, _, rfl, hG, ?_⟩
    refine thenA_n ?_
    refine AWP.block ?_
    refine AWP.rounds (fun k => k ≤ l.length ∧ okFrom 0 (l.take k) = true) (fun k => [(0, .sl (l.map aSe)), (3, .int .i64 (k : Int))]) (fun k => []) (fun k => l.length - k) 0 0 ⟨by omega, rfl⟩ (by repeat (first | exact .nil | refine .cons rfl ?_)) rfl (fun _ => rfl) (fun _ => (by simp [AO.conts, AV.cells, aSe])) (fun k hI => ?_)
    obtain ⟨hk, hok⟩ := hI
    refine AWP.seq ?_
    refine AWP.seq ?_
    refine AWP.region (fun _ => ?_)
    refine ARun.move (.inl rfl) rfl rfl rfl (Ev.plain rfl) optN ?_
    refine ARun.move (.inl rfl) rfl rfl rfl (Ev.plain rfl) optN ?_
    refine ARun.lenSl rfl rfl rfl rfl Try.underlying22 (Ev.plain rfl) optN ?_
    refine ARun.cmp rfl rfl rfl rfl (Ev.plain rfl) (Ev.plain rfl) rfl optN ?_
    refine ⟨_, _, rfl, hG, ?_⟩
    refine thenA_n ?_
    refine AWP.cond rfl (fun h1 => ?_) (fun h1 => ?_)
    · skip
      simp [-List.getD_eq_getElem?_getD] at h1
      refine AWP.skip ?_
      refine thenA_n ?_
      refine AWP.seq ?_
      refine AWP.block ?_
      refine AWP.seq ?_
      refine AWP.draw mixed (by kernel_rfl) (fun _ => ?_)
      refine ARun.move (.inl rfl) rfl rfl rfl (Ev.plain rfl) optN ?_
      refine ARun.move (.inl rfl) rfl rfl rfl (Ev.plain rfl) optN ?_
      first | refine ARun.indexSl rfl rfl rfl rfl Try.underlying22 sz24 (Ev.plain rfl) (Ev.plain rfl) (fun _ => rfl) (fun hg => getMap _ _ _ (by (try simp at hg); omega)) rfl rfl optN ?_ | refine ARun.indexSl rfl rfl rfl rfl Try.underlying22 sz24 (Ev.plain rfl) (Ev.plain rfl) (fun hg => ofNonneg (by (try simp at hg); omega)) (fun hg => getMap _ _ _ (by (try simp at hg); omega)) rfl rfl optN ?_
      refine ARun.fieldPe rfl rfl rfl rfl Try.underlying24 rfl rfl sz3 (by decide) (Ev.plain rfl) rfl optN ?_
      refine ARun.loadPe rfl rfl rfl rfl Try.underlying3 rfl (Ev.plain rfl) rfl optN ?_
      refine ARun.cmp rfl rfl rfl rfl (Ev.plain rfl) (Ev.plain rfl) rfl optN ?_
      refine ARun.move (.inl rfl) rfl rfl rfl (Ev.plain rfl) optN ?_
      refine ARun.move (.inl rfl) rfl rfl rfl (Ev.plain rfl) optS ?_
      refine ARun.move (.inl rfl) rfl rfl rfl (Ev.plain rfl) optS ?_
      first | refine ARun.indexSl rfl rfl rfl rfl Try.underlying22 sz24 (Ev.opt rfl id) (Ev.opt rfl id) (fun _ => rfl) (fun hg => getMap _ _ _ (by (try simp at hg); omega)) rfl rfl optS ?_ | refine ARun.indexSl rfl rfl rfl rfl Try.underlying22 sz24 (Ev.opt rfl id) (Ev.opt rfl id) (fun hg => ofNonneg (by (try simp at hg); omega)) (fun hg => getMap _ _ _ (by (try simp at hg); omega)) rfl rfl optS ?_
      refine ARun.fieldPe rfl rfl rfl rfl Try.underlying24 rfl rfl sz3 (by decide) (Ev.opt rfl id) rfl optS ?_
      refine ARun.loadPe rfl rfl rfl rfl Try.underlying3 rfl (Ev.opt rfl id) rfl optS ?_
      refine ARun.cmp rfl rfl rfl rfl (Ev.opt rfl id) (Ev.plain rfl) rfl optS ?_
      refine ARun.pick rfl rfl rfl rfl (Ev.plain rfl) (Ev.plain rfl) (Ev.opt rfl (by first | exact pkF | exact pkF2 | simp +contextual)) (orB _ _) optN ?_
      refine ARun.move (.inl rfl) rfl rfl rfl (Ev.plain rfl) optN ?_
      refine ARun.move (.inl rfl) rfl rfl rfl (Ev.plain rfl) optS ?_
      refine ARun.move (.inl rfl) rfl rfl rfl (Ev.plain rfl) optS ?_
      first | refine ARun.indexSl rfl rfl rfl rfl Try.underlying22 sz24 (Ev.opt rfl id) (Ev.opt rfl id) (fun _ => rfl) (fun hg => getMap _ _ _ (by (try simp at hg); omega)) rfl rfl optS ?_ | refine ARun.indexSl rfl rfl rfl rfl Try.underlying22 sz24 (Ev.opt rfl id) (Ev.opt rfl id) (fun hg => ofNonneg (by (try simp at hg); omega)) (fun hg => getMap _ _ _ (by (try simp at hg); omega)) rfl rfl optS ?_
      refine ARun.fieldPe rfl rfl rfl rfl Try.underlying24 rfl rfl sz3 (by decide) (Ev.opt rfl id) rfl optS ?_
      refine ARun.loadPe rfl rfl rfl rfl Try.underlying3 rfl (Ev.opt rfl id) rfl optS ?_
      refine ARun.cmp rfl rfl rfl rfl (Ev.opt rfl id) (Ev.plain rfl) rfl optS ?_
      refine ARun.pick rfl rfl rfl rfl (Ev.plain rfl) (Ev.plain rfl) (Ev.opt rfl (by first | exact pkF | exact pkF2 | simp +contextual)) (orB _ _) optN ?_
      refine ARun.move (.inl rfl) rfl rfl rfl (Ev.plain rfl) optN ?_
      refine ARun.move (.inl rfl) rfl rfl rfl (Ev.plain rfl) optS ?_
      refine ARun.move (.inl rfl) rfl rfl rfl (Ev.plain rfl) optS ?_
      first | refine ARun.indexSl rfl rfl rfl rfl Try.underlying22 sz24 (Ev.opt rfl id) (Ev.opt rfl id) (fun _ => rfl) (fun hg => getMap _ _ _ (by (try simp at hg); omega)) rfl rfl optS ?_ | refine ARun.indexSl rfl rfl rfl rfl Try.underlying22 sz24 (Ev.opt rfl id) (Ev.opt rfl id) (fun hg => ofNonneg (by (try simp at hg); omega)) (fun hg => getMap _ _ _ (by (try simp at hg); omega)) rfl rfl optS ?_
      refine ARun.fieldPe rfl rfl rfl rfl Try.underlying24 rfl rfl sz3 (by decide) (Ev.opt rfl id) rfl optS ?_
      refine ARun.loadPe rfl rfl rfl rfl Try.underlying3 rfl (Ev.opt rfl id) rfl optS ?_
      refine ARun.cmp rfl rfl rfl rfl (Ev.opt rfl id) (Ev.plain rfl) rfl optS ?_
      refine ARun.pick rfl rfl rfl rfl (Ev.plain rfl) (Ev.plain rfl) (Ev.opt rfl (by first | exact pkF | exact pkF2 | simp +contextual)) (orB _ _) optN ?_
      refine ARun.move (.inl rfl) rfl rfl rfl (Ev.plain rfl) optN ?_
      refine ARun.move (.inl rfl) rfl rfl rfl (Ev.plain rfl) optS ?_
      refine ARun.move (.inl rfl) rfl rfl rfl (Ev.plain rfl) optS ?_
      first | refine ARun.indexSl rfl rfl rfl rfl Try.underlying22 sz24 (Ev.opt rfl id) (Ev.opt rfl id) (fun _ => rfl) (fun hg => getMap _ _ _ (by (try simp at hg); omega)) rfl rfl optS ?_ | refine ARun.indexSl rfl rfl rfl rfl Try.underlying22 sz24 (Ev.opt rfl id) (Ev.opt rfl id) (fun hg => ofNonneg (by (try simp at hg); omega)) (fun hg => getMap _ _ _ (by (try simp at hg); omega)) rfl rfl optS ?_
      refine ARun.fieldPe rfl rfl rfl rfl Try.underlying24 rfl rfl sz9 (by decide) (Ev.opt rfl id) rfl optS ?_
      refine ARun.loadPe rfl rfl rfl rfl Try.underlying9 rfl (Ev.opt rfl id) rfl optS ?_
      refine ARun.lenStr rfl rfl rfl rfl Try.underlying9 (Ev.opt rfl id) optS ?_
      refine ARun.cmp rfl rfl rfl rfl (Ev.opt rfl id) (Ev.plain rfl) rfl optS ?_
      refine ARun.pick rfl rfl rfl rfl (Ev.plain rfl) (Ev.plain rfl) (Ev.opt rfl (by first | exact pkF | exact pkF2 | simp +contextual)) (orB _ _) optN ?_
      refine ARun.move (.inl rfl) rfl rfl rfl (Ev.plain rfl) optN ?_
      refine ARun.move (.inl rfl) rfl rfl rfl (Ev.plain rfl) optS ?_
      refine ARun.cmp rfl rfl rfl rfl (Ev.opt rfl id) (Ev.plain rfl) rfl optS ?_
      refine ARun.move (.inl rfl) rfl rfl rfl (Ev.opt rfl id) optS ?_
      refine ARun.move (.inl rfl) rfl rfl rfl (Ev.plain rfl) optS ?_
      refine ARun.move (.inl rfl) rfl rfl rfl (Ev.plain rfl) optS ?_
      first | refine ARun.indexSl rfl rfl rfl rfl Try.underlying22 sz24 (Ev.opt rfl id) (Ev.opt rfl id) (fun _ => rfl) (fun hg => getMap _ _ _ (by (try simp at hg); omega)) rfl rfl optS ?_ | refine ARun.indexSl rfl rfl rfl rfl Try.underlying22 sz24 (Ev.opt rfl id) (Ev.opt rfl id) (fun hg => ofNonneg (by (try simp at hg); omega)) (fun hg => getMap _ _ _ (by (try simp at hg); omega)) rfl rfl optS ?_
      refine ARun.fieldPe rfl rfl rfl rfl Try.underlying24 rfl rfl sz3 (by decide) (Ev.opt rfl id) rfl optS ?_
      refine ARun.loadPe rfl rfl rfl rfl Try.underlying3 rfl (Ev.opt rfl id) rfl optS ?_
      refine ARun.move (.inl rfl) rfl rfl rfl (Ev.plain rfl) optS ?_
      refine ARun.move (.inl rfl) rfl rfl rfl (Ev.plain rfl) optS ?_
      first | refine ARun.arith rfl rfl rfl rfl (Ev.opt rfl id) (Ev.plain rfl) rfl (fun hg => i64w (by (try simp at hg); omega)) optS ?_ | refine ARun.arith rfl rfl rfl rfl (Ev.opt rfl id) (Ev.plain rfl) rfl (fun _ => rfl) optS ?_
      first | refine ARun.indexSl rfl rfl rfl rfl Try.underlying22 sz24 (Ev.opt rfl id) (Ev.opt rfl id) (fun _ => rfl) (fun hg => getMap _ _ _ (by (try simp at hg); omega)) rfl rfl optS ?_ | refine ARun.indexSl rfl rfl rfl rfl Try.underlying22 sz24 (Ev.opt rfl id) (Ev.opt rfl id) (fun hg => ofNonneg (by (try simp at hg); omega)) (fun hg => getMap _ _ _ (by (try simp at hg); omega)) rfl rfl optS ?_
      refine ARun.fieldPe rfl rfl rfl rfl Try.underlying24 rfl rfl sz3 (by decide) (Ev.opt rfl id) rfl optS ?_
      refine ARun.loadPe rfl rfl rfl rfl Try.underlying3 rfl (Ev.opt rfl id) rfl optS ?_
      refine ARun.cmp rfl rfl rfl rfl (Ev.opt rfl id) (Ev.opt rfl id) rfl optS ?_
      refine ARun.pick rfl rfl rfl rfl (Ev.opt rfl id) (Ev.opt rfl (by first | exact pkT | exact pkT2 | simp +contextual)) (Ev.plain rfl) (andB _ _) optS ?_
      refine ARun.pick rfl rfl rfl rfl (Ev.plain rfl) (Ev.plain rfl) (Ev.opt rfl (by first | exact pkF | exact pkF2 | simp +contextual)) (orB _ _) optN ?_
      refine ⟨by kernel_rfl, _, _, rfl, hG, ?_⟩
      refine thenA_n ?_
      refine AWP.cond rfl (fun h2 => ?_) (fun h2 => ?_)
      · skip
        simp [-List.getD_eq_getElem?_getD] at h2
        refine AWP.seq ?_
        refine AWP.region (fun _ => ?_)
        refine ARun.move (.inr rfl) rfl rfl rfl (Ev.plain rfl) optN ?_
        refine ⟨_, _, rfl, hG, ?_⟩
        refine thenA_n ?_
        refine AWP.ret ?_
        refine blockA_r ?_
        refine thenA_r ?_
        refine thenA_r ?_
        refine blockA_r ?_
        refine thenA_r ?_
        refine endF.one (.inr rfl) rfl (.tmp rfl) ?_ hN
        rw [chk_bad h1 (by
          rcases h2 with h | h
          · left
            cases hm : may (l.getD k default) with
            | false => rfl
            | true => rw [may_iff] at hm; omega
          · exact .inr h)]; rfl
      · skip
        simp [-List.getD_eq_getElem?_getD] at h2
        refine AWP.skip ?_
        refine blockA_n ?_
        refine thenA_n ?_
        refine AWP.region (fun _ => ?_)
        refine ARun.move (.inl rfl) rfl rfl rfl (Ev.plain rfl) optN ?_
        first | refine ARun.arith rfl rfl rfl rfl (Ev.plain rfl) (Ev.plain rfl) rfl (fun hg => i64w (by (try simp at hg); omega)) optN ?_ | refine ARun.arith rfl rfl rfl rfl (Ev.plain rfl) (Ev.plain rfl) rfl (fun _ => rfl) optN ?_
        refine ARun.move (.inr rfl) rfl rfl rfl (Ev.plain rfl) optN ?_
        refine ⟨_, _, rfl, hG, ?_⟩
        refine thenA_n ⟨rfl, k + 1, _, ?_, ?_, rfl, ?_⟩
        · exact ⟨by omega, chk_go h1 hok ⟨may_iff.2 (by omega), h2.2⟩⟩
        · repeat (first | exact .nil | refine .cons rfl ?_)
        · omega
    · skip
      simp [-List.getD_eq_getElem?_getD] at h1
      refine AWP.exit ?_
      refine thenA_x ?_
      refine thenA_x ?_
      refine blockA_h ?_
      refine thenA_n ?_
      refine AWP.seq ?_
      refine AWP.region (fun _ => ?_)
      refine ARun.move (.inr rfl) rfl rfl rfl (Ev.plain rfl) optN ?_
      refine ⟨_, _, rfl, hG, ?_⟩
      refine thenA_n ?_
      refine AWP.ret ?_
      refine endF.one (.inr rfl) rfl (.tmp rfl) ?_ hN
      rw [okE_good (by omega) (by rw [← List.take_of_length_le h1]; exact hok)]; rfl
set_option maxHeartbeats 1000000 in
theorem findR_fn (l : List Se) (c : Int) (hl : l.length ≤ 9223372036854775807) : FnP Try.prog 13 [.sl (l.map aSe), .int .i64 c] (.tup [aSe (findP l c).1, .bool (findP l c).2]) := by
  refine FnP.of Try.func13 rfl rfl (by simp) (by simp [AV.cells, aSe]) (fun G hG => ?_)
  have hN : NoH G.length (.tup [aSe (findP l c).1, .bool (findP l c).2]) := (by simp [AV.cells, aSe])
  refine AWP.seq ?_
  refine AWP.region (fun _ => ?_)
  refine ARun.alloc (j := 0) hG rfl rfl rfl rfl rfl zv24 rfl optN ?_
  refine ARun.move (.inr rfl) rfl rfl rfl (Ev.plain rfl) optN ?_
  refine ⟨_, _, rfl, hG, ?_⟩
  refine thenA_n ?_
  refine AWP.seq ?_
  refine AWP.seq ?_
  refine AWP.region (fun _ => ?_)
  refine ARun.move (.inr rfl) rfl rfl rfl (Ev.plain rfl) optN ?_
  refine ⟨_, _, rfl, hG, ?_⟩
  refine thenA_n ?_
  refine AWP.block ?_
  refine AWP.rounds (fun k => k ≤ l.length ∧ ∀ j, j < k → decide ((l.getD j default).client = c) = false) (fun k => [(0, .sl (l.map aSe)), (1, .int .i64 c), (4, .box (G.length + 0) 0), (5, .bool false), (6, .int .i64 (k : Int))]) (fun k => [.box [.int .i64 0, .int .i64 0, .str ⟨#[]⟩]]) (fun k => l.length - k) 1 0 ⟨by omega, fun j h => by omega⟩ (by repeat (first | exact .nil | refine .cons rfl ?_)) rfl (fun _ => rfl) (fun _ => (by simp [AO.conts, AV.cells, aSe])) (fun k hI => ?_)
  obtain ⟨hk, hno⟩ := hI
  refine AWP.seq ?_
  refine AWP.seq ?_
  refine AWP.region (fun _ => ?_)
  refine ARun.move (.inl rfl) rfl rfl rfl (Ev.plain rfl) optN ?_
  refine ARun.move (.inl rfl) rfl rfl rfl (Ev.plain rfl) optN ?_
  refine ARun.lenSl rfl rfl rfl rfl Try.underlying22 (Ev.plain rfl) optN ?_
  refine ARun.cmp rfl rfl rfl rfl (Ev.plain rfl) (Ev.plain rfl) rfl optN ?_
  refine ⟨_, _, rfl, hG, ?_⟩
  refine thenA_n ?_
  refine AWP.cond rfl (fun h0 => ?_) (fun h0 => ?_)
  · skip
    simp [-List.getD_eq_getElem?_getD] at h0
    refine AWP.skip ?_
    refine thenA_n ?_
    refine AWP.seq ?_
    refine AWP.block ?_
    refine AWP.seq ?_
    refine AWP.region (fun _ => ?_)
    refine ARun.move (.inl rfl) rfl rfl rfl (Ev.plain rfl) optN ?_
    refine ARun.move (.inl rfl) rfl rfl rfl (Ev.plain rfl) optN ?_
    first | refine ARun.indexSl rfl rfl rfl rfl Try.underlying22 sz24 (Ev.plain rfl) (Ev.plain rfl) (fun _ => rfl) (fun hg => getMap _ _ _ (by (try simp at hg); omega)) rfl rfl optN ?_ | refine ARun.indexSl rfl rfl rfl rfl Try.underlying22 sz24 (Ev.plain rfl) (Ev.plain rfl) (fun hg => ofNonneg (by (try simp at hg); omega)) (fun hg => getMap _ _ _ (by (try simp at hg); omega)) rfl rfl optN ?_
    refine ARun.fieldPe rfl rfl rfl rfl Try.underlying24 rfl rfl sz3 (by decide) (Ev.plain rfl) rfl optN ?_
    refine ARun.loadPe rfl rfl rfl rfl Try.underlying3 rfl (Ev.plain rfl) rfl optN ?_
    refine ARun.move (.inl rfl) rfl rfl rfl (Ev.plain rfl) optN ?_
    refine ARun.cmp rfl rfl rfl rfl (Ev.plain rfl) (Ev.plain rfl) rfl optN ?_
    refine ⟨_, _, rfl, hG, ?_⟩
    refine thenA_n ?_
    refine AWP.cond rfl (fun h1 => ?_) (fun h1 => ?_)
    · skip
      simp [-List.getD_eq_getElem?_getD] at h1
      refine AWP.seq ?_
      refine AWP.region (fun _ => ?_)
      refine ARun.move (.inl rfl) rfl rfl rfl (Ev.plain rfl) optN ?_
      refine ARun.move (.inl rfl) rfl rfl rfl (Ev.plain rfl) optN ?_
      first | refine ARun.indexSl rfl rfl rfl rfl Try.underlying22 sz24 (Ev.plain rfl) (Ev.plain rfl) (fun _ => rfl) (fun hg => getMap _ _ _ (by (try simp at hg); omega)) rfl rfl optN ?_ | refine ARun.indexSl rfl rfl rfl rfl Try.underlying22 sz24 (Ev.plain rfl) (Ev.plain rfl) (fun hg => ofNonneg (by (try simp at hg); omega)) (fun hg => getMap _ _ _ (by (try simp at hg); omega)) rfl rfl optN ?_
      refine ARun.loadPeA rfl rfl rfl rfl Try.underlying24 rfl sz24 (Ev.plain rfl) rfl optN ?_
      refine ARun.storeL hG rfl rfl rfl sz24 (Ev.plain rfl) (Ev.plain rfl) rfl rfl rfl rfl rfl (Nat.le_of_ble_eq_true rfl) rfl rfl ?_
      refine ARun.move (.inr rfl) rfl rfl rfl (Ev.plain rfl) optN ?_
      refine ⟨_, _, rfl, hG, ?_⟩
      refine thenA_n ?_
      refine AWP.ret ?_
      refine blockA_r ?_
      refine thenA_r ?_
      refine thenA_r ?_
      refine blockA_r ?_
      refine thenA_r ?_
      refine endF.many (.inr rfl) (rs := [.cell 4 24, .tmp 5]) rfl (.cons (.cellA rfl ((hG.at _ _).trans rfl) Try.underlying24 rfl sz24 rfl rfl) (.cons (.tmp rfl) .nil)) (by simp) ?_ hN
      have hi := idx_hit (p := fun x : Se => decide (x.client = c)) h0 hno (by simpa using h1)
      rw [show findP l c = (l.getD k default, true) from by unfold findP; rw [hi, if_pos (by omega)]; rfl]; rfl
    · skip
      simp [-List.getD_eq_getElem?_getD] at h1
      refine AWP.skip ?_
      refine blockA_n ?_
      refine thenA_n ?_
      refine AWP.region (fun _ => ?_)
      refine ARun.move (.inl rfl) rfl rfl rfl (Ev.plain rfl) optN ?_
      first | refine ARun.arith rfl rfl rfl rfl (Ev.plain rfl) (Ev.plain rfl) rfl (fun hg => i64w (by (try simp at hg); omega)) optN ?_ | refine ARun.arith rfl rfl rfl rfl (Ev.plain rfl) (Ev.plain rfl) rfl (fun _ => rfl) optN ?_
      refine ARun.move (.inr rfl) rfl rfl rfl (Ev.plain rfl) optN ?_
      refine ⟨_, _, rfl, hG, ?_⟩
      refine thenA_n ⟨rfl, k + 1, _, ?_, ?_, rfl, ?_⟩
      · refine ⟨by omega, fun j hj => ?_⟩
        by_cases e : j = k
        · subst e; simpa using h1
        · exact hno j (by omega)
      · repeat (first | exact .nil | refine .cons rfl ?_)
      · omega
  · skip
    simp [-List.getD_eq_getElem?_getD] at h0
    refine AWP.exit ?_
    refine thenA_x ?_
    refine thenA_x ?_
    refine blockA_h ?_
    refine thenA_n ?_
    refine AWP.seq ?_
    refine AWP.region (fun _ => ?_)
    refine ARun.build rfl rfl rfl rfl so24 .nil rfl rfl optN ?_
    refine ARun.storeL hG rfl rfl rfl sz24 (Ev.plain rfl) (Ev.plain rfl) rfl rfl rfl rfl rfl (Nat.le_of_ble_eq_true rfl) rfl rfl ?_
    refine ARun.move (.inr rfl) rfl rfl rfl (Ev.plain rfl) optN ?_
    refine ⟨_, _, rfl, hG, ?_⟩
    refine thenA_n ?_
    refine AWP.ret ?_
    refine endF.many (.inr rfl) (rs := [.cell 4 24, .tmp 5]) rfl (.cons (.cellA rfl ((hG.at _ _).trans rfl) Try.underlying24 rfl sz24 rfl rfl) (.cons (.tmp rfl) .nil)) (by simp) ?_ hN
    have hi := idx_none (p := fun x : Se => decide (x.client = c)) (l := l) (fun j hj => hno j (by omega))
    rw [show findP l c = (default, false) from by unfold findP; rw [hi, if_neg (by omega)]]; rfl
end Go.Proofs.Ytjccjlflnlddpaa
