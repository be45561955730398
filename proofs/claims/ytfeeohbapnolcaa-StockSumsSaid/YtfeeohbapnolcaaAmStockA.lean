/- Stock by the abstract machine. -/
import Derived.Test.YtfeeohbapnolcaaAmTys
import Derived.Test.YtfeeohbapnolcaaStockRefP
namespace Go.Proofs.Ytfeeohbapnolcaa
set_option linter.unusedVariables false
set_option linter.unusedSimpArgs false
open Go.RowKit
open StockP
set_option maxRecDepth 100000
def aIt (s : It) : AV := .agg [.int .i64 s.id, .int .i64 s.free, .int .i64 s.held, .int .i64 s.gone]
instance : Inhabited It := ⟨⟨0, 0, 0, 0⟩⟩
theorem aIt_ext {x y : It} (h : x.id = y.id ∧ x.free = y.free ∧ x.held = y.held ∧ x.gone = y.gone) : x = y := by
  obtain ⟨a0, a1, a2, a3⟩ := x
  obtain ⟨b0, b1, b2, b3⟩ := y
  simp only at h
  obtain ⟨rfl, rfl, rfl, rfl⟩ := h
  rfl
theorem aIt_ne {x y : It} (h : ¬x.id = y.id ∨ ¬x.free = y.free ∨ ¬x.held = y.held ∨ ¬x.gone = y.gone) : x ≠ y := by
  intro e; subst e; simp at h
theorem It_idx {l : List It} {k : Nat} (h : k < l.length) : l.getD k default = l[k] := by simp [List.getD, h]
/-- where the first one stands -/
def idxOf {α : Type} (p : α → Bool) (l : List α) : Int := match l.findIdx? p with
  | some i => (i : Int)
  | none => -1
theorem idx_hit {α : Type} [Inhabited α] {p : α → Bool} {l : List α} {k : Nat} (hk : k < l.length) (h : ∀ j, j < k → p (l.getD j default) = false) (hp : p (l.getD k default) = true) : idxOf p l = (k : Int) := by
  have : l.findIdx? p = some k := by
    rw [List.findIdx?_eq_some_iff_getElem]
    refine ⟨hk, ?_, fun j hj => ?_⟩
    · simpa [List.getD, hk] using hp
    · have := h j hj
      simp [List.getD, show j < l.length by omega] at this
      simp [this]
  unfold idxOf; rw [this]
theorem idx_none {α : Type} [Inhabited α] {p : α → Bool} {l : List α} (h : ∀ j, j < l.length → p (l.getD j default) = false) : idxOf p l = -1 := by
  have : l.findIdx? p = none := by
    rw [List.findIdx?_eq_none_iff]
    intro x hx
    obtain ⟨j, hj, rfl⟩ := List.mem_iff_getElem.1 hx
    have := h j hj
    simpa [List.getD, hj] using this
  unfold idxOf; rw [this]
theorem any_idx {α : Type} (p : α → Bool) (l : List α) : decide (0 ≤ idxOf p l) = l.any p := by
  unfold idxOf
  cases h : l.findIdx? p with
  | none =>
    have := List.findIdx?_eq_none_iff.1 h
    symm; simp; exact this
  | some i =>
    obtain ⟨hi, h2, _⟩ := List.findIdx?_eq_some_iff_getElem.1 h
    have : l.any p = true := List.any_eq_true.2 ⟨_, List.getElem_mem hi, h2⟩
    rw [this]; simp
theorem neg_one_cv : cAV (.int .i64 (-1)) = .int .i64 (-1) := rfl
theorem take_eq_go {α : Type} [Inhabited α] {a b : List α} {k : Nat} (h : a.take k = b.take k) (ha : k < a.length) (hb : k < b.length) (he : a.getD k default = b.getD k default) : a.take (k + 1) = b.take (k + 1) := by
  rw [List.take_succ_eq_append_getElem ha, List.take_succ_eq_append_getElem hb, h]
  simp [List.getD, ha, hb] at he
  rw [he]
theorem ne_of_get {α : Type} [Inhabited α] {a b : List α} {k : Nat} (he : a.getD k default ≠ b.getD k default) : a ≠ b := fun e => he (by rw [e])
def okE (l : List It) : Int := if ok l = true then 0 else 2
theorem step_ok (l : List It) (k : Nat) (hk : k < l.length) : okFrom 0 (l.take (k + 1)) = (okFrom 0 (l.take k) && (may (l.getD k default) && decide (lastId 0 (l.take k) < (l.getD k default).id))) := by
  rw [It_idx hk, show l.take (k + 1) = l.take k ++ [l[k]] by simp]; exact okFrom_snoc _ _ _
theorem last_of (l : List It) (k : Nat) (hk : k ≤ l.length) : lastId 0 (l.take k) = if 0 < k then (l.getD (k - 1) default).id else 0 := by
  by_cases h : 0 < k
  · rw [if_pos h, lastId_take l k h hk, It_idx (by omega)]
  · obtain rfl : k = 0 := by omega
    rfl
theorem okE_bad {l : List It} {k : Nat} (h : okFrom 0 (l.take (k + 1)) = false) : okE l = 2 := by
  unfold okE ok; rw [okFrom_cut h]; simp
theorem okE_big {l : List It} (h : 20 < l.length) : okE l = 2 := by
  unfold okE ok; rw [decide_eq_false (by omega)]; simp
theorem okE_good {l : List It} (h : l.length ≤ 20) (h2 : okFrom 0 l = true) : okE l = 0 := by
  unfold okE ok; rw [decide_eq_true h, h2]; simp
theorem chk_bad {l : List It} {k : Nat} (hk : k < l.length) (h : may (l.getD k default) = false ∨ 0 < k ∧ (l.getD k default).id ≤ (l.getD (k - 1) default).id) : okE l = 2 := by
  refine okE_bad (k := k) ?_
  rw [step_ok l k hk, last_of l k (by omega)]
  rcases h with h | ⟨h, h2⟩
  · rw [h]; simp
  · rw [if_pos h, decide_eq_false (by omega)]; simp
theorem may_iff {x : It} : may x = true ↔ 1 ≤ x.id ∧ x.id ≤ 99999 ∧ 0 ≤ x.free ∧ 0 ≤ x.held ∧ 0 ≤ x.gone ∧ x.free + x.held + x.gone ≤ 1000000 := by
  unfold may; simp
theorem may_no {x : It} (h : ¬ (1 ≤ x.id ∧ x.id ≤ 99999 ∧ 0 ≤ x.free ∧ 0 ≤ x.held ∧ 0 ≤ x.gone ∧ x.free + x.held + x.gone ≤ 1000000)) : may x = false := by
  unfold may; exact decide_eq_false h
theorem chk_go {l : List It} {k : Nat} (hk : k < l.length) (hok : okFrom 0 (l.take k) = true) (h : may (l.getD k default) = true ∧ (0 < k → (l.getD (k - 1) default).id < (l.getD k default).id)) : okFrom 0 (l.take (k + 1)) = true := by
  rw [step_ok l k hk, last_of l k (by omega), hok, h.1]
  have h1 := (may_iff.1 h.1).1
  by_cases hk0 : 0 < k
  · rw [if_pos hk0, decide_eq_true (h.2 hk0)]; rfl
  · rw [if_neg hk0, decide_eq_true (by omega)]; rfl
theorem okE_ok {l : List It} : okE l = 0 ↔ ok l = true := by unfold okE; split <;> simp_all
theorem idxOf_cons {α : Type} (p : α → Bool) (x : α) (l : List α) : idxOf p (x :: l) = if p x = true then 0 else if 0 ≤ idxOf p l then idxOf p l + 1 else -1 := by
  unfold idxOf
  rw [List.findIdx?_cons]
  by_cases h : p x = true
  · simp [h]
  · rw [if_neg h, if_neg h]
    cases l.findIdx? p with
    | none => simp
    | some i => simp
theorem idxOf_idx (q : It → Bool) (l : List It) : idxOf q l = idx q l := by
  induction l with
  | nil => simp [idxOf, idx, place]
  | cons x l ih =>
    rw [idxOf_cons, ih]
    unfold idx
    rw [place_cons]
    by_cases h : q x = true
    · simp [h]
    · rw [if_neg h, if_neg h]
      by_cases h2 : place q l < l.length
      · rw [if_pos h2, if_pos (by omega), if_pos (by simp; omega)]; simp
      · rw [if_neg h2, if_neg (by omega), if_neg (by simp; omega)]
theorem idx_neg {q : It → Bool} {l : List It} : idx q l < 0 ↔ ¬ place q l < l.length := by
  unfold idx; split <;> simp_all
theorem idx_pos {q : It → Bool} {l : List It} (h : ¬ idx q l < 0) : place q l < l.length ∧ idx q l = (place q l : Int) := by
  have h2 : place q l < l.length := by
    rw [idx_neg] at h; simpa using h
  exact ⟨h2, by unfold idx; rw [if_pos h2]⟩
theorem find_no {l : List It} {id : Int} (h : idx (fun x => x.id == id) l < 0) : findT l id = (default, false) := by
  rw [findT_place, dif_neg (idx_neg.1 h)]; rfl
theorem find_yes {l : List It} {id : Int} (h : ¬ idx (fun x => x.id == id) l < 0) : findT l id = (l.getD (idx (fun x => x.id == id) l).toNat default, true) := by
  obtain ⟨h1, h2⟩ := idx_pos h
  rw [findT_place, dif_pos h1, h2, Int.toNat_natCast, It_idx h1]
theorem asked_bd {l : List It} {q : Int} (h : askedB l q = true) : 1 ≤ q ∧ q ≤ 1000000 ∧ l.length ≤ 20 := ⟨(askedB_ok h).2.1, (askedB_ok h).2.2, ok_len (askedB_ok h).1⟩
set_option maxHeartbeats 1000000 in
theorem may_fn (x : It) : FnP Try.prog 23 [aIt x] (.bool (may x)) := by
  refine FnP.of Try.func23 rfl rfl (by simp) (by simp [AV.cells, aIt]) (fun G hG => ?_)
  have hN : NoH G.length (.bool (may x)) := (by simp [AV.cells, aIt])
  refine AWP.seq ?_
  refine AWP.region (fun _ => ?_)
  refine ARun.box (j := 0) hG rfl rfl rfl rfl rfl (Ev.plain rfl) rfl rfl optN ?_
  refine ARun.move (.inr rfl) rfl rfl rfl (Ev.plain rfl) optN ?_
  refine ⟨_, _, rfl, hG, ?_⟩
  refine thenA_n ?_
  refine AWP.seq ?_
  refine AWP.seq ?_
  refine AWP.region (fun _ => ?_)
  refine ARun.fieldBox (fo := 0) rfl rfl rfl rfl Try.underlying34 rfl rfl sz3 (by decide) (Ev.plain rfl) ((hG.at _ _).trans rfl) optN ?_
  refine ARun.loadBox rfl rfl rfl rfl Try.underlying3 rfl (Ev.plain rfl) ((hG.at _ _).trans rfl) rfl optN ?_
  refine ARun.cmp rfl rfl rfl rfl (Ev.plain rfl) (Ev.plain rfl) rfl optN ?_
  refine ARun.move (.inl rfl) rfl rfl rfl (Ev.plain rfl) optN ?_
  refine ARun.fieldBox (fo := 0) rfl rfl rfl rfl Try.underlying34 rfl rfl sz3 (by decide) (Ev.plain rfl) ((hG.at _ _).trans rfl) optS ?_
  refine ARun.loadBox rfl rfl rfl rfl Try.underlying3 rfl (Ev.opt rfl (fun h => h)) ((hG.at _ _).trans rfl) rfl optS ?_
  refine ARun.cmp rfl rfl rfl rfl (Ev.opt rfl (fun h => h)) (Ev.plain rfl) rfl optS ?_
  refine ARun.pick rfl rfl rfl rfl (Ev.plain rfl) (Ev.plain rfl) (Ev.opt rfl (by first | exact pkF | exact pkF2 | simp +contextual)) (orB _ _) optN ?_
  refine ARun.move (.inl rfl) rfl rfl rfl (Ev.plain rfl) optN ?_
  refine ARun.fieldBox (fo := 1) rfl rfl rfl rfl Try.underlying34 rfl rfl sz3 (by decide) (Ev.plain rfl) ((hG.at _ _).trans rfl) optS ?_
  refine ARun.loadBox rfl rfl rfl rfl Try.underlying3 rfl (Ev.opt rfl (fun h => h)) ((hG.at _ _).trans rfl) rfl optS ?_
  refine ARun.fieldBox (fo := 2) rfl rfl rfl rfl Try.underlying34 rfl rfl sz3 (by decide) (Ev.plain rfl) ((hG.at _ _).trans rfl) optS ?_
  refine ARun.loadBox rfl rfl rfl rfl Try.underlying3 rfl (Ev.opt rfl (fun h => h)) ((hG.at _ _).trans rfl) rfl optS ?_
  refine ARun.fieldBox (fo := 3) rfl rfl rfl rfl Try.underlying34 rfl rfl sz3 (by decide) (Ev.plain rfl) ((hG.at _ _).trans rfl) optS ?_
  refine ARun.loadBox rfl rfl rfl rfl Try.underlying3 rfl (Ev.opt rfl (fun h => h)) ((hG.at _ _).trans rfl) rfl optS ?_
  refine ARun.minmax3 rfl rfl rfl rfl (Ev.opt rfl (fun h => h)) (Ev.opt rfl (fun h => h)) (Ev.opt rfl (fun h => h)) (.inl ⟨rfl, rfl⟩) optS ?_
  refine ARun.cmp rfl rfl rfl rfl (Ev.opt rfl (fun h => h)) (Ev.plain rfl) rfl optS ?_
  refine ARun.pick rfl rfl rfl rfl (Ev.plain rfl) (Ev.plain rfl) (Ev.opt rfl (by first | exact pkF | exact pkF2 | simp +contextual)) (orB _ _) optN ?_
  refine ARun.move (.inl rfl) rfl rfl rfl (Ev.plain rfl) optN ?_
  refine ARun.fieldBox (fo := 1) rfl rfl rfl rfl Try.underlying34 rfl rfl sz3 (by decide) (Ev.plain rfl) ((hG.at _ _).trans rfl) optS ?_
  refine ARun.loadBox rfl rfl rfl rfl Try.underlying3 rfl (Ev.opt rfl (fun h => h)) ((hG.at _ _).trans rfl) rfl optS ?_
  refine ARun.fieldBox (fo := 2) rfl rfl rfl rfl Try.underlying34 rfl rfl sz3 (by decide) (Ev.plain rfl) ((hG.at _ _).trans rfl) optS ?_
  refine ARun.loadBox rfl rfl rfl rfl Try.underlying3 rfl (Ev.opt rfl (fun h => h)) ((hG.at _ _).trans rfl) rfl optS ?_
  refine ARun.fieldBox (fo := 3) rfl rfl rfl rfl Try.underlying34 rfl rfl sz3 (by decide) (Ev.plain rfl) ((hG.at _ _).trans rfl) optS ?_
  refine ARun.loadBox rfl rfl rfl rfl Try.underlying3 rfl (Ev.opt rfl (fun h => h)) ((hG.at _ _).trans rfl) rfl optS ?_
  refine ARun.minmax3 rfl rfl rfl rfl (Ev.opt rfl (fun h => h)) (Ev.opt rfl (fun h => h)) (Ev.opt rfl (fun h => h)) (.inr ⟨rfl, rfl⟩) optS ?_
  refine ARun.cmp rfl rfl rfl rfl (Ev.opt rfl (fun h => h)) (Ev.plain rfl) rfl optS ?_
  refine ARun.pick rfl rfl rfl rfl (Ev.plain rfl) (Ev.plain rfl) (Ev.opt rfl (by first | exact pkF | exact pkF2 | simp +contextual)) (orB _ _) optN ?_
  refine ⟨_, _, rfl, hG, ?_⟩
  refine thenA_n ?_
  refine AWP.cond rfl (fun h0 => ?_) (fun h0 => ?_)
  · skip
    simp at h0
    refine AWP.seq ?_
    refine AWP.region (fun _ => ?_)
    refine ARun.move (.inr rfl) rfl rfl rfl (Ev.plain rfl) optN ?_
    refine ⟨_, _, rfl, hG, ?_⟩
    refine thenA_n ?_
    refine AWP.ret ?_
    refine thenA_r ?_
    refine endF.one (.inr rfl) rfl (.tmp rfl) ?_ hN
    rw [may_no (by omega)]; rfl
  · skip
    simp at h0
    refine AWP.skip ?_
    refine thenA_n ?_
    refine AWP.seq ?_
    refine AWP.region (fun _ => ?_)
    refine ARun.fieldBox (fo := 1) rfl rfl rfl rfl Try.underlying34 rfl rfl sz3 (by decide) (Ev.plain rfl) ((hG.at _ _).trans rfl) optN ?_
    refine ARun.loadBox rfl rfl rfl rfl Try.underlying3 rfl (Ev.plain rfl) ((hG.at _ _).trans rfl) rfl optN ?_
    refine ARun.fieldBox (fo := 2) rfl rfl rfl rfl Try.underlying34 rfl rfl sz3 (by decide) (Ev.plain rfl) ((hG.at _ _).trans rfl) optN ?_
    refine ARun.loadBox rfl rfl rfl rfl Try.underlying3 rfl (Ev.plain rfl) ((hG.at _ _).trans rfl) rfl optN ?_
    first | refine ARun.arith rfl rfl rfl rfl (Ev.plain rfl) (Ev.plain rfl) rfl (fun hg => i64w (by (try simp at hg); omega)) optN ?_ | refine ARun.arith rfl rfl rfl rfl (Ev.plain rfl) (Ev.plain rfl) rfl (fun _ => rfl) optN ?_
    refine ARun.fieldBox (fo := 3) rfl rfl rfl rfl Try.underlying34 rfl rfl sz3 (by decide) (Ev.plain rfl) ((hG.at _ _).trans rfl) optN ?_
    refine ARun.loadBox rfl rfl rfl rfl Try.underlying3 rfl (Ev.plain rfl) ((hG.at _ _).trans rfl) rfl optN ?_
    first | refine ARun.arith rfl rfl rfl rfl (Ev.plain rfl) (Ev.plain rfl) rfl (fun hg => i64w (by (try simp at hg); omega)) optN ?_ | refine ARun.arith rfl rfl rfl rfl (Ev.plain rfl) (Ev.plain rfl) rfl (fun _ => rfl) optN ?_
    refine ARun.cmp rfl rfl rfl rfl (Ev.plain rfl) (Ev.plain rfl) rfl optN ?_
    refine ARun.move (.inr rfl) rfl rfl rfl (Ev.plain rfl) optN ?_
    refine ⟨_, _, rfl, hG, ?_⟩
    refine thenA_n ?_
    refine AWP.ret ?_
    refine endF.one (.inr rfl) rfl (.tmp rfl) ?_ hN
    rw [show may x = decide (x.free + x.held + x.gone ≤ 1000000) from by unfold may; by_cases e : x.free + x.held + x.gone ≤ 1000000 <;> simp [e] <;> omega]
set_option maxHeartbeats 1000000 in
theorem check_fn (l : List It) : FnP Try.prog 20 [.sl (l.map aIt)] (.int .i64 (okE l)) := by
  refine FnP.of Try.func20 rfl rfl (by simp) (by simp [AV.cells, aIt]) (fun G hG => ?_)
  have hN : NoH G.length (.int .i64 (okE l)) := (by simp [AV.cells, aIt])
  refine AWP.seq ?_
  refine AWP.region (fun _ => ?_)
  refine ARun.move (.inr rfl) rfl rfl rfl (Ev.plain rfl) optN ?_
  refine ⟨_, _, rfl, hG, ?_⟩
  refine thenA_n ?_
  refine AWP.seq ?_
  refine AWP.seq ?_
  refine AWP.region (fun _ => ?_)
  refine ARun.move (.inl rfl) rfl rfl rfl (Ev.plain rfl) optN ?_
  refine ARun.lenSl rfl rfl rfl rfl Try.underlying22 (Ev.plain rfl) optN ?_
  refine ARun.cmp rfl rfl rfl rfl (Ev.plain rfl) (Ev.plain rfl) rfl optN ?_
  refine ⟨_, _, rfl, hG, ?_⟩
  refine thenA_n ?_
  refine AWP.cond rfl (fun h0 => ?_) (fun h0 => ?_)
  · skip
    simp [-List.getD_eq_getElem?_getD] at h0
    refine AWP.seq ?_
    refine AWP.region (fun _ => ?_)
    refine ARun.move (.inr rfl) rfl rfl rfl (Ev.plain rfl) optN ?_
    refine ⟨_, _, rfl, hG, ?_⟩
    refine thenA_n ?_
    refine AWP.ret ?_
    refine thenA_r ?_
    refine endF.one (.inr rfl) rfl (.tmp rfl) ?_ hN
    rw [okE_big (by omega)]; rfl
  · skip
    simp [-List.getD_eq_getElem?_getD] at h0
    refine AWP.skip ?_
    refine thenA_n ?_
    refine AWP.seq ?_
    refine AWP.seq ?_
    refine AWP.region (fun _ => ?_)
    refine ARun.move (.inl rfl) rfl rfl rfl (Ev.plain rfl) optN ?_
    refine ARun.lenSl rfl rfl rfl rfl Try.underlying22 (Ev.plain rfl) optN ?_
    refine ARun.move (.inl rfl) rfl rfl rfl (Ev.plain rfl) optN ?_
    refine ⟨_, _, rfl, hG, ?_⟩
    refine thenA_n ?_
    refine AWP.block ?_
    refine AWP.rounds (fun k => k ≤ l.length ∧ okFrom 0 (l.take k) = true) (fun k => [(0, .sl (l.map aIt)), (8, .sl (l.map aIt)), (9, .int .i64 ((l.map aIt).length : Int)), (10, .int .i64 (k : Int))]) (fun k => []) (fun k => l.length - k) 0 0 ⟨by omega, rfl⟩ (by repeat (first | exact .nil | refine .cons rfl ?_)) rfl (fun _ => rfl) (fun _ => (by simp [AO.conts, AV.cells, aIt])) (fun k hI => ?_)
    obtain ⟨hk, hok⟩ := hI
    refine AWP.seq ?_
    refine AWP.region (fun _ => ?_)
    refine ARun.cmp rfl rfl rfl rfl (Ev.plain rfl) (Ev.plain rfl) rfl optN ?_
    refine ⟨_, _, rfl, hG, ?_⟩
    refine thenA_n ?_
    refine AWP.seq ?_
    refine AWP.cond rfl (fun h1 => ?_) (fun h1 => ?_)
    · skip
      simp [-List.getD_eq_getElem?_getD] at h1
      refine AWP.skip ?_
      refine thenA_n ?_
      refine AWP.seq ?_
      refine AWP.block ?_
      refine AWP.seq ?_
      refine AWP.region (fun _ => ?_)
      refine ARun.move (.inl rfl) rfl rfl rfl (Ev.plain rfl) optN ?_
      first | refine ARun.indexSl rfl rfl rfl rfl Try.underlying22 sz34 (Ev.plain rfl) (Ev.plain rfl) (fun _ => rfl) (fun hg => getMap _ _ _ (by (try simp at hg); omega)) rfl rfl optN ?_ | refine ARun.indexSl rfl rfl rfl rfl Try.underlying22 sz34 (Ev.plain rfl) (Ev.plain rfl) (fun hg => ofNonneg (by (try simp at hg); omega)) (fun hg => getMap _ _ _ (by (try simp at hg); omega)) rfl rfl optN ?_
      refine ARun.loadPeA rfl rfl rfl rfl Try.underlying34 rfl sz34 (Ev.plain rfl) rfl optN ?_
      refine ARun.alloc (j := 0) hG rfl rfl rfl rfl rfl zv34 rfl optN ?_
      refine ARun.move (.inr rfl) rfl rfl rfl (Ev.plain rfl) optN ?_
      refine ARun.storeL hG rfl rfl rfl sz34 (Ev.plain rfl) (Ev.plain rfl) rfl rfl rfl rfl rfl (Nat.le_of_ble_eq_true rfl) rfl rfl ?_
      refine ⟨_, _, rfl, hG, ?_⟩
      refine thenA_n ?_
      refine AWP.seq ?_
      refine AWP.draw mixed (by kernel_rfl) (fun _ => ?_)
      refine ARun.loadBoxA rfl rfl rfl rfl Try.underlying34 rfl sz34 (Ev.plain rfl) ((hG.at _ _).trans rfl) rfl rfl optN ?_
      refine ARun.call rfl rfl rfl rfl cf23 (Ev.plain rfl) (.cons (Ev.plain rfl) .nil) rfl (fun hg => may_fn _) optN ?_
      refine ARun.not rfl rfl rfl rfl (Ev.plain rfl) optN ?_
      refine ARun.move (.inl rfl) rfl rfl rfl (Ev.plain rfl) optN ?_
      refine ARun.move (.inl rfl) rfl rfl rfl (Ev.plain rfl) optS ?_
      refine ARun.cmp rfl rfl rfl rfl (Ev.opt rfl (fun h => h)) (Ev.plain rfl) rfl optS ?_
      refine ARun.move (.inl rfl) rfl rfl rfl (Ev.opt rfl (fun h => h)) optS ?_
      refine ARun.fieldBox (fo := 0) rfl rfl rfl rfl Try.underlying34 rfl rfl sz3 (by decide) (Ev.plain rfl) ((hG.at _ _).trans rfl) optS ?_
      refine ARun.loadBox rfl rfl rfl rfl Try.underlying3 rfl (Ev.opt rfl (fun h => h)) ((hG.at _ _).trans rfl) rfl optS ?_
      refine ARun.move (.inl rfl) rfl rfl rfl (Ev.plain rfl) optS ?_
      refine ARun.move (.inl rfl) rfl rfl rfl (Ev.plain rfl) optS ?_
      first | refine ARun.arith rfl rfl rfl rfl (Ev.opt rfl (fun h => h)) (Ev.plain rfl) rfl (fun hg => i64w (by (try simp at hg); omega)) optS ?_ | refine ARun.arith rfl rfl rfl rfl (Ev.opt rfl (fun h => h)) (Ev.plain rfl) rfl (fun _ => rfl) optS ?_
      first | refine ARun.indexSl rfl rfl rfl rfl Try.underlying22 sz34 (Ev.opt rfl (fun h => h)) (Ev.opt rfl (fun h => h)) (fun _ => rfl) (fun hg => getMap _ _ _ (by (try simp at hg); omega)) rfl rfl optS ?_ | refine ARun.indexSl rfl rfl rfl rfl Try.underlying22 sz34 (Ev.opt rfl (fun h => h)) (Ev.opt rfl (fun h => h)) (fun hg => ofNonneg (by (try simp at hg); omega)) (fun hg => getMap _ _ _ (by (try simp at hg); omega)) rfl rfl optS ?_
      refine ARun.fieldPe rfl rfl rfl rfl Try.underlying34 rfl rfl sz3 (by decide) (Ev.opt rfl (fun h => h)) rfl optS ?_
      refine ARun.loadPe rfl rfl rfl rfl Try.underlying3 rfl (Ev.opt rfl (fun h => h)) rfl optS ?_
      refine ARun.cmp rfl rfl rfl rfl (Ev.opt rfl (fun h => h)) (Ev.opt rfl (fun h => h)) rfl optS ?_
      refine ARun.pick rfl rfl rfl rfl (Ev.opt rfl (fun h => h)) (Ev.opt rfl (by first | exact pkT | exact pkT2 | simp +contextual)) (Ev.plain rfl) (andB _ _) optS ?_
      refine ARun.pick rfl rfl rfl rfl (Ev.plain rfl) (Ev.plain rfl) (Ev.opt rfl (by first | exact pkF | exact pkF2 | simp +contextual)) (orB _ _) optN ?_
      refine ⟨by kernel_rfl, _, _, rfl, hG, ?_⟩
      refine thenA_n ?_
      refine AWP.cond rfl (fun h2 => ?_) (fun h2 => ?_)
      · skip
        simp [-List.getD_eq_getElem?_getD] at h2
        refine AWP.seq ?_
        refine AWP.region (fun _ => ?_)
        refine ARun.move (.inr rfl) rfl rfl rfl (Ev.plain rfl) optN ?_
        refine ⟨_, _, rfl, hG, ?_⟩
        refine thenA_n ?_
        refine AWP.ret ?_
        refine blockA_r ?_
        refine thenA_r ?_
        refine thenA_r ?_
        refine blockA_r ?_
        refine thenA_r ?_
        refine endF.one (.inr rfl) rfl (.tmp rfl) ?_ hN
        rw [chk_bad h1 h2]; rfl
      · skip
        simp [-List.getD_eq_getElem?_getD] at h2
        refine AWP.skip ?_
        refine blockA_n ?_
        refine thenA_n ?_
        refine AWP.region (fun _ => ?_)
        first | refine ARun.arith rfl rfl rfl rfl (Ev.plain rfl) (Ev.plain rfl) rfl (fun hg => i64w (by (try simp at hg); omega)) optN ?_ | refine ARun.arith rfl rfl rfl rfl (Ev.plain rfl) (Ev.plain rfl) rfl (fun _ => rfl) optN ?_
        refine ARun.move (.inl rfl) rfl rfl rfl (Ev.plain rfl) optN ?_
        refine ⟨_, _, rfl, hG, ?_⟩
        refine thenA_n ⟨rfl, k + 1, _, ?_, ?_, rfl, ?_⟩
        · exact ⟨by omega, chk_go h1 hok h2⟩
        · repeat (first | exact .nil | refine .cons rfl ?_)
        · omega
    · skip
      simp [-List.getD_eq_getElem?_getD] at h1
      refine AWP.exit ?_
      refine thenA_x ?_
      refine thenA_x ?_
      refine blockA_h ?_
      refine thenA_n ?_
      refine AWP.seq ?_
      refine AWP.region (fun _ => ?_)
      refine ARun.move (.inr rfl) rfl rfl rfl (Ev.plain rfl) optN ?_
      refine ⟨_, _, rfl, hG, ?_⟩
      refine thenA_n ?_
      refine AWP.ret ?_
      refine endF.one (.inr rfl) rfl (.tmp rfl) ?_ hN
      rw [okE_good (by omega) (by rw [← List.take_of_length_le h1]; exact hok)]; rfl
set_option maxHeartbeats 1000000 in
theorem asked_fn (l : List It) (q : Int) : FnP Try.prog 36 [.sl (l.map aIt), .int .i64 q] (.bool (askedB l q)) := by
  refine FnP.of Try.func36 rfl rfl (by simp) (by simp [AV.cells, aIt]) (fun G hG => ?_)
  have hN : NoH G.length (.bool (askedB l q)) := (by simp [AV.cells, aIt])
  refine AWP.seq ?_
  refine AWP.region (fun _ => ?_)
  refine ARun.move (.inr rfl) rfl rfl rfl (Ev.plain rfl) optN ?_
  refine ⟨_, _, rfl, hG, ?_⟩
  refine thenA_n ?_
  refine AWP.seq ?_
  refine AWP.region (fun _ => ?_)
  refine ARun.move (.inl rfl) rfl rfl rfl (Ev.plain rfl) optN ?_
  refine ARun.call rfl rfl rfl rfl cf20 (Ev.plain rfl) (.cons (Ev.plain rfl) .nil) rfl (fun hg => check_fn l) optN ?_
  refine ARun.cmp rfl rfl rfl rfl (Ev.plain rfl) (Ev.plain rfl) rfl optN ?_
  refine ARun.move (.inl rfl) rfl rfl rfl (Ev.plain rfl) optN ?_
  refine ARun.move (.inl rfl) rfl rfl rfl (Ev.plain rfl) optS ?_
  refine ARun.cmp rfl rfl rfl rfl (Ev.opt rfl (fun h => h)) (Ev.plain rfl) rfl optS ?_
  refine ARun.pick rfl rfl rfl rfl (Ev.plain rfl) (Ev.opt rfl (by first | exact pkT | exact pkT2 | simp +contextual)) (Ev.plain rfl) (andB _ _) optN ?_
  refine ARun.move (.inl rfl) rfl rfl rfl (Ev.plain rfl) optN ?_
  refine ARun.move (.inl rfl) rfl rfl rfl (Ev.plain rfl) optS ?_
  refine ARun.cmp rfl rfl rfl rfl (Ev.opt rfl (fun h => h)) (Ev.plain rfl) rfl optS ?_
  refine ARun.pick rfl rfl rfl rfl (Ev.plain rfl) (Ev.opt rfl (by first | exact pkT | exact pkT2 | simp +contextual)) (Ev.plain rfl) (andB _ _) optN ?_
  refine ARun.move (.inr rfl) rfl rfl rfl (Ev.plain rfl) optN ?_
  refine ⟨_, _, rfl, hG, ?_⟩
  refine thenA_n ?_
  refine AWP.ret ?_
  refine endF.one (.inr rfl) rfl (.tmp rfl) ?_ hN
  simp [askedB, okE_ok, Bool.decide_and, Bool.and_assoc]
set_option maxHeartbeats 1000000 in
theorem indexIt (F : Nat) (fs cs : List AV) (p : It → Bool) (l : List It) (hl : l.length ≤ 9223372036854775807) (hcf : ∀ (vs : Array Value) (W : World), (callFunc F vs).run Try.prog W = .ok (.enter F vs) W) (hn : (∀ x, x ∈ fs → NoH 0 x) ∧ ∀ x, x ∈ cs → NoH 0 x) (hp : ∀ x, x ∈ l → FnP Try.prog F (fs ++ [aIt x] ++ cs) (.bool (p x))) : FnP Try.prog 25 [.sl (l.map aIt), .fn (.func F) fs cs] (.int .i64 (idxOf p l)) := by
  refine FnP.of Try.func25 rfl rfl (by simp) (by simp [AV.cells, aIt]) (fun G hG => ?_)
  have hN : NoH G.length (.int .i64 (idxOf p l)) := (by simp [AV.cells, aIt])
  refine AWP.seq ?_
  refine AWP.region (fun _ => ?_)
  refine ARun.move (.inr rfl) rfl rfl rfl (Ev.plain rfl) optN ?_
  refine ⟨_, _, rfl, hG, ?_⟩
  refine thenA_n ?_
  refine AWP.seq ?_
  refine AWP.seq ?_
  refine AWP.region (fun _ => ?_)
  refine ARun.move (.inl rfl) rfl rfl rfl (Ev.plain rfl) optN ?_
  refine ARun.lenSl rfl rfl rfl rfl Try.underlying22 (Ev.plain rfl) optN ?_
  refine ARun.move (.inl rfl) rfl rfl rfl (Ev.plain rfl) optN ?_
  refine ⟨_, _, rfl, hG, ?_⟩
  refine thenA_n ?_
  refine AWP.block ?_
  refine AWP.rounds (fun k => k ≤ l.length ∧ ∀ j, j < k → p (l.getD j default) = false) (fun k => [(0, .sl (l.map aIt)), (1, .fn (.func F) fs cs), (7, .int .i64 ((l.map aIt).length : Int)), (8, .int .i64 (k : Int))]) (fun k => []) (fun k => l.length - k) 0 0 ⟨by omega, fun j h => by omega⟩ (by repeat (first | exact .nil | refine .cons rfl ?_)) rfl (fun _ => rfl) (fun _ => ⟨by simp [AV.cells, aIt]; exact ⟨fun x hx => (hn.1 x hx).mono (by omega), fun x hx => (hn.2 x hx).mono (by omega)⟩, by simp⟩) (fun k hI => ?_)
  obtain ⟨hk, hno⟩ := hI
  refine AWP.seq ?_
  refine AWP.region (fun _ => ?_)
  refine ARun.cmp rfl rfl rfl rfl (Ev.plain rfl) (Ev.plain rfl) rfl optN ?_
  refine ⟨_, _, rfl, hG, ?_⟩
  refine thenA_n ?_
  refine AWP.seq ?_
  refine AWP.cond rfl (fun h0 => ?_) (fun h0 => ?_)
  · skip
    try simp [-List.getD_eq_getElem?_getD] at h0
    refine AWP.skip ?_
    refine thenA_n ?_
    refine AWP.seq ?_
    refine AWP.block ?_
    refine AWP.seq ?_
    refine AWP.region (fun _ => ?_)
    refine ARun.move (.inl rfl) rfl rfl rfl (Ev.plain rfl) optN ?_
    refine ARun.move (.inr rfl) rfl rfl rfl (Ev.plain rfl) optN ?_
    refine ⟨_, _, rfl, hG, ?_⟩
    refine thenA_n ?_
    refine AWP.seq ?_
    refine AWP.region (fun _ => ?_)
    refine ARun.move (.inl rfl) rfl rfl rfl (Ev.plain rfl) optN ?_
    refine ARun.move (.inl rfl) rfl rfl rfl (Ev.plain rfl) optN ?_
    refine ARun.move (.inl rfl) rfl rfl rfl (Ev.plain rfl) optN ?_
    first | refine ARun.indexSl rfl rfl rfl rfl Try.underlying22 sz34 (Ev.plain rfl) (Ev.plain rfl) (fun _ => rfl) (fun hg => getMap _ _ _ (by (try simp at hg); omega)) rfl rfl optN ?_ | refine ARun.indexSl rfl rfl rfl rfl Try.underlying22 sz34 (Ev.plain rfl) (Ev.plain rfl) (fun hg => ofNonneg (by (try simp at hg); omega)) (fun hg => getMap _ _ _ (by (try simp at hg); omega)) rfl rfl optN ?_
    refine ARun.loadPeA rfl rfl rfl rfl Try.underlying34 rfl sz34 (Ev.plain rfl) rfl optN ?_
    refine ARun.call rfl rfl rfl rfl hcf (Ev.plain rfl) (.cons (Ev.plain rfl) .nil) rfl (fun hg => hp _ (by rw [List.getD, List.getElem?_eq_getElem h0]; exact List.getElem_mem h0)) optN ?_
    refine ⟨_, _, rfl, hG, ?_⟩
    refine thenA_n ?_
    refine AWP.cond rfl (fun h1 => ?_) (fun h1 => ?_)
    · skip
      try simp [-List.getD_eq_getElem?_getD] at h1
      refine AWP.seq ?_
      refine AWP.region (fun _ => ?_)
      refine ARun.move (.inl rfl) rfl rfl rfl (Ev.plain rfl) optN ?_
      refine ARun.move (.inr rfl) rfl rfl rfl (Ev.plain rfl) optN ?_
      refine ⟨_, _, rfl, hG, ?_⟩
      refine thenA_n ?_
      refine AWP.ret ?_
      refine blockA_r ?_
      refine thenA_r ?_
      refine thenA_r ?_
      refine blockA_r ?_
      refine thenA_r ?_
      refine endF.one (.inr rfl) rfl (.tmp rfl) ?_ hN
      rw [idx_hit h0 hno h1]
    · skip
      try simp [-List.getD_eq_getElem?_getD] at h1
      refine AWP.skip ?_
      refine blockA_n ?_
      refine thenA_n ?_
      refine AWP.region (fun _ => ?_)
      first | refine ARun.arith rfl rfl rfl rfl (Ev.plain rfl) (Ev.plain rfl) rfl (fun hg => i64w (by (try simp at hg); omega)) optN ?_ | refine ARun.arith rfl rfl rfl rfl (Ev.plain rfl) (Ev.plain rfl) rfl (fun _ => rfl) optN ?_
      refine ARun.move (.inl rfl) rfl rfl rfl (Ev.plain rfl) optN ?_
      refine ⟨_, _, rfl, hG, ?_⟩
      refine thenA_n ⟨rfl, k + 1, _, ?_, ?_, rfl, ?_⟩
      · refine ⟨by omega, fun j hj => ?_⟩
        by_cases e : j = k
        · subst e; exact h1
        · exact hno j (by omega)
      · repeat (first | exact .nil | refine .cons rfl ?_)
      · omega
  · skip
    try simp [-List.getD_eq_getElem?_getD] at h0
    refine AWP.exit ?_
    refine thenA_x ?_
    refine thenA_x ?_
    refine blockA_h ?_
    refine thenA_n ?_
    refine AWP.seq ?_
    refine AWP.region (fun _ => ?_)
    refine ARun.move (.inr rfl) rfl rfl rfl (Ev.plain rfl) optN ?_
    refine ⟨_, _, rfl, hG, ?_⟩
    refine thenA_n ?_
    refine AWP.ret ?_
    refine endF.one (.inr rfl) rfl (.tmp rfl) ?_ hN
    rw [idx_none (fun j hj => hno j (by omega))]; rfl
set_option maxHeartbeats 1000000 in
theorem same_fn (a b : List It) (hl : a.length ≤ 9223372036854775807) : FnP Try.prog 9 [.sl (a.map aIt), .sl (b.map aIt)] (.bool (decide (a = b))) := by
  refine FnP.of Try.func9 rfl rfl (by simp) (by simp [AV.cells, aIt]) (fun G hG => ?_)
  have hN : NoH G.length (.bool (decide (a = b))) := (by simp [AV.cells, aIt])
  refine AWP.seq ?_
  refine AWP.region (fun _ => ?_)
  refine ARun.move (.inr rfl) rfl rfl rfl (Ev.plain rfl) optN ?_
  refine ⟨_, _, rfl, hG, ?_⟩
  refine thenA_n ?_
  refine AWP.seq ?_
  refine AWP.seq ?_
  refine AWP.region (fun _ => ?_)
  refine ARun.move (.inl rfl) rfl rfl rfl (Ev.plain rfl) optN ?_
  refine ARun.lenSl rfl rfl rfl rfl Try.underlying22 (Ev.plain rfl) optN ?_
  refine ARun.move (.inl rfl) rfl rfl rfl (Ev.plain rfl) optN ?_
  refine ARun.lenSl rfl rfl rfl rfl Try.underlying22 (Ev.plain rfl) optN ?_
  refine ARun.cmp rfl rfl rfl rfl (Ev.plain rfl) (Ev.plain rfl) rfl optN ?_
  refine ⟨_, _, rfl, hG, ?_⟩
  refine thenA_n ?_
  refine AWP.cond rfl (fun h0 => ?_) (fun h0 => ?_)
  · skip
    simp [-List.getD_eq_getElem?_getD] at h0
    refine AWP.seq ?_
    refine AWP.region (fun _ => ?_)
    refine ARun.move (.inr rfl) rfl rfl rfl (Ev.plain rfl) optN ?_
    refine ⟨_, _, rfl, hG, ?_⟩
    refine thenA_n ?_
    refine AWP.ret ?_
    refine thenA_r ?_
    refine endF.one (.inr rfl) rfl (.tmp rfl) ?_ hN
    rw [decide_eq_false (fun e => absurd (congrArg List.length e) (by omega))]; rfl
  · skip
    simp [-List.getD_eq_getElem?_getD] at h0
    refine AWP.skip ?_
    refine thenA_n ?_
    refine AWP.seq ?_
    refine AWP.seq ?_
    refine AWP.region (fun _ => ?_)
    refine ARun.move (.inr rfl) rfl rfl rfl (Ev.plain rfl) optN ?_
    refine ⟨_, _, rfl, hG, ?_⟩
    refine thenA_n ?_
    refine AWP.block ?_
    refine AWP.rounds (fun k => k ≤ a.length ∧ a.take k = b.take k) (fun k => [(0, .sl (a.map aIt)), (1, .sl (b.map aIt)), (5, .int .i64 (k : Int))]) (fun k => []) (fun k => a.length - k) 0 0 ⟨by omega, rfl⟩ (by repeat (first | exact .nil | refine .cons rfl ?_)) rfl (fun _ => rfl) (fun _ => (by simp [AO.conts, AV.cells, aIt])) (fun k hI => ?_)
    obtain ⟨hk, hs⟩ := hI
    refine AWP.seq ?_
    refine AWP.seq ?_
    refine AWP.region (fun _ => ?_)
    refine ARun.move (.inl rfl) rfl rfl rfl (Ev.plain rfl) optN ?_
    refine ARun.move (.inl rfl) rfl rfl rfl (Ev.plain rfl) optN ?_
    refine ARun.lenSl rfl rfl rfl rfl Try.underlying22 (Ev.plain rfl) optN ?_
    refine ARun.cmp rfl rfl rfl rfl (Ev.plain rfl) (Ev.plain rfl) rfl optN ?_
    refine ⟨_, _, rfl, hG, ?_⟩
    refine thenA_n ?_
    refine AWP.cond rfl (fun h1 => ?_) (fun h1 => ?_)
    · skip
      simp [-List.getD_eq_getElem?_getD] at h1
      refine AWP.skip ?_
      refine thenA_n ?_
      refine AWP.seq ?_
      refine AWP.block ?_
      refine AWP.seq ?_
      refine AWP.draw mixed (by kernel_rfl) (fun _ => ?_)
      refine ARun.move (.inl rfl) rfl rfl rfl (Ev.plain rfl) optN ?_
      refine ARun.move (.inl rfl) rfl rfl rfl (Ev.plain rfl) optN ?_
      first | refine ARun.indexSl rfl rfl rfl rfl Try.underlying22 sz34 (Ev.plain rfl) (Ev.plain rfl) (fun _ => rfl) (fun hg => getMap _ _ _ (by (try simp at hg); omega)) rfl rfl optN ?_ | refine ARun.indexSl rfl rfl rfl rfl Try.underlying22 sz34 (Ev.plain rfl) (Ev.plain rfl) (fun hg => ofNonneg (by (try simp at hg); omega)) (fun hg => getMap _ _ _ (by (try simp at hg); omega)) rfl rfl optN ?_
      refine ARun.loadPeA rfl rfl rfl rfl Try.underlying34 rfl sz34 (Ev.plain rfl) rfl optN ?_
      refine ARun.move (.inl rfl) rfl rfl rfl (Ev.plain rfl) optN ?_
      refine ARun.move (.inl rfl) rfl rfl rfl (Ev.plain rfl) optN ?_
      first | refine ARun.indexSl rfl rfl rfl rfl Try.underlying22 sz34 (Ev.plain rfl) (Ev.plain rfl) (fun _ => rfl) (fun hg => getMap _ _ _ (by (try simp at hg); omega)) rfl rfl optN ?_ | refine ARun.indexSl rfl rfl rfl rfl Try.underlying22 sz34 (Ev.plain rfl) (Ev.plain rfl) (fun hg => ofNonneg (by (try simp at hg); omega)) (fun hg => getMap _ _ _ (by (try simp at hg); omega)) rfl rfl optN ?_
      refine ARun.loadPeA rfl rfl rfl rfl Try.underlying34 rfl sz34 (Ev.plain rfl) rfl optN ?_
      refine ARun.eqAgg rfl rfl rfl rfl eq34 (Ev.plain rfl) (Ev.plain rfl) rfl (.inr ⟨rfl, rfl⟩) optN ?_
      refine ⟨by kernel_rfl, _, _, rfl, hG, ?_⟩
      refine thenA_n ?_
      refine AWP.cond rfl (fun h2 => ?_) (fun h2 => ?_)
      · skip
        simp [-List.getD_eq_getElem?_getD] at h2
        refine AWP.seq ?_
        refine AWP.region (fun _ => ?_)
        refine ARun.move (.inr rfl) rfl rfl rfl (Ev.plain rfl) optN ?_
        refine ⟨_, _, rfl, hG, ?_⟩
        refine thenA_n ?_
        refine AWP.ret ?_
        refine blockA_r ?_
        refine thenA_r ?_
        refine thenA_r ?_
        refine blockA_r ?_
        refine thenA_r ?_
        refine endF.one (.inr rfl) rfl (.tmp rfl) ?_ hN
        rw [decide_eq_false (ne_of_get (k := k) (aIt_ne h2))]; rfl
      · skip
        simp [-List.getD_eq_getElem?_getD] at h2
        refine AWP.skip ?_
        refine blockA_n ?_
        refine thenA_n ?_
        refine AWP.region (fun _ => ?_)
        refine ARun.move (.inl rfl) rfl rfl rfl (Ev.plain rfl) optN ?_
        first | refine ARun.arith rfl rfl rfl rfl (Ev.plain rfl) (Ev.plain rfl) rfl (fun hg => i64w (by (try simp at hg); omega)) optN ?_ | refine ARun.arith rfl rfl rfl rfl (Ev.plain rfl) (Ev.plain rfl) rfl (fun _ => rfl) optN ?_
        refine ARun.move (.inr rfl) rfl rfl rfl (Ev.plain rfl) optN ?_
        refine ⟨_, _, rfl, hG, ?_⟩
        refine thenA_n ⟨rfl, k + 1, _, ?_, ?_, rfl, ?_⟩
        · exact ⟨by omega, take_eq_go hs h1 (by omega) (aIt_ext h2)⟩
        · repeat (first | exact .nil | refine .cons rfl ?_)
        · omega
    · skip
      simp [-List.getD_eq_getElem?_getD] at h1
      refine AWP.exit ?_
      refine thenA_x ?_
      refine thenA_x ?_
      refine blockA_h ?_
      refine thenA_n ?_
      refine AWP.seq ?_
      refine AWP.region (fun _ => ?_)
      refine ARun.move (.inr rfl) rfl rfl rfl (Ev.plain rfl) optN ?_
      refine ⟨_, _, rfl, hG, ?_⟩
      refine thenA_n ?_
      refine AWP.ret ?_
      refine endF.one (.inr rfl) rfl (.tmp rfl) ?_ hN
      rw [decide_eq_true (by rw [List.take_of_length_le h1, List.take_of_length_le (by omega)] at hs; exact hs)]; rfl
set_option maxHeartbeats 1000000 in
theorem atf_fn (x : It) (id : Int) : FnP Try.prog 38 [aIt x, .pe [.int .i64 id]] (.bool (x.id == id)) := by
  refine FnP.of Try.func38 rfl rfl (by simp) (by simp [AV.cells, aIt]) (fun G hG => ?_)
  have hN : NoH G.length (.bool (x.id == id)) := (by simp [AV.cells, aIt])
  refine AWP.seq ?_
  refine AWP.region (fun _ => ?_)
  refine ARun.box (j := 0) hG rfl rfl rfl rfl rfl (Ev.plain rfl) rfl rfl optN ?_
  refine ARun.move (.inr rfl) rfl rfl rfl (Ev.plain rfl) optN ?_
  refine ⟨_, _, rfl, hG, ?_⟩
  refine thenA_n ?_
  refine AWP.seq ?_
  refine AWP.region (fun _ => ?_)
  refine ARun.loadBoxA rfl rfl rfl rfl Try.underlying34 rfl sz34 (Ev.plain rfl) ((hG.at _ _).trans rfl) rfl rfl optN ?_
  first | refine ARun.loadPe rfl rfl rfl rfl Try.underlying3 rfl (Ev.plain rfl) rfl optN ?_ | refine ARun.loadBox rfl rfl rfl rfl Try.underlying3 rfl (Ev.plain rfl) ((hG.at _ _).trans rfl) rfl optN ?_
  refine ARun.fieldBox (fo := 1) rfl rfl rfl rfl Try.underlying34 rfl rfl sz3 (by decide) (Ev.plain rfl) ((hG.at _ _).trans rfl) optN ?_
  refine ARun.loadBox rfl rfl rfl rfl Try.underlying3 rfl (Ev.plain rfl) ((hG.at _ _).trans rfl) rfl optN ?_
  refine ARun.fieldBox (fo := 2) rfl rfl rfl rfl Try.underlying34 rfl rfl sz3 (by decide) (Ev.plain rfl) ((hG.at _ _).trans rfl) optN ?_
  refine ARun.loadBox rfl rfl rfl rfl Try.underlying3 rfl (Ev.plain rfl) ((hG.at _ _).trans rfl) rfl optN ?_
  refine ARun.fieldBox (fo := 3) rfl rfl rfl rfl Try.underlying34 rfl rfl sz3 (by decide) (Ev.plain rfl) ((hG.at _ _).trans rfl) optN ?_
  refine ARun.loadBox rfl rfl rfl rfl Try.underlying3 rfl (Ev.plain rfl) ((hG.at _ _).trans rfl) rfl optN ?_
  refine ARun.build rfl rfl rfl rfl so34 (.cons (Ev.plain rfl) (.cons (Ev.plain rfl) (.cons (Ev.plain rfl) (.cons (Ev.plain rfl) .nil)))) rfl rfl optN ?_
  refine ARun.eqAgg rfl rfl rfl rfl eq34 (Ev.plain rfl) (Ev.plain rfl) rfl (.inl ⟨rfl, rfl⟩) optN ?_
  refine ARun.move (.inr rfl) rfl rfl rfl (Ev.plain rfl) optN ?_
  refine ⟨_, _, rfl, hG, ?_⟩
  refine thenA_n ?_
  refine AWP.ret ?_
  refine endF.one (.inr rfl) rfl (.tmp rfl) ?_ hN
  simp [BEq.beq]
set_option maxHeartbeats 1000000 in
theorem at_fn (l : List It) (id : Int) (hl : l.length ≤ 9223372036854775807) : FnP Try.prog 24 [.sl (l.map aIt), .int .i64 id] (.int .i64 (idx (fun x => x.id == id) l)) := by
  refine FnP.of Try.func24 rfl rfl (by simp) (by simp [AV.cells, aIt]) (fun G hG => ?_)
  have hN : NoH G.length (.int .i64 (idx (fun x => x.id == id) l)) := (by simp [AV.cells, aIt])
  refine AWP.seq ?_
  refine AWP.region (fun _ => ?_)
  refine ARun.box1 (j := 0) hG rfl rfl rfl rfl rfl (Ev.plain rfl) rfl optN ?_
  refine ARun.move (.inr rfl) rfl rfl rfl (Ev.plain rfl) optN ?_
  refine ⟨_, _, rfl, hG, ?_⟩
  refine thenA_n ?_
  refine AWP.seq ?_
  refine AWP.frzBox 3 hG rfl rfl rfl ?_
  refine AWP.region (fun _ => ?_)
  refine ARun.move (.inl rfl) rfl rfl rfl (Ev.plain rfl) optN ?_
  refine ARun.makeFunc rfl rfl rfl rfl .nil (.cons (Ev.plain rfl) .nil) optN ?_
  refine ARun.call rfl rfl rfl rfl cf25 (Ev.plain rfl) (.cons (Ev.plain rfl) (.cons (Ev.plain rfl) .nil)) rfl (fun hg => indexIt 38 [] [.pe [.int .i64 id]] (fun x => x.id == id) l hl cf38 (by simp) (fun x _ => atf_fn x id)) optN ?_
  refine ARun.move (.inr rfl) rfl rfl rfl (Ev.plain rfl) optN ?_
  refine ⟨_, _, rfl, hG, ?_⟩
  refine thenA_n ?_
  refine AWP.ret ?_
  refine endF.one (.inr rfl) rfl (.tmp rfl) ?_ hN
  rw [← idxOf_idx]
set_option maxHeartbeats 1000000 in
theorem find_fn (l : List It) (id : Int) (hl : l.length ≤ 9223372036854775807) : FnP Try.prog 18 [.sl (l.map aIt), .int .i64 id] (.tup [aIt (findT l id).1, .bool (findT l id).2]) := by
  have hp := fun h => idx_pos (q := fun x : It => x.id == id) (l := l) h
  refine FnP.of Try.func18 rfl rfl (by simp) (by simp [AV.cells, aIt]) (fun G hG => ?_)
  have hN : NoH G.length (.tup [aIt (findT l id).1, .bool (findT l id).2]) := (by simp [AV.cells, aIt])
  refine AWP.seq ?_
  refine AWP.region (fun _ => ?_)
  refine ARun.alloc (j := 0) hG rfl rfl rfl rfl rfl zv34 rfl optN ?_
  refine ARun.move (.inr rfl) rfl rfl rfl (Ev.plain rfl) optN ?_
  refine ⟨_, _, rfl, hG, ?_⟩
  refine thenA_n ?_
  refine AWP.seq ?_
  refine AWP.region (fun _ => ?_)
  refine ARun.move (.inl rfl) rfl rfl rfl (Ev.plain rfl) optN ?_
  refine ARun.move (.inl rfl) rfl rfl rfl (Ev.plain rfl) optN ?_
  refine ARun.call rfl rfl rfl rfl cf24 (Ev.plain rfl) (.cons (Ev.plain rfl) (.cons (Ev.plain rfl) .nil)) rfl (fun hg => at_fn l id hl) optN ?_
  refine ARun.move (.inr rfl) rfl rfl rfl (Ev.plain rfl) optN ?_
  refine ⟨_, _, rfl, hG, ?_⟩
  refine thenA_n ?_
  refine AWP.seq ?_
  refine AWP.seq ?_
  refine AWP.region (fun _ => ?_)
  refine ARun.move (.inl rfl) rfl rfl rfl (Ev.plain rfl) optN ?_
  refine ARun.cmp rfl rfl rfl rfl (Ev.plain rfl) (Ev.plain rfl) rfl optN ?_
  refine ⟨_, _, rfl, hG, ?_⟩
  refine thenA_n ?_
  refine AWP.cond rfl (fun h0 => ?_) (fun h0 => ?_)
  · skip
    try simp at h0
    refine AWP.seq ?_
    refine AWP.region (fun _ => ?_)
    refine ARun.build rfl rfl rfl rfl so34 .nil rfl rfl optN ?_
    refine ARun.storeL hG rfl rfl rfl sz34 (Ev.plain rfl) (Ev.plain rfl) rfl rfl rfl rfl rfl (Nat.le_of_ble_eq_true rfl) rfl rfl ?_
    refine ARun.move (.inr rfl) rfl rfl rfl (Ev.plain rfl) optN ?_
    refine ⟨_, _, rfl, hG, ?_⟩
    refine thenA_n ?_
    refine AWP.ret ?_
    refine thenA_r ?_
    refine endF.many (.inr rfl) (rs := [.cell 4 34, .tmp 5]) rfl (.cons (.cellA rfl ((hG.at _ _).trans rfl) Try.underlying34 rfl sz34 rfl rfl) (.cons (.tmp rfl) .nil)) (by simp) ?_ hN
    rw [find_no h0]; rfl
  · skip
    try simp at h0
    refine AWP.skip ?_
    refine thenA_n ?_
    refine AWP.seq ?_
    refine AWP.region (fun _ => ?_)
    refine ARun.move (.inl rfl) rfl rfl rfl (Ev.plain rfl) optN ?_
    refine ARun.move (.inl rfl) rfl rfl rfl (Ev.plain rfl) optN ?_
    first | refine ARun.indexSl rfl rfl rfl rfl Try.underlying22 sz34 (Ev.plain rfl) (Ev.plain rfl) (fun _ => rfl) (fun hg => getMap _ _ _ (by (try simp at hg); omega)) rfl rfl optN ?_ | refine ARun.indexSl rfl rfl rfl rfl Try.underlying22 sz34 (Ev.plain rfl) (Ev.plain rfl) (fun hg => ofNonneg (by (try simp at hg); omega)) (fun hg => getMap _ _ _ (by (try simp at hg); omega)) rfl rfl optN ?_
    refine ARun.loadPeA rfl rfl rfl rfl Try.underlying34 rfl sz34 (Ev.plain rfl) rfl optN ?_
    refine ARun.storeL hG rfl rfl rfl sz34 (Ev.plain rfl) (Ev.plain rfl) rfl rfl rfl rfl rfl (Nat.le_of_ble_eq_true rfl) rfl rfl ?_
    refine ARun.move (.inr rfl) rfl rfl rfl (Ev.plain rfl) optN ?_
    refine ⟨_, _, rfl, hG, ?_⟩
    refine thenA_n ?_
    refine AWP.ret ?_
    refine endF.many (.inr rfl) (rs := [.cell 4 34, .tmp 5]) rfl (.cons (.cellA rfl ((hG.at _ _).trans rfl) Try.underlying34 rfl sz34 rfl rfl) (.cons (.tmp rfl) .nil)) (by simp) ?_ hN
    rw [find_yes (by omega)]; rfl
set_option maxHeartbeats 1000000 in
theorem lent_fn (x : It) : FnP Try.prog 41 [aIt x] (.int .i64 (lentE x.free x.held)) := by
  refine FnP.of Try.func41 rfl rfl (by simp) (by simp [AV.cells, aIt]) (fun G hG => ?_)
  have hN : NoH G.length (.int .i64 (lentE x.free x.held)) := (by simp [AV.cells, aIt])
  refine AWP.seq ?_
  refine AWP.region (fun _ => ?_)
  refine ARun.box (j := 0) hG rfl rfl rfl rfl rfl (Ev.plain rfl) rfl rfl optN ?_
  refine ARun.move (.inr rfl) rfl rfl rfl (Ev.plain rfl) optN ?_
  refine ⟨_, _, rfl, hG, ?_⟩
  refine thenA_n ?_
  refine AWP.seq ?_
  refine AWP.seq ?_
  refine AWP.region (fun _ => ?_)
  refine ARun.fieldBox (fo := 1) rfl rfl rfl rfl Try.underlying34 rfl rfl sz3 (by decide) (Ev.plain rfl) ((hG.at _ _).trans rfl) optN ?_
  refine ARun.loadBox rfl rfl rfl rfl Try.underlying3 rfl (Ev.plain rfl) ((hG.at _ _).trans rfl) rfl optN ?_
  refine ARun.fieldBox (fo := 2) rfl rfl rfl rfl Try.underlying34 rfl rfl sz3 (by decide) (Ev.plain rfl) ((hG.at _ _).trans rfl) optN ?_
  refine ARun.loadBox rfl rfl rfl rfl Try.underlying3 rfl (Ev.plain rfl) ((hG.at _ _).trans rfl) rfl optN ?_
  refine ARun.minmax rfl rfl rfl rfl (Ev.plain rfl) (Ev.plain rfl) (.inl ⟨rfl, rfl⟩) optN ?_
  refine ARun.cmp rfl rfl rfl rfl (Ev.plain rfl) (Ev.plain rfl) rfl optN ?_
  refine ⟨_, _, rfl, hG, ?_⟩
  refine thenA_n ?_
  refine AWP.cond rfl (fun h0 => ?_) (fun h0 => ?_)
  · skip
    simp at h0
    refine AWP.seq ?_
    refine AWP.region (fun _ => ?_)
    refine ARun.move (.inr rfl) rfl rfl rfl (Ev.plain rfl) optN ?_
    refine ⟨_, _, rfl, hG, ?_⟩
    refine thenA_n ?_
    refine AWP.ret ?_
    refine thenA_r ?_
    refine endF.one (.inr rfl) rfl (.tmp rfl) ?_ hN
    unfold lentE; rw [if_pos (by omega)]; rfl
  · skip
    simp at h0
    refine AWP.skip ?_
    refine thenA_n ?_
    refine AWP.seq ?_
    refine AWP.region (fun _ => ?_)
    refine ARun.move (.inr rfl) rfl rfl rfl (Ev.plain rfl) optN ?_
    refine ⟨_, _, rfl, hG, ?_⟩
    refine thenA_n ?_
    refine AWP.ret ?_
    refine endF.one (.inr rfl) rfl (.tmp rfl) ?_ hN
    unfold lentE; rw [if_neg (by omega)]; rfl
set_option maxHeartbeats 1000000 in
theorem inA_fn (n : Int) (x : It) (hx : may x = true) (hn : 1 ≤ n ∧ n ≤ 1000000) : FnP Try.prog 30 [.int .i64 n, aIt x] (.tup [aIt (inG n x).1, .int .i64 (inG n x).2]) := by
  have hb := may_bd hx
  refine FnP.of Try.func30 rfl rfl (by simp) (by simp [AV.cells, aIt]) (fun G hG => ?_)
  have hN : NoH G.length (.tup [aIt (inG n x).1, .int .i64 (inG n x).2]) := (by simp [AV.cells, aIt])
  refine AWP.seq ?_
  refine AWP.region (fun _ => ?_)
  refine ARun.box (j := 0) hG rfl rfl rfl rfl rfl (Ev.plain rfl) rfl rfl optN ?_
  refine ARun.alloc (j := 1) hG rfl rfl rfl rfl rfl zv34 rfl optN ?_
  refine ARun.move (.inr rfl) rfl rfl rfl (Ev.plain rfl) optN ?_
  refine ⟨_, _, rfl, hG, ?_⟩
  refine thenA_n ?_
  refine AWP.seq ?_
  refine AWP.region (fun _ => ?_)
  refine ARun.fieldBox (fo := 1) rfl rfl rfl rfl Try.underlying34 rfl rfl sz3 (by decide) (Ev.plain rfl) ((hG.at _ _).trans rfl) optN ?_
  refine ARun.loadBox rfl rfl rfl rfl Try.underlying3 rfl (Ev.plain rfl) ((hG.at _ _).trans rfl) rfl optN ?_
  refine ARun.move (.inl rfl) rfl rfl rfl (Ev.plain rfl) optN ?_
  first | refine ARun.arith rfl rfl rfl rfl (Ev.plain rfl) (Ev.plain rfl) rfl (fun hg => i64w (by (try simp at hg); omega)) optN ?_ | refine ARun.arith rfl rfl rfl rfl (Ev.plain rfl) (Ev.plain rfl) rfl (fun _ => rfl) optN ?_
  refine ARun.fieldBox (fo := 1) rfl rfl rfl rfl Try.underlying34 rfl rfl sz3 (by decide) (Ev.plain rfl) ((hG.at _ _).trans rfl) optN ?_
  refine ARun.storeL1 hG rfl rfl rfl sz3 (Ev.plain rfl) (Ev.plain rfl) rfl rfl (Nat.le_of_ble_eq_true rfl) rfl rfl ?_
  refine ⟨_, _, rfl, hG, ?_⟩
  refine thenA_n ?_
  refine AWP.seq ?_
  refine AWP.seq ?_
  refine AWP.region (fun _ => ?_)
  refine ARun.loadBoxA rfl rfl rfl rfl Try.underlying34 rfl sz34 (Ev.plain rfl) ((hG.at _ _).trans rfl) rfl rfl optN ?_
  refine ARun.call rfl rfl rfl rfl cf23 (Ev.plain rfl) (.cons (Ev.plain rfl) .nil) rfl (fun hg => may_fn ⟨x.id, x.free + n, x.held, x.gone⟩) optN ?_
  refine ARun.not rfl rfl rfl rfl (Ev.plain rfl) optN ?_
  refine ⟨_, _, rfl, hG, ?_⟩
  refine thenA_n ?_
  refine AWP.cond rfl (fun h0 => ?_) (fun h0 => ?_)
  · skip
    simp at h0
    refine AWP.seq ?_
    refine AWP.region (fun _ => ?_)
    refine ARun.build rfl rfl rfl rfl so34 .nil rfl rfl optN ?_
    refine ARun.storeL hG rfl rfl rfl sz34 (Ev.plain rfl) (Ev.plain rfl) rfl rfl rfl rfl rfl (Nat.le_of_ble_eq_true rfl) rfl rfl ?_
    refine ARun.move (.inr rfl) rfl rfl rfl (Ev.plain rfl) optN ?_
    refine ⟨_, _, rfl, hG, ?_⟩
    refine thenA_n ?_
    refine AWP.ret ?_
    refine thenA_r ?_
    refine endF.many (.inr rfl) (rs := [.cell 4 34, .tmp 5]) rfl (.cons (.cellA rfl ((hG.at _ _).trans rfl) Try.underlying34 rfl sz34 rfl rfl) (.cons (.tmp rfl) .nil)) (by simp) ?_ hN
    unfold inG; rw [if_neg (by simp [h0])]; rfl
  · skip
    simp at h0
    refine AWP.skip ?_
    refine thenA_n ?_
    refine AWP.seq ?_
    refine AWP.region (fun _ => ?_)
    refine ARun.loadBoxA rfl rfl rfl rfl Try.underlying34 rfl sz34 (Ev.plain rfl) ((hG.at _ _).trans rfl) rfl rfl optN ?_
    refine ARun.storeL hG rfl rfl rfl sz34 (Ev.plain rfl) (Ev.plain rfl) rfl rfl rfl rfl rfl (Nat.le_of_ble_eq_true rfl) rfl rfl ?_
    refine ARun.move (.inr rfl) rfl rfl rfl (Ev.plain rfl) optN ?_
    refine ⟨_, _, rfl, hG, ?_⟩
    refine thenA_n ?_
    refine AWP.ret ?_
    refine endF.many (.inr rfl) (rs := [.cell 4 34, .tmp 5]) rfl (.cons (.cellA rfl ((hG.at _ _).trans rfl) Try.underlying34 rfl sz34 rfl rfl) (.cons (.tmp rfl) .nil)) (by simp) ?_ hN
    unfold inG; rw [if_pos h0]; rfl
set_option maxHeartbeats 1000000 in
theorem outA_fn (n : Int) (x : It) (hx : may x = true) (hn : 1 ≤ n ∧ n ≤ 1000000) : FnP Try.prog 37 [.int .i64 n, aIt x] (.tup [aIt (outG n x).1, .int .i64 (outG n x).2]) := by
  have hb := may_bd hx
  refine FnP.of Try.func37 rfl rfl (by simp) (by simp [AV.cells, aIt]) (fun G hG => ?_)
  have hN : NoH G.length (.tup [aIt (outG n x).1, .int .i64 (outG n x).2]) := (by simp [AV.cells, aIt])
  refine AWP.seq ?_
  refine AWP.region (fun _ => ?_)
  refine ARun.box (j := 0) hG rfl rfl rfl rfl rfl (Ev.plain rfl) rfl rfl optN ?_
  refine ARun.alloc (j := 1) hG rfl rfl rfl rfl rfl zv34 rfl optN ?_
  refine ARun.move (.inr rfl) rfl rfl rfl (Ev.plain rfl) optN ?_
  refine ⟨_, _, rfl, hG, ?_⟩
  refine thenA_n ?_
  refine AWP.seq ?_
  refine AWP.region (fun _ => ?_)
  refine ARun.fieldBox (fo := 1) rfl rfl rfl rfl Try.underlying34 rfl rfl sz3 (by decide) (Ev.plain rfl) ((hG.at _ _).trans rfl) optN ?_
  refine ARun.loadBox rfl rfl rfl rfl Try.underlying3 rfl (Ev.plain rfl) ((hG.at _ _).trans rfl) rfl optN ?_
  refine ARun.move (.inl rfl) rfl rfl rfl (Ev.plain rfl) optN ?_
  first | refine ARun.arith rfl rfl rfl rfl (Ev.plain rfl) (Ev.plain rfl) rfl (fun hg => i64w (by (try simp at hg); omega)) optN ?_ | refine ARun.arith rfl rfl rfl rfl (Ev.plain rfl) (Ev.plain rfl) rfl (fun _ => rfl) optN ?_
  refine ARun.fieldBox (fo := 1) rfl rfl rfl rfl Try.underlying34 rfl rfl sz3 (by decide) (Ev.plain rfl) ((hG.at _ _).trans rfl) optN ?_
  refine ARun.storeL1 hG rfl rfl rfl sz3 (Ev.plain rfl) (Ev.plain rfl) rfl rfl (Nat.le_of_ble_eq_true rfl) rfl rfl ?_
  refine ⟨_, _, rfl, hG, ?_⟩
  refine thenA_n ?_
  refine AWP.seq ?_
  refine AWP.draw mixed (by kernel_rfl) (fun _ => ?_)
  refine ARun.loadBoxA rfl rfl rfl rfl Try.underlying34 rfl sz34 (Ev.plain rfl) ((hG.at _ _).trans rfl) rfl rfl optN ?_
  refine ARun.loadBoxA rfl rfl rfl rfl Try.underlying34 rfl sz34 (Ev.plain rfl) ((hG.at _ _).trans rfl) rfl rfl optN ?_
  refine ARun.call rfl rfl rfl rfl cf41 (Ev.plain rfl) (.cons (Ev.plain rfl) .nil) rfl (fun hg => lent_fn ⟨x.id, x.free - n, x.held, x.gone⟩) optN ?_
  refine ARun.storeL hG rfl rfl rfl sz34 (Ev.plain rfl) (Ev.plain rfl) rfl rfl rfl rfl rfl (Nat.le_of_ble_eq_true rfl) rfl rfl ?_
  refine ARun.move (.inr rfl) rfl rfl rfl (Ev.plain rfl) optN ?_
  refine ⟨by kernel_rfl, _, _, rfl, hG, ?_⟩
  refine thenA_n ?_
  refine AWP.ret ?_
  refine endF.many (.inr rfl) (rs := [.cell 4 34, .tmp 5]) rfl (.cons (.cellA rfl ((hG.at _ _).trans rfl) Try.underlying34 rfl sz34 rfl rfl) (.cons (.tmp rfl) .nil)) (by simp) ?_ hN
  rfl
set_option maxHeartbeats 1000000 in
theorem holdA_fn (n : Int) (x : It) (hx : may x = true) (hn : 1 ≤ n ∧ n ≤ 1000000) : FnP Try.prog 33 [.int .i64 n, aIt x] (.tup [aIt (holdG n x).1, .int .i64 (holdG n x).2]) := by
  have hb := may_bd hx
  refine FnP.of Try.func33 rfl rfl (by simp) (by simp [AV.cells, aIt]) (fun G hG => ?_)
  have hN : NoH G.length (.tup [aIt (holdG n x).1, .int .i64 (holdG n x).2]) := (by simp [AV.cells, aIt])
  refine AWP.seq ?_
  refine AWP.region (fun _ => ?_)
  refine ARun.box (j := 0) hG rfl rfl rfl rfl rfl (Ev.plain rfl) rfl rfl optN ?_
  refine ARun.alloc (j := 1) hG rfl rfl rfl rfl rfl zv34 rfl optN ?_
  refine ARun.move (.inr rfl) rfl rfl rfl (Ev.plain rfl) optN ?_
  refine ⟨_, _, rfl, hG, ?_⟩
  refine thenA_n ?_
  refine AWP.seq ?_
  refine AWP.region (fun _ => ?_)
  refine ARun.fieldBox (fo := 1) rfl rfl rfl rfl Try.underlying34 rfl rfl sz3 (by decide) (Ev.plain rfl) ((hG.at _ _).trans rfl) optN ?_
  refine ARun.loadBox rfl rfl rfl rfl Try.underlying3 rfl (Ev.plain rfl) ((hG.at _ _).trans rfl) rfl optN ?_
  refine ARun.move (.inl rfl) rfl rfl rfl (Ev.plain rfl) optN ?_
  first | refine ARun.arith rfl rfl rfl rfl (Ev.plain rfl) (Ev.plain rfl) rfl (fun hg => i64w (by (try simp at hg); omega)) optN ?_ | refine ARun.arith rfl rfl rfl rfl (Ev.plain rfl) (Ev.plain rfl) rfl (fun _ => rfl) optN ?_
  refine ARun.fieldBox (fo := 2) rfl rfl rfl rfl Try.underlying34 rfl rfl sz3 (by decide) (Ev.plain rfl) ((hG.at _ _).trans rfl) optN ?_
  refine ARun.loadBox rfl rfl rfl rfl Try.underlying3 rfl (Ev.plain rfl) ((hG.at _ _).trans rfl) rfl optN ?_
  refine ARun.move (.inl rfl) rfl rfl rfl (Ev.plain rfl) optN ?_
  first | refine ARun.arith rfl rfl rfl rfl (Ev.plain rfl) (Ev.plain rfl) rfl (fun hg => i64w (by (try simp at hg); omega)) optN ?_ | refine ARun.arith rfl rfl rfl rfl (Ev.plain rfl) (Ev.plain rfl) rfl (fun _ => rfl) optN ?_
  refine ARun.fieldBox (fo := 1) rfl rfl rfl rfl Try.underlying34 rfl rfl sz3 (by decide) (Ev.plain rfl) ((hG.at _ _).trans rfl) optN ?_
  refine ARun.storeL1 hG rfl rfl rfl sz3 (Ev.plain rfl) (Ev.plain rfl) rfl rfl (Nat.le_of_ble_eq_true rfl) rfl rfl ?_
  refine ARun.fieldBox (fo := 2) rfl rfl rfl rfl Try.underlying34 rfl rfl sz3 (by decide) (Ev.plain rfl) ((hG.at _ _).trans rfl) optN ?_
  refine ARun.storeL1 hG rfl rfl rfl sz3 (Ev.plain rfl) (Ev.plain rfl) rfl rfl (Nat.le_of_ble_eq_true rfl) rfl rfl ?_
  refine ⟨_, _, rfl, hG, ?_⟩
  refine thenA_n ?_
  refine AWP.seq ?_
  refine AWP.draw mixed (by kernel_rfl) (fun _ => ?_)
  refine ARun.loadBoxA rfl rfl rfl rfl Try.underlying34 rfl sz34 (Ev.plain rfl) ((hG.at _ _).trans rfl) rfl rfl optN ?_
  refine ARun.loadBoxA rfl rfl rfl rfl Try.underlying34 rfl sz34 (Ev.plain rfl) ((hG.at _ _).trans rfl) rfl rfl optN ?_
  refine ARun.call rfl rfl rfl rfl cf41 (Ev.plain rfl) (.cons (Ev.plain rfl) .nil) rfl (fun hg => lent_fn ⟨x.id, x.free - n, x.held + n, x.gone⟩) optN ?_
  refine ARun.storeL hG rfl rfl rfl sz34 (Ev.plain rfl) (Ev.plain rfl) rfl rfl rfl rfl rfl (Nat.le_of_ble_eq_true rfl) rfl rfl ?_
  refine ARun.move (.inr rfl) rfl rfl rfl (Ev.plain rfl) optN ?_
  refine ⟨by kernel_rfl, _, _, rfl, hG, ?_⟩
  refine thenA_n ?_
  refine AWP.ret ?_
  refine endF.many (.inr rfl) (rs := [.cell 4 34, .tmp 5]) rfl (.cons (.cellA rfl ((hG.at _ _).trans rfl) Try.underlying34 rfl sz34 rfl rfl) (.cons (.tmp rfl) .nil)) (by simp) ?_ hN
  rfl
set_option maxHeartbeats 1000000 in
theorem freeA_fn (n : Int) (x : It) (hx : may x = true) (hn : 1 ≤ n ∧ n ≤ 1000000) : FnP Try.prog 34 [.int .i64 n, aIt x] (.tup [aIt (freeG n x).1, .int .i64 (freeG n x).2]) := by
  have hb := may_bd hx
  refine FnP.of Try.func34 rfl rfl (by simp) (by simp [AV.cells, aIt]) (fun G hG => ?_)
  have hN : NoH G.length (.tup [aIt (freeG n x).1, .int .i64 (freeG n x).2]) := (by simp [AV.cells, aIt])
  refine AWP.seq ?_
  refine AWP.region (fun _ => ?_)
  refine ARun.box (j := 0) hG rfl rfl rfl rfl rfl (Ev.plain rfl) rfl rfl optN ?_
  refine ARun.alloc (j := 1) hG rfl rfl rfl rfl rfl zv34 rfl optN ?_
  refine ARun.move (.inr rfl) rfl rfl rfl (Ev.plain rfl) optN ?_
  refine ⟨_, _, rfl, hG, ?_⟩
  refine thenA_n ?_
  refine AWP.seq ?_
  refine AWP.region (fun _ => ?_)
  refine ARun.fieldBox (fo := 1) rfl rfl rfl rfl Try.underlying34 rfl rfl sz3 (by decide) (Ev.plain rfl) ((hG.at _ _).trans rfl) optN ?_
  refine ARun.loadBox rfl rfl rfl rfl Try.underlying3 rfl (Ev.plain rfl) ((hG.at _ _).trans rfl) rfl optN ?_
  refine ARun.move (.inl rfl) rfl rfl rfl (Ev.plain rfl) optN ?_
  first | refine ARun.arith rfl rfl rfl rfl (Ev.plain rfl) (Ev.plain rfl) rfl (fun hg => i64w (by (try simp at hg); omega)) optN ?_ | refine ARun.arith rfl rfl rfl rfl (Ev.plain rfl) (Ev.plain rfl) rfl (fun _ => rfl) optN ?_
  refine ARun.fieldBox (fo := 2) rfl rfl rfl rfl Try.underlying34 rfl rfl sz3 (by decide) (Ev.plain rfl) ((hG.at _ _).trans rfl) optN ?_
  refine ARun.loadBox rfl rfl rfl rfl Try.underlying3 rfl (Ev.plain rfl) ((hG.at _ _).trans rfl) rfl optN ?_
  refine ARun.move (.inl rfl) rfl rfl rfl (Ev.plain rfl) optN ?_
  first | refine ARun.arith rfl rfl rfl rfl (Ev.plain rfl) (Ev.plain rfl) rfl (fun hg => i64w (by (try simp at hg); omega)) optN ?_ | refine ARun.arith rfl rfl rfl rfl (Ev.plain rfl) (Ev.plain rfl) rfl (fun _ => rfl) optN ?_
  refine ARun.fieldBox (fo := 1) rfl rfl rfl rfl Try.underlying34 rfl rfl sz3 (by decide) (Ev.plain rfl) ((hG.at _ _).trans rfl) optN ?_
  refine ARun.storeL1 hG rfl rfl rfl sz3 (Ev.plain rfl) (Ev.plain rfl) rfl rfl (Nat.le_of_ble_eq_true rfl) rfl rfl ?_
  refine ARun.fieldBox (fo := 2) rfl rfl rfl rfl Try.underlying34 rfl rfl sz3 (by decide) (Ev.plain rfl) ((hG.at _ _).trans rfl) optN ?_
  refine ARun.storeL1 hG rfl rfl rfl sz3 (Ev.plain rfl) (Ev.plain rfl) rfl rfl (Nat.le_of_ble_eq_true rfl) rfl rfl ?_
  refine ⟨_, _, rfl, hG, ?_⟩
  refine thenA_n ?_
  refine AWP.seq ?_
  refine AWP.draw mixed (by kernel_rfl) (fun _ => ?_)
  refine ARun.loadBoxA rfl rfl rfl rfl Try.underlying34 rfl sz34 (Ev.plain rfl) ((hG.at _ _).trans rfl) rfl rfl optN ?_
  refine ARun.loadBoxA rfl rfl rfl rfl Try.underlying34 rfl sz34 (Ev.plain rfl) ((hG.at _ _).trans rfl) rfl rfl optN ?_
  refine ARun.call rfl rfl rfl rfl cf41 (Ev.plain rfl) (.cons (Ev.plain rfl) .nil) rfl (fun hg => lent_fn ⟨x.id, x.free + n, x.held - n, x.gone⟩) optN ?_
  refine ARun.storeL hG rfl rfl rfl sz34 (Ev.plain rfl) (Ev.plain rfl) rfl rfl rfl rfl rfl (Nat.le_of_ble_eq_true rfl) rfl rfl ?_
  refine ARun.move (.inr rfl) rfl rfl rfl (Ev.plain rfl) optN ?_
  refine ⟨by kernel_rfl, _, _, rfl, hG, ?_⟩
  refine thenA_n ?_
  refine AWP.ret ?_
  refine endF.many (.inr rfl) (rs := [.cell 4 34, .tmp 5]) rfl (.cons (.cellA rfl ((hG.at _ _).trans rfl) Try.underlying34 rfl sz34 rfl rfl) (.cons (.tmp rfl) .nil)) (by simp) ?_ hN
  rfl
set_option maxHeartbeats 1000000 in
theorem shipA_fn (n : Int) (x : It) (hx : may x = true) (hn : 1 ≤ n ∧ n ≤ 1000000) : FnP Try.prog 35 [.int .i64 n, aIt x] (.tup [aIt (shipG n x).1, .int .i64 (shipG n x).2]) := by
  have hb := may_bd hx
  refine FnP.of Try.func35 rfl rfl (by simp) (by simp [AV.cells, aIt]) (fun G hG => ?_)
  have hN : NoH G.length (.tup [aIt (shipG n x).1, .int .i64 (shipG n x).2]) := (by simp [AV.cells, aIt])
  refine AWP.seq ?_
  refine AWP.region (fun _ => ?_)
  refine ARun.box (j := 0) hG rfl rfl rfl rfl rfl (Ev.plain rfl) rfl rfl optN ?_
  refine ARun.alloc (j := 1) hG rfl rfl rfl rfl rfl zv34 rfl optN ?_
  refine ARun.move (.inr rfl) rfl rfl rfl (Ev.plain rfl) optN ?_
  refine ⟨_, _, rfl, hG, ?_⟩
  refine thenA_n ?_
  refine AWP.seq ?_
  refine AWP.region (fun _ => ?_)
  refine ARun.fieldBox (fo := 2) rfl rfl rfl rfl Try.underlying34 rfl rfl sz3 (by decide) (Ev.plain rfl) ((hG.at _ _).trans rfl) optN ?_
  refine ARun.loadBox rfl rfl rfl rfl Try.underlying3 rfl (Ev.plain rfl) ((hG.at _ _).trans rfl) rfl optN ?_
  refine ARun.move (.inl rfl) rfl rfl rfl (Ev.plain rfl) optN ?_
  first | refine ARun.arith rfl rfl rfl rfl (Ev.plain rfl) (Ev.plain rfl) rfl (fun hg => i64w (by (try simp at hg); omega)) optN ?_ | refine ARun.arith rfl rfl rfl rfl (Ev.plain rfl) (Ev.plain rfl) rfl (fun _ => rfl) optN ?_
  refine ARun.fieldBox (fo := 3) rfl rfl rfl rfl Try.underlying34 rfl rfl sz3 (by decide) (Ev.plain rfl) ((hG.at _ _).trans rfl) optN ?_
  refine ARun.loadBox rfl rfl rfl rfl Try.underlying3 rfl (Ev.plain rfl) ((hG.at _ _).trans rfl) rfl optN ?_
  refine ARun.move (.inl rfl) rfl rfl rfl (Ev.plain rfl) optN ?_
  first | refine ARun.arith rfl rfl rfl rfl (Ev.plain rfl) (Ev.plain rfl) rfl (fun hg => i64w (by (try simp at hg); omega)) optN ?_ | refine ARun.arith rfl rfl rfl rfl (Ev.plain rfl) (Ev.plain rfl) rfl (fun _ => rfl) optN ?_
  refine ARun.fieldBox (fo := 2) rfl rfl rfl rfl Try.underlying34 rfl rfl sz3 (by decide) (Ev.plain rfl) ((hG.at _ _).trans rfl) optN ?_
  refine ARun.storeL1 hG rfl rfl rfl sz3 (Ev.plain rfl) (Ev.plain rfl) rfl rfl (Nat.le_of_ble_eq_true rfl) rfl rfl ?_
  refine ARun.fieldBox (fo := 3) rfl rfl rfl rfl Try.underlying34 rfl rfl sz3 (by decide) (Ev.plain rfl) ((hG.at _ _).trans rfl) optN ?_
  refine ARun.storeL1 hG rfl rfl rfl sz3 (Ev.plain rfl) (Ev.plain rfl) rfl rfl (Nat.le_of_ble_eq_true rfl) rfl rfl ?_
  refine ⟨_, _, rfl, hG, ?_⟩
  refine thenA_n ?_
  refine AWP.seq ?_
  refine AWP.draw mixed (by kernel_rfl) (fun _ => ?_)
  refine ARun.loadBoxA rfl rfl rfl rfl Try.underlying34 rfl sz34 (Ev.plain rfl) ((hG.at _ _).trans rfl) rfl rfl optN ?_
  refine ARun.loadBoxA rfl rfl rfl rfl Try.underlying34 rfl sz34 (Ev.plain rfl) ((hG.at _ _).trans rfl) rfl rfl optN ?_
  refine ARun.call rfl rfl rfl rfl cf41 (Ev.plain rfl) (.cons (Ev.plain rfl) .nil) rfl (fun hg => lent_fn ⟨x.id, x.free, x.held - n, x.gone + n⟩) optN ?_
  refine ARun.storeL hG rfl rfl rfl sz34 (Ev.plain rfl) (Ev.plain rfl) rfl rfl rfl rfl rfl (Nat.le_of_ble_eq_true rfl) rfl rfl ?_
  refine ARun.move (.inr rfl) rfl rfl rfl (Ev.plain rfl) optN ?_
  refine ⟨by kernel_rfl, _, _, rfl, hG, ?_⟩
  refine thenA_n ?_
  refine AWP.ret ?_
  refine endF.many (.inr rfl) (rs := [.cell 4 34, .tmp 5]) rfl (.cons (.cellA rfl ((hG.at _ _).trans rfl) Try.underlying34 rfl sz34 rfl rfl) (.cons (.tmp rfl) .nil)) (by simp) ?_ hN
  rfl
end Go.Proofs.Ytfeeohbapnolcaa
