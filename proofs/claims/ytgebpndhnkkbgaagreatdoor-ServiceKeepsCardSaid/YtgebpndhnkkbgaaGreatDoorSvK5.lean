/- The texts that the law ServiceKeeps rests on, part 5: AmBask, CallLaw, ServPlain, AmServ, ServLaw, AmServL, AmServM, Open, Opn, OpnS, AmServE. -/
import Derived.Test.YtgebpndhnkkbgaaGreatDoorSvK4
import Derived.ChangeOld
import Derived.DataReads
import Derived.ChangeArms
namespace Go.Proofs.YtgebpndhnkkbgaaGreatDoor.Stk
set_option linter.unusedVariables false
set_option linter.unusedSimpArgs false
open Go.RowKit
open StockP
set_option maxRecDepth 100000
abbrev holdF (ys : List It) (i q : Int) : List It × Int := withP (holdG q) ys i q
theorem ln_get {m : List Ln} {k : Nat} (h : k < m.length) : m.getD k default = m[k] := by simp [List.getD, h]
theorem stepL (m : List Ln) (k : Nat) (h : k < m.length) : okLFrom 0 (m.take (k + 1)) = (okLFrom 0 (m.take k) && decide (lastL 0 (m.take k) < (m.getD k default).item ∧ (m.getD k default).item ≤ 99999 ∧ 1 ≤ (m.getD k default).qty ∧ (m.getD k default).qty ≤ 1000000)) := by
  rw [ln_get h, show m.take (k + 1) = m.take k ++ [m[k]] by simp]; exact okLFrom_snoc _ _ _
theorem lastL_at (m : List Ln) (k : Nat) (h : k < m.length) : lastL 0 (m.take (k + 1)) = (m.getD k default).item := by
  rw [ln_get h, show m.take (k + 1) = m.take k ++ [m[k]] by simp]; exact lastL_snoc _ _ _
theorem lastL_ge (l : List Ln) : ∀ p, okLFrom p l = true → p ≤ lastL p l := by
  induction l with
  | nil => intro p _; exact Int.le_refl _
  | cons x l ih =>
    intro p h
    simp only [okLFrom, Bool.and_eq_true, decide_eq_true_eq] at h
    have := ih _ h.2
    show p ≤ lastL x.item l
    omega
theorem okLE_bad {m : List Ln} {k : Nat} (h : okLFrom 0 (m.take (k + 1)) = false) : okLE m = 2 := by
  unfold okLE okL; rw [okLFrom_cut h]; simp
theorem okLE_big {m : List Ln} (h : m.length < 1 ∨ 5 < m.length) : okLE m = 2 := by
  unfold okLE okL; rw [decide_eq_false (by omega)]; simp
theorem okLE_good {m : List Ln} (h : 1 ≤ m.length ∧ m.length ≤ 5) (h2 : okLFrom 0 (m.take m.length) = true) : okLE m = 0 := by
  rw [List.take_length] at h2
  unfold okLE okL; rw [decide_eq_true h, h2]; simp
theorem okLE_ok {m : List Ln} : okLE m = 0 ↔ okL m = true := by unfold okLE; split <;> simp_all
theorem okL_len {m : List Ln} (h : okL m = true) : 1 ≤ m.length ∧ m.length ≤ 5 := by unfold okL at h; simp at h; exact h.1
theorem okL_at {m : List Ln} (h : okL m = true) {k : Nat} (hk : k < m.length) : 1 ≤ (m.getD k default).qty ∧ (m.getD k default).qty ≤ 1000000 := by
  have h2 : okLFrom 0 m = true := by unfold okL at h; simp at h; exact h.2
  have := okLFrom_mem h2 m[k] (List.getElem_mem hk)
  rw [ln_get hk]; omega
theorem sumF_at (m : List Ln) (k : Nat) (h : k < m.length) : sumF (m.take (k + 1)) = sumF (m.take k) + (m.getD k default).qty := by
  rw [ln_get h, show m.take (k + 1) = m.take k ++ [m[k]] by simp]; exact sumF_snoc _ _
theorem sumF_bd {m : List Ln} (h : okL m = true) : ∀ k, k ≤ m.length → 0 ≤ sumF (m.take k) ∧ sumF (m.take k) ≤ 1000000 * (k : Int) := by
  intro k
  induction k with
  | zero => intro _; simp [sumF]
  | succ k ih =>
    intro hk
    have h1 := ih (by omega)
    have h2 := okL_at h (k := k) (by omega)
    rw [sumF_at m k (by omega)]; omega
theorem goes_step {fn : List It → Int → Int → List It × Int} {cur : List It} {m : List Ln} {k : Nat} (h : k < m.length) : goesP fn k cur (m.drop k) = if (fn cur (m.getD k default).item (m.getD k default).qty).2 ≠ 0 then ([], (k : Int), (fn cur (m.getD k default).item (m.getD k default).qty).2) else goesP fn ((k + 1 : Nat) : Int) (fn cur (m.getD k default).item (m.getD k default).qty).1 (m.drop (k + 1)) := by
  rw [List.drop_eq_getElem_cons h, ← ln_get h, goesP_cons]; rfl
theorem goes_end {fn : List It → Int → Int → List It × Int} {cur : List It} {m : List Ln} : goesP fn m.length cur (m.drop m.length) = (cur, (m.length : Int), 0) := by
  rw [List.drop_length]; rfl
theorem hold_len (l : List It) (i q : Int) : (holdF l i q).1.length ≤ l.length := with_len (holdG q) l i q
theorem allP_no {fn : List It → Int → Int → List It × Int} {l : List It} {m : List Ln} (h : ¬ (ok l = true ∧ okL m = true)) : allP fn l m = ([], 0, 2) := if_neg h
theorem allP_yes {fn : List It → Int → Int → List It × Int} {l : List It} {m : List Ln} (h : ok l = true ∧ okL m = true) : allP fn l m = goesP fn 0 l m := if_pos h
set_option maxHeartbeats 1000000 in
theorem checkL_fn (m : List Ln) : FnP Tryz.prog 137 [.sl (m.map aLn)] (.int .i64 (okLE m)) := by
  refine FnP.of Tryz.func137 rfl rfl (by simp) (by simp [AV.cells, aIt, aLn]) (fun G hG => ?_)
  have hN : NoH G.length (.int .i64 (okLE m)) := (by simp [AV.cells, aIt, aLn])
  refine AWP.seq ?_
  refine AWP.region (fun _ => ?_)
  refine ARun.move (.inr rfl) rfl rfl rfl (Ev.plain rfl) optN ?_
  refine ⟨_, _, rfl, hG, ?_⟩
  refine thenA_n ?_
  refine AWP.seq ?_
  refine AWP.seq ?_
  refine AWP.region (fun _ => ?_)
  refine ARun.move (.inl rfl) rfl rfl rfl (Ev.plain rfl) optN ?_
  refine ARun.lenSl rfl rfl rfl rfl Tryz.underlying23 (Ev.plain rfl) optN ?_
  refine ARun.cmp rfl rfl rfl rfl (Ev.plain rfl) (Ev.plain rfl) rfl optN ?_
  refine ARun.move (.inl rfl) rfl rfl rfl (Ev.plain rfl) optN ?_
  refine ARun.move (.inl rfl) rfl rfl rfl (Ev.plain rfl) optS ?_
  refine ARun.lenSl rfl rfl rfl rfl Tryz.underlying23 (Ev.opt rfl (fun h => h)) optS ?_
  refine ARun.cmp rfl rfl rfl rfl (Ev.opt rfl (fun h => h)) (Ev.plain rfl) rfl optS ?_
  refine ARun.pick rfl rfl rfl rfl (Ev.plain rfl) (Ev.plain rfl) (Ev.opt rfl (by first | exact pkF | exact pkF2 | simp +contextual)) (orB _ _) optN ?_
  refine ⟨_, _, rfl, hG, ?_⟩
  refine thenA_n ?_
  refine AWP.cond rfl (fun h0 => ?_) (fun h0 => ?_)
  · skip
    simp only [Bool.or_eq_true, decide_eq_true_eq, List.length_map] at h0
    refine AWP.seq ?_
    refine AWP.region (fun _ => ?_)
    refine ARun.move (.inr rfl) rfl rfl rfl (Ev.plain rfl) optN ?_
    refine ⟨_, _, rfl, hG, ?_⟩
    refine thenA_n ?_
    refine AWP.ret ?_
    refine thenA_r ?_
    refine endF.one (.inr rfl) rfl (.tmp rfl) ?_ hN
    rw [okLE_big (by omega)]; rfl
  · skip
    simp only [Bool.or_eq_false_iff, decide_eq_false_iff_not, List.length_map] at h0
    refine AWP.skip ?_
    refine thenA_n ?_
    refine AWP.seq ?_
    refine AWP.region (fun _ => ?_)
    refine ARun.move (.inr rfl) rfl rfl rfl (Ev.plain rfl) optN ?_
    refine ⟨_, _, rfl, hG, ?_⟩
    refine thenA_n ?_
    refine AWP.seq ?_
    refine AWP.seq ?_
    refine AWP.region (fun _ => ?_)
    refine ARun.move (.inl rfl) rfl rfl rfl (Ev.plain rfl) optN ?_
    refine ARun.lenSl rfl rfl rfl rfl Tryz.underlying23 (Ev.plain rfl) optN ?_
    refine ARun.move (.inl rfl) rfl rfl rfl (Ev.plain rfl) optN ?_
    refine ⟨_, _, rfl, hG, ?_⟩
    refine thenA_n ?_
    refine AWP.block ?_
    refine AWP.rounds (fun k => k ≤ m.length ∧ okLFrom 0 (m.take k) = true) (fun k => [(3, .int .i64 (lastL 0 (m.take k))), (14, .sl (m.map aLn)), (15, .int .i64 ((m.map aLn).length : Int)), (16, .int .i64 (k : Int))]) (fun k => []) (fun k => m.length - k) 0 0 ⟨by omega, rfl⟩ (by repeat (first | exact .nil | refine .cons rfl ?_)) rfl (fun _ => rfl) (fun _ => (by simp [AO.conts, AV.cells, aIt, aLn])) (fun k hI => ?_)
    obtain ⟨hk, hok⟩ := hI
    refine AWP.seq ?_
    refine AWP.region (fun _ => ?_)
    refine ARun.cmp rfl rfl rfl rfl (Ev.plain rfl) (Ev.plain rfl) rfl optN ?_
    refine ⟨_, _, rfl, hG, ?_⟩
    refine thenA_n ?_
    refine AWP.seq ?_
    refine AWP.cond rfl (fun h1 => ?_) (fun h1 => ?_)
    · skip
      try simp [-List.getD_eq_getElem?_getD] at h1
      refine AWP.skip ?_
      refine thenA_n ?_
      refine AWP.seq ?_
      refine AWP.block ?_
      refine AWP.seq ?_
      refine AWP.region (fun _ => ?_)
      first | refine ARun.indexSl rfl rfl rfl rfl Tryz.underlying23 sz108 (Ev.plain rfl) (Ev.plain rfl) (fun _ => rfl) (fun hg => getMap _ _ _ (by (try simp at hg); omega)) rfl rfl optN ?_ | refine ARun.indexSl rfl rfl rfl rfl Tryz.underlying23 sz108 (Ev.plain rfl) (Ev.plain rfl) (fun hg => ofNonneg (by (try simp at hg); omega)) (fun hg => getMap _ _ _ (by (try simp at hg); omega)) rfl rfl optN ?_
      refine ARun.loadPeA rfl rfl rfl rfl Tryz.underlying108 rfl sz108 (Ev.plain rfl) rfl optN ?_
      refine ARun.alloc (j := 0) hG rfl rfl rfl rfl rfl zv108 rfl optN ?_
      refine ARun.storeL hG rfl rfl rfl sz108 (Ev.plain rfl) (Ev.plain rfl) rfl rfl rfl rfl rfl (Nat.le_of_ble_eq_true rfl) rfl rfl ?_
      refine ⟨_, _, rfl, hG, ?_⟩
      refine thenA_n ?_
      refine AWP.seq ?_
      refine AWP.seq ?_
      refine AWP.region (fun _ => ?_)
      refine ARun.fieldBox (fo := 0) rfl rfl rfl rfl Tryz.underlying108 rfl rfl sz3 (by decide) (Ev.plain rfl) ((hG.at _ _).trans rfl) optN ?_
      refine ARun.loadBox rfl rfl rfl rfl Tryz.underlying3 rfl (Ev.plain rfl) ((hG.at _ _).trans rfl) rfl optN ?_
      refine ARun.move (.inl rfl) rfl rfl rfl (Ev.plain rfl) optN ?_
      refine ARun.cmp rfl rfl rfl rfl (Ev.plain rfl) (Ev.plain rfl) rfl optN ?_
      refine ARun.move (.inl rfl) rfl rfl rfl (Ev.plain rfl) optN ?_
      refine ARun.fieldBox (fo := 0) rfl rfl rfl rfl Tryz.underlying108 rfl rfl sz3 (by decide) (Ev.plain rfl) ((hG.at _ _).trans rfl) optS ?_
      refine ARun.loadBox rfl rfl rfl rfl Tryz.underlying3 rfl (Ev.opt rfl (fun h => h)) ((hG.at _ _).trans rfl) rfl optS ?_
      refine ARun.cmp rfl rfl rfl rfl (Ev.opt rfl (fun h => h)) (Ev.plain rfl) rfl optS ?_
      refine ARun.pick rfl rfl rfl rfl (Ev.plain rfl) (Ev.plain rfl) (Ev.opt rfl (by first | exact pkF | exact pkF2 | simp +contextual)) (orB _ _) optN ?_
      refine ARun.move (.inl rfl) rfl rfl rfl (Ev.plain rfl) optN ?_
      refine ARun.fieldBox (fo := 1) rfl rfl rfl rfl Tryz.underlying108 rfl rfl sz3 (by decide) (Ev.plain rfl) ((hG.at _ _).trans rfl) optS ?_
      refine ARun.loadBox rfl rfl rfl rfl Tryz.underlying3 rfl (Ev.opt rfl (fun h => h)) ((hG.at _ _).trans rfl) rfl optS ?_
      refine ARun.cmp rfl rfl rfl rfl (Ev.opt rfl (fun h => h)) (Ev.plain rfl) rfl optS ?_
      refine ARun.pick rfl rfl rfl rfl (Ev.plain rfl) (Ev.plain rfl) (Ev.opt rfl (by first | exact pkF | exact pkF2 | simp +contextual)) (orB _ _) optN ?_
      refine ARun.move (.inl rfl) rfl rfl rfl (Ev.plain rfl) optN ?_
      refine ARun.fieldBox (fo := 1) rfl rfl rfl rfl Tryz.underlying108 rfl rfl sz3 (by decide) (Ev.plain rfl) ((hG.at _ _).trans rfl) optS ?_
      refine ARun.loadBox rfl rfl rfl rfl Tryz.underlying3 rfl (Ev.opt rfl (fun h => h)) ((hG.at _ _).trans rfl) rfl optS ?_
      refine ARun.cmp rfl rfl rfl rfl (Ev.opt rfl (fun h => h)) (Ev.plain rfl) rfl optS ?_
      refine ARun.pick rfl rfl rfl rfl (Ev.plain rfl) (Ev.plain rfl) (Ev.opt rfl (by first | exact pkF | exact pkF2 | simp +contextual)) (orB _ _) optN ?_
      refine ⟨_, _, rfl, hG, ?_⟩
      refine thenA_n ?_
      refine AWP.cond rfl (fun h2 => ?_) (fun h2 => ?_)
      · skip
        simp [-List.getD_eq_getElem?_getD] at h2
        have hst := stepL m k (by omega)
        have hln := lastL_ge (m.take k) 0 hok
        rw [decide_eq_false (by omega), Bool.and_false] at hst
        refine AWP.seq ?_
        refine AWP.region (fun _ => ?_)
        refine ARun.move (.inr rfl) rfl rfl rfl (Ev.plain rfl) optN ?_
        refine ⟨_, _, rfl, hG, ?_⟩
        refine thenA_n ?_
        refine AWP.ret ?_
        refine thenA_r ?_
        refine blockA_r ?_
        refine thenA_r ?_
        refine thenA_r ?_
        refine blockA_r ?_
        refine thenA_r ?_
        refine endF.one (.inr rfl) rfl (.tmp rfl) ?_ hN
        rw [okLE_bad hst]; rfl
      · skip
        simp [-List.getD_eq_getElem?_getD] at h2
        have hst := stepL m k (by omega)
        rw [decide_eq_true (by omega), hok, Bool.true_and] at hst
        refine AWP.skip ?_
        refine thenA_n ?_
        refine AWP.region (fun _ => ?_)
        refine ARun.fieldBox (fo := 0) rfl rfl rfl rfl Tryz.underlying108 rfl rfl sz3 (by decide) (Ev.plain rfl) ((hG.at _ _).trans rfl) optN ?_
        refine ARun.loadBox rfl rfl rfl rfl Tryz.underlying3 rfl (Ev.plain rfl) ((hG.at _ _).trans rfl) rfl optN ?_
        refine ARun.move (.inr rfl) rfl rfl rfl (Ev.plain rfl) optN ?_
        refine ⟨_, _, rfl, hG, ?_⟩
        refine blockA_n ?_
        refine thenA_n ?_
        refine AWP.region (fun _ => ?_)
        first | refine ARun.arith rfl rfl rfl rfl (Ev.plain rfl) (Ev.plain rfl) rfl (fun hg => i64w (by (try simp at hg); omega)) optN ?_ | refine ARun.arith rfl rfl rfl rfl (Ev.plain rfl) (Ev.plain rfl) rfl (fun _ => rfl) optN ?_
        refine ARun.move (.inl rfl) rfl rfl rfl (Ev.plain rfl) optN ?_
        refine ⟨_, _, rfl, hG, ?_⟩
        refine thenA_n ⟨rfl, k + 1, _, ?_, ?_, rfl, ?_⟩
        · exact ⟨by omega, hst⟩
        · rw [lastL_at m k (by omega)]
          repeat (first | exact .nil | refine .cons rfl ?_)
        · omega
    · skip
      simp at h1
      obtain rfl : k = m.length := by omega
      refine AWP.exit ?_
      refine thenA_x ?_
      refine thenA_x ?_
      refine blockA_h ?_
      refine thenA_n ?_
      refine AWP.seq ?_
      refine AWP.region (fun _ => ?_)
      refine ARun.move (.inr rfl) rfl rfl rfl (Ev.plain rfl) optN ?_
      refine ⟨_, _, rfl, hG, ?_⟩
      refine thenA_n ?_
      refine AWP.ret ?_
      refine endF.one (.inr rfl) rfl (.tmp rfl) ?_ hN
      rw [okLE_good (by omega) hok]; rfl
set_option maxHeartbeats 1000000 in
theorem mayB_fn (l : List It) (m : List Ln) : FnP Tryz.prog 155 [.sl (l.map aIt), .sl (m.map aLn)] (.bool (ok l && okL m)) := by
  refine FnP.of Tryz.func155 rfl rfl (by simp) (by simp [AV.cells, aIt, aLn]) (fun G hG => ?_)
  have hN : NoH G.length (.bool (ok l && okL m)) := (by simp [AV.cells, aIt, aLn])
  refine AWP.seq ?_
  refine AWP.region (fun _ => ?_)
  refine ARun.move (.inr rfl) rfl rfl rfl (Ev.plain rfl) optN ?_
  refine ⟨_, _, rfl, hG, ?_⟩
  refine thenA_n ?_
  refine AWP.seq ?_
  refine AWP.region (fun _ => ?_)
  refine ARun.move (.inl rfl) rfl rfl rfl (Ev.plain rfl) optN ?_
  refine ARun.call rfl rfl rfl rfl cf26 (Ev.plain rfl) (.cons (Ev.plain rfl) .nil) rfl (fun hg => check_fn l) optN ?_
  refine ARun.cmp rfl rfl rfl rfl (Ev.plain rfl) (Ev.plain rfl) rfl optN ?_
  refine ARun.move (.inl rfl) rfl rfl rfl (Ev.plain rfl) optN ?_
  refine ARun.move (.inl rfl) rfl rfl rfl (Ev.plain rfl) optS ?_
  refine ARun.call rfl rfl rfl rfl cf137 (Ev.plain rfl) (.cons (Ev.opt rfl (fun h => h)) .nil) rfl (fun hg => checkL_fn m) optS ?_
  refine ARun.cmp rfl rfl rfl rfl (Ev.opt rfl (fun h => h)) (Ev.plain rfl) rfl optS ?_
  refine ARun.pick rfl rfl rfl rfl (Ev.plain rfl) (Ev.opt rfl (by first | exact pkT | exact pkT2 | simp +contextual)) (Ev.plain rfl) (andB _ _) optN ?_
  refine ARun.move (.inr rfl) rfl rfl rfl (Ev.plain rfl) optN ?_
  refine ⟨_, _, rfl, hG, ?_⟩
  refine thenA_n ?_
  refine AWP.ret ?_
  refine endF.one (.inr rfl) rfl (.tmp rfl) ?_ hN
  simp [okE_ok, okLE_ok]
def stp (l : List It) (x : Ln) : List It := if (holdF l x.item x.qty).2 = 0 then (holdF l x.item x.qty).1 else l
set_option maxHeartbeats 1000000 in
theorem doing_fn (l : List It) : FnNewB Tryz.prog 156 [.sl (l.map aIt), .fn (.func 111) [] []] (fun i => .fn (.func 163) [] [.pe [.fn (.func 111) [] []], .box i 0]) [.sl (l.map aIt)] := by
  refine FnNewB.of Tryz.func156 rfl rfl (by simp) (fun G hG => ?_)
  refine AWP.seq ?_
  refine AWP.region (fun _ => ?_)
  refine ARun.box1 (j := 0) hG rfl rfl rfl rfl rfl (Ev.plain rfl) (by first | rfl | exact aEr_one _ | exact aFl_one _) optN ?_
  refine ARun.boxPe1 rfl rfl rfl rfl (Ev.plain rfl) (by first | rfl | exact aEr_one _ | exact aFl_one _) optN ?_
  refine ARun.move (.inr rfl) rfl rfl rfl (Ev.plain rfl) optN ?_
  refine ⟨_, _, rfl, hG, ?_⟩
  refine thenA_n ?_
  refine AWP.seq ?_
  refine AWP.region (fun _ => ?_)
  refine ARun.makeFunc rfl rfl rfl rfl .nil (.cons (Ev.plain rfl) (.cons (Ev.plain rfl) .nil)) optN ?_
  refine ARun.move (.inr rfl) rfl rfl rfl (Ev.plain rfl) optN ?_
  refine ⟨_, _, rfl, hG, ?_⟩
  refine thenA_n ?_
  refine AWP.ret ?_
  refine endN.one (.inr rfl) rfl (.tmp rfl) ?_ (by simp [AV.cells, aIt]) (by simp [AV.cells, aIt])
  rfl
set_option maxHeartbeats 1000000 in
theorem step_fn (l : List It) (x : Ln) (hl : l.length ≤ 1000) : FnM Tryz.prog 163 (fun i => [aLn x, .pe [.fn (.func 111) [] []], .box i 0]) [.sl (l.map aIt)] (.tup [.sl ((holdF l x.item x.qty).1.map aIt), .int .i64 (holdF l x.item x.qty).2]) [.sl ((stp l x).map aIt)] := by
  refine FnM.of Tryz.func163 rfl rfl (fun i => by simp) (fun H i m hHm hi hG => ?_)
  have hN : NoH H.length (.tup [.sl ((holdF l x.item x.qty).1.map aIt), .int .i64 (holdF l x.item x.qty).2]) := (by simp [AV.cells, aIt])
  refine AWP.seq ?_
  refine AWP.region (fun _ => ?_)
  refine ARun.boxPe rfl rfl rfl rfl (Ev.plain rfl) rfl rfl optN ?_
  refine ARun.move (.inr rfl) rfl rfl rfl (Ev.plain rfl) optN ?_
  refine ARun.move (.inr rfl) rfl rfl rfl (Ev.plain rfl) optN ?_
  refine ⟨_, _, rfl, hG, ?_⟩
  refine thenA_n ?_
  refine AWP.seq ?_
  refine AWP.region (fun _ => ?_)
  first | refine ARun.loadPe rfl rfl rfl rfl Tryz.underlying165 rfl (Ev.plain rfl) rfl optN ?_ | refine ARun.loadBox rfl rfl rfl rfl Tryz.underlying165 rfl (Ev.plain rfl) ((hG.at _ _).trans rfl) rfl optN ?_
  refine ARun.loadBox rfl rfl rfl rfl Tryz.underlying22 rfl (Ev.plain rfl) (atO hi) rfl optN ?_
  refine ARun.fieldPe rfl rfl rfl rfl Tryz.underlying108 rfl rfl sz3 (by decide) (Ev.plain rfl) rfl optN ?_
  refine ARun.loadPe rfl rfl rfl rfl Tryz.underlying3 rfl (Ev.plain rfl) rfl optN ?_
  refine ARun.fieldPe rfl rfl rfl rfl Tryz.underlying108 rfl rfl sz3 (by decide) (Ev.plain rfl) rfl optN ?_
  refine ARun.loadPe rfl rfl rfl rfl Tryz.underlying3 rfl (Ev.plain rfl) rfl optN ?_
  refine ARun.call rfl rfl rfl rfl cf111 (Ev.plain rfl) (.cons (Ev.plain rfl) (.cons (Ev.plain rfl) (.cons (Ev.plain rfl) .nil))) rfl (fun hg => reserve_fn l x.item x.qty hl) optN ?_
  refine ARun.move (.inl rfl) rfl rfl rfl (Ev.plain rfl) optN ?_
  refine ARun.extract rfl rfl rfl rfl (Ev.plain rfl) rfl optN ?_
  refine ARun.extract rfl rfl rfl rfl (Ev.plain rfl) rfl optN ?_
  refine ARun.move (.inr rfl) rfl rfl rfl (Ev.plain rfl) optN ?_
  refine ARun.move (.inr rfl) rfl rfl rfl (Ev.plain rfl) optN ?_
  refine ⟨_, _, rfl, hG, ?_⟩
  refine thenA_n ?_
  refine AWP.seq ?_
  refine AWP.seq ?_
  refine AWP.region (fun _ => ?_)
  refine ARun.move (.inl rfl) rfl rfl rfl (Ev.plain rfl) optN ?_
  refine ARun.cmp rfl rfl rfl rfl (Ev.plain rfl) (Ev.plain rfl) rfl optN ?_
  refine ⟨_, _, rfl, hG, ?_⟩
  refine thenA_n ?_
  refine AWP.cond rfl (fun h0 => ?_) (fun h0 => ?_)
  · skip
    try simp [-List.getD_eq_getElem?_getD] at h0
    refine AWP.region (fun _ => ?_)
    refine ARun.move (.inl rfl) rfl rfl rfl (Ev.plain rfl) optN ?_
    refine ARun.storeO1 hi hG rfl rfl rfl sz22 (Ev.plain rfl) (Ev.plain rfl) (by first | rfl | exact aEr_one _ | exact aFl_one _) (Nat.le_of_ble_eq_true rfl) rfl (by simp [AV.cells, aIt]) (fun hG => ?_)
    refine ⟨_, _, rfl, hG, ?_⟩
    refine thenA_n ?_
    refine AWP.seq ?_
    refine AWP.region (fun _ => ?_)
    refine ARun.move (.inl rfl) rfl rfl rfl (Ev.plain rfl) optN ?_
    refine ARun.move (.inl rfl) rfl rfl rfl (Ev.plain rfl) optN ?_
    refine ARun.move (.inr rfl) rfl rfl rfl (Ev.plain rfl) optN ?_
    refine ARun.move (.inr rfl) rfl rfl rfl (Ev.plain rfl) optN ?_
    refine ⟨_, _, rfl, hG, ?_⟩
    refine thenA_n ?_
    refine AWP.ret ?_
    refine endF.toG (congrArg (fun c => H.set i (AO.box c)) (by rw [stp, if_pos h0]; rfl)) ?_
    refine endF.many (.inr rfl) (rs := [.tmp 4, .tmp 5]) rfl (.cons (.tmp rfl) (.cons (.tmp rfl) .nil)) (by simp) ?_ (by rw [List.length_set]; exact hN)
    rfl
  · skip
    try simp [-List.getD_eq_getElem?_getD] at h0
    refine AWP.skip ?_
    refine thenA_n ?_
    refine AWP.seq ?_
    refine AWP.region (fun _ => ?_)
    refine ARun.move (.inl rfl) rfl rfl rfl (Ev.plain rfl) optN ?_
    refine ARun.move (.inl rfl) rfl rfl rfl (Ev.plain rfl) optN ?_
    refine ARun.move (.inr rfl) rfl rfl rfl (Ev.plain rfl) optN ?_
    refine ARun.move (.inr rfl) rfl rfl rfl (Ev.plain rfl) optN ?_
    refine ⟨_, _, rfl, hG, ?_⟩
    refine thenA_n ?_
    refine AWP.ret ?_
    refine endF.toG (congrArg (fun c => H.set i (AO.box c)) (by rw [stp, if_neg h0])) ?_
    refine endF.many (.inr rfl) (rs := [.tmp 4, .tmp 5]) rfl (.cons (.tmp rfl) (.cons (.tmp rfl) .nil)) (by simp) ?_ (by rw [List.length_set]; exact hN)
    rfl
set_option maxHeartbeats 1000000 in
theorem all_fn (l : List It) (m : List Ln) (hl : l.length ≤ 1000) : FnP Tryz.prog 136 [.sl (l.map aIt), .sl (m.map aLn), .fn (.func 111) [] []] (.tup [.sl ((allP holdF l m).1.map aIt), .int .i64 (allP holdF l m).2.1, .int .i64 (allP holdF l m).2.2]) := by
  refine FnP.of Tryz.func136 rfl rfl (by simp) (by simp [AV.cells, aIt, aLn]) (fun G hG => ?_)
  have hN : NoH G.length (.tup [.sl ((allP holdF l m).1.map aIt), .int .i64 (allP holdF l m).2.1, .int .i64 (allP holdF l m).2.2]) := (by simp [AV.cells, aIt, aLn])
  refine AWP.seq ?_
  refine AWP.region (fun _ => ?_)
  refine ARun.move (.inr rfl) rfl rfl rfl (Ev.plain rfl) optN ?_
  refine ARun.move (.inr rfl) rfl rfl rfl (Ev.plain rfl) optN ?_
  refine ARun.move (.inr rfl) rfl rfl rfl (Ev.plain rfl) optN ?_
  refine ⟨_, _, rfl, hG, ?_⟩
  refine thenA_n ?_
  refine AWP.seq ?_
  refine AWP.seq ?_
  refine AWP.region (fun _ => ?_)
  refine ARun.move (.inl rfl) rfl rfl rfl (Ev.plain rfl) optN ?_
  refine ARun.move (.inl rfl) rfl rfl rfl (Ev.plain rfl) optN ?_
  refine ARun.call rfl rfl rfl rfl cf155 (Ev.plain rfl) (.cons (Ev.plain rfl) (.cons (Ev.plain rfl) .nil)) rfl (fun hg => mayB_fn l m) optN ?_
  refine ARun.not rfl rfl rfl rfl (Ev.plain rfl) optN ?_
  refine ⟨_, _, rfl, hG, ?_⟩
  refine thenA_n ?_
  refine AWP.cond rfl (fun h0 => ?_) (fun h0 => ?_)
  · skip
    simp at h0
    refine AWP.seq ?_
    refine AWP.region (fun _ => ?_)
    refine ARun.move (.inr rfl) rfl rfl rfl (Ev.plain rfl) optN ?_
    refine ARun.move (.inr rfl) rfl rfl rfl (Ev.plain rfl) optN ?_
    refine ARun.move (.inr rfl) rfl rfl rfl (Ev.plain rfl) optN ?_
    refine ⟨_, _, rfl, hG, ?_⟩
    refine thenA_n ?_
    refine AWP.ret ?_
    refine thenA_r ?_
    refine endF.many (.inr rfl) (rs := [.tmp 6, .tmp 7, .tmp 8]) rfl (.cons (.tmp rfl) (.cons (.tmp rfl) (.cons (.tmp rfl) .nil))) (by simp) ?_ hN
    rw [allP_no (by rintro ⟨a, b⟩; rw [a, b] at h0; simp at h0)]; rfl
  · skip
    simp at h0
    have hml := okL_len h0.2
    have hdef := allP_yes (fn := holdF) h0
    refine AWP.skip ?_
    refine thenA_n ?_
    refine AWP.seq ?_
    refine AWP.region (fun _ => ?_)
    refine ARun.move (.inl rfl) rfl rfl rfl (Ev.plain rfl) optN ?_
    refine ARun.move (.inl rfl) rfl rfl rfl (Ev.plain rfl) optN ?_
    refine ARun.callNewB (j := 0) hG rfl rfl rfl rfl rfl cf156 (Ev.plain rfl) (.cons (Ev.plain rfl) (.cons (Ev.plain rfl) .nil)) rfl (doing_fn l) optN ?_
    refine ARun.move (.inr rfl) rfl rfl rfl (Ev.plain rfl) optN ?_
    refine ⟨_, _, rfl, hG, ?_⟩
    refine thenA_n ?_
    refine AWP.seq ?_
    refine AWP.seq ?_
    refine AWP.region (fun _ => ?_)
    refine ARun.move (.inl rfl) rfl rfl rfl (Ev.plain rfl) optN ?_
    refine ARun.lenSl rfl rfl rfl rfl Tryz.underlying23 (Ev.plain rfl) optN ?_
    refine ARun.move (.inl rfl) rfl rfl rfl (Ev.plain rfl) optN ?_
    refine ⟨_, _, rfl, hG, ?_⟩
    refine thenA_n ?_
    refine AWP.block ?_
    refine AWP.rounds (fun s => s.1 ≤ m.length ∧ s.2.length ≤ 1000 ∧ goesP holdF 0 l m = goesP holdF s.1 s.2 (m.drop s.1)) (fun s => [(1, .sl (m.map aLn)), (6, .sl ((if s.1 = 0 then [] else s.2).map aIt)), (9, .fn (.func 163) [] [.pe [.fn (.func 111) [] []], .box (G.length + 0) 0]), (21, .sl (m.map aLn)), (22, .int .i64 ((m.map aLn).length : Int)), (23, .int .i64 (s.1 : Int))]) (fun s => [.box [.sl (s.2.map aIt)]]) (fun s => m.length - s.1) 1 ((0, l) : Nat × List It) ⟨by omega, hl, rfl⟩ (by repeat (first | exact .nil | refine .cons rfl ?_)) rfl (fun _ => rfl) (fun _ => ⟨by simp [AV.cells, aIt, aLn]; intro x a _ _ e y hy; subst e; simp at hy; rcases hy with rfl | rfl | rfl | rfl <;> simp, by simp [AO.conts, AV.cells, aIt]⟩) (fun s hI => ?_)
    obtain ⟨k, cur⟩ := s
    dsimp only at hI
    show AWP _ _ _ _ _ [(1, .sl (m.map aLn)), (6, .sl ((if k = 0 then [] else cur).map aIt)), (9, .fn (.func 163) [] [.pe [.fn (.func 111) [] []], .box (G.length + 0) 0]), (21, .sl (m.map aLn)), (22, .int .i64 ((m.map aLn).length : Int)), (23, .int .i64 (k : Int))] _ [.box [.sl (cur.map aIt)]]
    obtain ⟨hk, hc, hg2⟩ := hI
    have hhl := hold_len cur (m.getD k default).item (m.getD k default).qty
    refine AWP.seq ?_
    refine AWP.region (fun _ => ?_)
    refine ARun.cmp rfl rfl rfl rfl (Ev.plain rfl) (Ev.plain rfl) rfl optN ?_
    refine ⟨_, _, rfl, hG, ?_⟩
    refine thenA_n ?_
    refine AWP.seq ?_
    refine AWP.cond rfl (fun h1 => ?_) (fun h1 => ?_)
    · skip
      try simp [-List.getD_eq_getElem?_getD] at h1
      refine AWP.skip ?_
      refine thenA_n ?_
      refine AWP.seq ?_
      refine AWP.block ?_
      refine AWP.seq ?_
      refine AWP.region (fun _ => ?_)
      refine ARun.move (.inl rfl) rfl rfl rfl (Ev.plain rfl) optN ?_
      first | refine ARun.indexSl rfl rfl rfl rfl Tryz.underlying23 sz108 (Ev.plain rfl) (Ev.plain rfl) (fun _ => rfl) (fun hg => getMap _ _ _ (by (try simp at hg); omega)) rfl rfl optN ?_ | refine ARun.indexSl rfl rfl rfl rfl Tryz.underlying23 sz108 (Ev.plain rfl) (Ev.plain rfl) (fun hg => ofNonneg (by (try simp at hg); omega)) (fun hg => getMap _ _ _ (by (try simp at hg); omega)) rfl rfl optN ?_
      refine ARun.loadPeA rfl rfl rfl rfl Tryz.underlying108 rfl sz108 (Ev.plain rfl) rfl optN ?_
      refine ARun.alloc (j := 1) hG rfl rfl rfl rfl rfl zv108 rfl optN ?_
      refine ARun.move (.inr rfl) rfl rfl rfl (Ev.plain rfl) optN ?_
      refine ARun.storeL hG rfl rfl rfl sz108 (Ev.plain rfl) (Ev.plain rfl) rfl rfl rfl rfl rfl (Nat.le_of_ble_eq_true rfl) rfl rfl ?_
      refine ⟨_, _, rfl, hG, ?_⟩
      refine thenA_n ?_
      refine AWP.seq ?_
      refine AWP.region (fun _ => ?_)
      refine ARun.move (.inl rfl) rfl rfl rfl (Ev.plain rfl) optN ?_
      refine ARun.loadBoxA rfl rfl rfl rfl Tryz.underlying108 rfl sz108 (Ev.plain rfl) ((hG.at _ _).trans rfl) rfl rfl optN ?_
      refine ARun.callSet (j := 0) hG rfl rfl rfl rfl cf163 (Ev.plain rfl) (.cons (Ev.plain rfl) .nil) rfl (step_fn cur (m.getD k default) hc _ _ ((hG.at _ _).trans rfl)) rfl optN ?_
      refine ARun.move (.inl rfl) rfl rfl rfl (Ev.plain rfl) optN ?_
      refine ARun.extract rfl rfl rfl rfl (Ev.plain rfl) rfl optN ?_
      refine ARun.extract rfl rfl rfl rfl (Ev.plain rfl) rfl optN ?_
      refine ARun.move (.inr rfl) rfl rfl rfl (Ev.plain rfl) optN ?_
      refine ARun.move (.inr rfl) rfl rfl rfl (Ev.plain rfl) optN ?_
      refine ⟨_, _, rfl, hG, ?_⟩
      refine thenA_n ?_
      refine AWP.seq ?_
      refine AWP.seq ?_
      refine AWP.region (fun _ => ?_)
      refine ARun.move (.inl rfl) rfl rfl rfl (Ev.plain rfl) optN ?_
      refine ARun.cmp rfl rfl rfl rfl (Ev.plain rfl) (Ev.plain rfl) rfl optN ?_
      refine ⟨_, _, rfl, hG, ?_⟩
      refine thenA_n ?_
      refine AWP.cond rfl (fun h2 => ?_) (fun h2 => ?_)
      · skip
        simp [-List.getD_eq_getElem?_getD] at h2
        rw [goes_step (by omega), if_pos h2] at hg2
        refine AWP.seq ?_
        refine AWP.region (fun _ => ?_)
        refine ARun.move (.inl rfl) rfl rfl rfl (Ev.plain rfl) optN ?_
        refine ARun.move (.inl rfl) rfl rfl rfl (Ev.plain rfl) optN ?_
        refine ARun.move (.inr rfl) rfl rfl rfl (Ev.plain rfl) optN ?_
        refine ARun.move (.inr rfl) rfl rfl rfl (Ev.plain rfl) optN ?_
        refine ARun.move (.inr rfl) rfl rfl rfl (Ev.plain rfl) optN ?_
        refine ⟨_, _, rfl, hG, ?_⟩
        refine thenA_n ?_
        refine AWP.ret ?_
        refine thenA_r ?_
        refine blockA_r ?_
        refine thenA_r ?_
        refine thenA_r ?_
        refine blockA_r ?_
        refine thenA_r ?_
        refine endF.many (.inr rfl) (rs := [.tmp 6, .tmp 7, .tmp 8]) rfl (.cons (.tmp rfl) (.cons (.tmp rfl) (.cons (.tmp rfl) .nil))) (by simp) ?_ hN
        rw [hdef, hg2]; rfl
      · skip
        simp [-List.getD_eq_getElem?_getD] at h2
        rw [goes_step (by omega), if_neg (by rw [h2]; simp)] at hg2
        have hst : stp cur (m.getD k default) = (holdF cur (m.getD k default).item (m.getD k default).qty).1 := by rw [stp, if_pos h2]
        rw [hst]
        refine AWP.skip ?_
        refine thenA_n ?_
        refine AWP.region (fun _ => ?_)
        refine ARun.move (.inl rfl) rfl rfl rfl (Ev.plain rfl) optN ?_
        refine ARun.move (.inr rfl) rfl rfl rfl (Ev.plain rfl) optN ?_
        refine ⟨_, _, rfl, hG, ?_⟩
        refine blockA_n ?_
        refine thenA_n ?_
        refine AWP.region (fun _ => ?_)
        first | refine ARun.arith rfl rfl rfl rfl (Ev.plain rfl) (Ev.plain rfl) rfl (fun hg => i64w (by (try simp at hg); omega)) optN ?_ | refine ARun.arith rfl rfl rfl rfl (Ev.plain rfl) (Ev.plain rfl) rfl (fun _ => rfl) optN ?_
        refine ARun.move (.inl rfl) rfl rfl rfl (Ev.plain rfl) optN ?_
        refine ⟨_, _, rfl, hG, ?_⟩
        refine thenA_n ⟨rfl, (k + 1, (holdF cur (m.getD k default).item (m.getD k default).qty).1), _, ?_, ?_, rfl, ?_⟩
        · exact ⟨by dsimp only; omega, by dsimp only; omega, hg2⟩
        · repeat (first | exact .nil | refine .cons rfl ?_)
        · dsimp only; omega
    · skip
      simp at h1
      obtain rfl : k = m.length := by omega
      rw [goes_end] at hg2
      have hk0 : ¬ m.length = 0 := by omega
      refine AWP.exit ?_
      refine thenA_x ?_
      refine thenA_x ?_
      refine blockA_h ?_
      refine thenA_n ?_
      refine AWP.seq ?_
      refine AWP.region (fun _ => ?_)
      refine ARun.move (.inl rfl) rfl rfl rfl (Ev.plain rfl) optN ?_
      refine ARun.move (.inl rfl) rfl rfl rfl (Ev.plain rfl) optN ?_
      refine ARun.lenSl rfl rfl rfl rfl Tryz.underlying23 (Ev.plain rfl) optN ?_
      refine ARun.move (.inr rfl) rfl rfl rfl (Ev.plain rfl) optN ?_
      refine ARun.move (.inr rfl) rfl rfl rfl (Ev.plain rfl) optN ?_
      refine ARun.move (.inr rfl) rfl rfl rfl (Ev.plain rfl) optN ?_
      refine ⟨_, _, rfl, hG, ?_⟩
      refine thenA_n ?_
      refine AWP.ret ?_
      refine endF.many (.inr rfl) (rs := [.tmp 6, .tmp 7, .tmp 8]) rfl (.cons (.tmp rfl) (.cons (.tmp rfl) (.cons (.tmp rfl) .nil))) (by simp) ?_ hN
      rw [hdef, hg2, if_neg hk0, List.length_map]; rfl
set_option maxHeartbeats 1000000 in
theorem holdB_fn (l : List It) (m : List Ln) (hl : l.length ≤ 1000) : FnP Tryz.prog 107 [.sl (l.map aIt), .sl (m.map aLn)] (.tup [.sl ((allP holdF l m).1.map aIt), .int .i64 (allP holdF l m).2.1, .int .i64 (allP holdF l m).2.2]) := by
  refine FnP.of Tryz.func107 rfl rfl (by simp) (by simp [AV.cells, aIt, aLn]) (fun G hG => ?_)
  have hN : NoH G.length (.tup [.sl ((allP holdF l m).1.map aIt), .int .i64 (allP holdF l m).2.1, .int .i64 (allP holdF l m).2.2]) := (by simp [AV.cells, aIt, aLn])
  refine AWP.seq ?_
  refine AWP.region (fun _ => ?_)
  refine ARun.move (.inr rfl) rfl rfl rfl (Ev.plain rfl) optN ?_
  refine ARun.move (.inr rfl) rfl rfl rfl (Ev.plain rfl) optN ?_
  refine ARun.move (.inr rfl) rfl rfl rfl (Ev.plain rfl) optN ?_
  refine ⟨_, _, rfl, hG, ?_⟩
  refine thenA_n ?_
  refine AWP.seq ?_
  refine AWP.region (fun _ => ?_)
  refine ARun.move (.inl rfl) rfl rfl rfl (Ev.plain rfl) optN ?_
  refine ARun.move (.inl rfl) rfl rfl rfl (Ev.plain rfl) optN ?_
  refine ARun.call rfl rfl rfl rfl cf136 (Ev.plain rfl) (.cons (Ev.plain rfl) (.cons (Ev.plain rfl) (.cons (Ev.plain rfl) .nil))) rfl (fun hg => all_fn l m hl) optN ?_
  refine ARun.extract rfl rfl rfl rfl (Ev.plain rfl) rfl optN ?_
  refine ARun.extract rfl rfl rfl rfl (Ev.plain rfl) rfl optN ?_
  refine ARun.extract rfl rfl rfl rfl (Ev.plain rfl) rfl optN ?_
  refine ARun.move (.inr rfl) rfl rfl rfl (Ev.plain rfl) optN ?_
  refine ARun.move (.inr rfl) rfl rfl rfl (Ev.plain rfl) optN ?_
  refine ARun.move (.inr rfl) rfl rfl rfl (Ev.plain rfl) optN ?_
  refine ⟨_, _, rfl, hG, ?_⟩
  refine thenA_n ?_
  refine AWP.ret ?_
  refine endF.many (.inr rfl) (rs := [.tmp 4, .tmp 5, .tmp 6]) rfl (.cons (.tmp rfl) (.cons (.tmp rfl) (.cons (.tmp rfl) .nil))) (by simp) ?_ hN
  rfl
set_option maxHeartbeats 1000000 in
theorem total_fn (m : List Ln) (hm : m.length ≤ 1000) : FnP Tryz.prog 108 [.sl (m.map aLn)] (.int .i64 (totalP m)) := by
  refine FnP.of Tryz.func108 rfl rfl (by simp) (by simp [AV.cells, aIt, aLn]) (fun G hG => ?_)
  have hN : NoH G.length (.int .i64 (totalP m)) := (by simp [AV.cells, aIt, aLn])
  refine AWP.seq ?_
  refine AWP.region (fun _ => ?_)
  refine ARun.move (.inr rfl) rfl rfl rfl (Ev.plain rfl) optN ?_
  refine ⟨_, _, rfl, hG, ?_⟩
  refine thenA_n ?_
  refine AWP.seq ?_
  refine AWP.region (fun _ => ?_)
  refine ARun.move (.inr rfl) rfl rfl rfl (Ev.plain rfl) optN ?_
  refine ⟨_, _, rfl, hG, ?_⟩
  refine thenA_n ?_
  refine AWP.seq ?_
  refine AWP.seq ?_
  refine AWP.region (fun _ => ?_)
  refine ARun.move (.inl rfl) rfl rfl rfl (Ev.plain rfl) optN ?_
  refine ARun.lenSl rfl rfl rfl rfl Tryz.underlying23 (Ev.plain rfl) optN ?_
  refine ARun.move (.inl rfl) rfl rfl rfl (Ev.plain rfl) optN ?_
  refine ⟨_, _, rfl, hG, ?_⟩
  refine thenA_n ?_
  refine AWP.block ?_
  refine AWP.rounds (fun k => k ≤ m.length) (fun k => [(0, .sl (m.map aLn)), (3, .int .i64 (if okL m = true then sumF (m.take k) else 0)), (6, .sl (m.map aLn)), (7, .int .i64 ((m.map aLn).length : Int)), (8, .int .i64 (k : Int))]) (fun k => []) (fun k => m.length - k) 0 0 (Nat.zero_le _) (by rw [show (if okL m = true then sumF (m.take 0) else 0) = 0 from by split <;> rfl]; repeat (first | exact .nil | refine .cons rfl ?_)) rfl (fun _ => rfl) (fun _ => (by simp [AO.conts, AV.cells, aIt, aLn])) (fun k hI => ?_)
  refine AWP.seq ?_
  refine AWP.region (fun _ => ?_)
  refine ARun.cmp rfl rfl rfl rfl (Ev.plain rfl) (Ev.plain rfl) rfl optN ?_
  refine ⟨_, _, rfl, hG, ?_⟩
  refine thenA_n ?_
  refine AWP.seq ?_
  refine AWP.cond rfl (fun h0 => ?_) (fun h0 => ?_)
  · skip
    try simp [-List.getD_eq_getElem?_getD] at h0
    refine AWP.skip ?_
    refine thenA_n ?_
    refine AWP.seq ?_
    refine AWP.block ?_
    refine AWP.seq ?_
    refine AWP.region (fun _ => ?_)
    first | refine ARun.indexSl rfl rfl rfl rfl Tryz.underlying23 sz108 (Ev.plain rfl) (Ev.plain rfl) (fun _ => rfl) (fun hg => getMap _ _ _ (by (try simp at hg); omega)) rfl rfl optN ?_ | refine ARun.indexSl rfl rfl rfl rfl Tryz.underlying23 sz108 (Ev.plain rfl) (Ev.plain rfl) (fun hg => ofNonneg (by (try simp at hg); omega)) (fun hg => getMap _ _ _ (by (try simp at hg); omega)) rfl rfl optN ?_
    refine ARun.loadPeA rfl rfl rfl rfl Tryz.underlying108 rfl sz108 (Ev.plain rfl) rfl optN ?_
    refine ARun.alloc (j := 0) hG rfl rfl rfl rfl rfl zv108 rfl optN ?_
    refine ARun.storeL hG rfl rfl rfl sz108 (Ev.plain rfl) (Ev.plain rfl) rfl rfl rfl rfl rfl (Nat.le_of_ble_eq_true rfl) rfl rfl ?_
    refine ⟨_, _, rfl, hG, ?_⟩
    refine thenA_n ?_
    refine AWP.seq ?_
    refine AWP.region (fun _ => ?_)
    refine ARun.move (.inl rfl) rfl rfl rfl (Ev.plain rfl) optN ?_
    refine ARun.call rfl rfl rfl rfl cf137 (Ev.plain rfl) (.cons (Ev.plain rfl) .nil) rfl (fun hg => checkL_fn m) optN ?_
    refine ARun.cmp rfl rfl rfl rfl (Ev.plain rfl) (Ev.plain rfl) rfl optN ?_
    refine ⟨_, _, rfl, hG, ?_⟩
    refine thenA_n ?_
    refine AWP.cond rfl (fun h1 => ?_) (fun h1 => ?_)
    · skip
      simp [okLE_ok] at h1
      have hb := sumF_bd h1 k (by omega)
      have hq := okL_at h1 (k := k) (by omega)
      have hml := okL_len h1
      have hif : (if okL m = true then sumF (m.take k) else 0) = sumF (m.take k) := if_pos h1
      refine AWP.region (fun _ => ?_)
      refine ARun.move (.inl rfl) rfl rfl rfl (Ev.plain rfl) optN ?_
      refine ARun.fieldBox (fo := 1) rfl rfl rfl rfl Tryz.underlying108 rfl rfl sz3 (by decide) (Ev.plain rfl) ((hG.at _ _).trans rfl) optN ?_
      refine ARun.loadBox rfl rfl rfl rfl Tryz.underlying3 rfl (Ev.plain rfl) ((hG.at _ _).trans rfl) rfl optN ?_
      first | refine ARun.arith rfl rfl rfl rfl (Ev.plain rfl) (Ev.plain rfl) rfl (fun hg => i64w (by (try simp at hg); omega)) optN ?_ | refine ARun.arith rfl rfl rfl rfl (Ev.plain rfl) (Ev.plain rfl) rfl (fun _ => rfl) optN ?_
      refine ARun.move (.inr rfl) rfl rfl rfl (Ev.plain rfl) optN ?_
      refine ⟨_, _, rfl, hG, ?_⟩
      refine blockA_n ?_
      refine thenA_n ?_
      refine AWP.region (fun _ => ?_)
      first | refine ARun.arith rfl rfl rfl rfl (Ev.plain rfl) (Ev.plain rfl) rfl (fun hg => i64w (by (try simp at hg); omega)) optN ?_ | refine ARun.arith rfl rfl rfl rfl (Ev.plain rfl) (Ev.plain rfl) rfl (fun _ => rfl) optN ?_
      refine ARun.move (.inl rfl) rfl rfl rfl (Ev.plain rfl) optN ?_
      refine ⟨_, _, rfl, hG, ?_⟩
      refine thenA_n ⟨rfl, k + 1, _, ?_, ?_, rfl, ?_⟩
      · omega
      · rw [if_pos h1, if_pos h1, sumF_at m k (by omega)]
        repeat (first | exact .nil | refine .cons rfl ?_)
      · omega
    · skip
      simp [okLE_ok] at h1
      refine AWP.skip ?_
      refine blockA_n ?_
      refine thenA_n ?_
      refine AWP.region (fun _ => ?_)
      first | refine ARun.arith rfl rfl rfl rfl (Ev.plain rfl) (Ev.plain rfl) rfl (fun hg => i64w (by (try simp at hg); omega)) optN ?_ | refine ARun.arith rfl rfl rfl rfl (Ev.plain rfl) (Ev.plain rfl) rfl (fun _ => rfl) optN ?_
      refine ARun.move (.inl rfl) rfl rfl rfl (Ev.plain rfl) optN ?_
      refine ⟨_, _, rfl, hG, ?_⟩
      refine thenA_n ⟨rfl, k + 1, _, ?_, ?_, rfl, ?_⟩
      · omega
      · rw [if_neg (by simp [h1]), if_neg (by simp [h1])]
        repeat (first | exact .nil | refine .cons rfl ?_)
      · omega
  · skip
    simp at h0
    obtain rfl : k = m.length := by omega
    rw [List.take_length]
    refine AWP.exit ?_
    refine thenA_x ?_
    refine thenA_x ?_
    refine blockA_h ?_
    refine thenA_n ?_
    refine AWP.seq ?_
    refine AWP.region (fun _ => ?_)
    refine ARun.move (.inl rfl) rfl rfl rfl (Ev.plain rfl) optN ?_
    refine ARun.move (.inr rfl) rfl rfl rfl (Ev.plain rfl) optN ?_
    refine ⟨_, _, rfl, hG, ?_⟩
    refine thenA_n ?_
    refine AWP.ret ?_
    refine endF.one (.inr rfl) rfl (.tmp rfl) ?_ hN
    rfl
set_option maxHeartbeats 1000000 in
theorem eq_fn (a b : List It) (hl : a.length ≤ 9223372036854775807) : FnP Tryz.prog 46 [.sl (a.map aIt), .sl (b.map aIt)] (.bool (decide (a = b))) := by
  refine FnP.of Tryz.func46 rfl rfl (by simp) (by simp [AV.cells, aIt, aLn]) (fun G hG => ?_)
  have hN : NoH G.length (.bool (decide (a = b))) := (by simp [AV.cells, aIt, aLn])
  refine AWP.seq ?_
  refine AWP.region (fun _ => ?_)
  refine ARun.move (.inr rfl) rfl rfl rfl (Ev.plain rfl) optN ?_
  refine ⟨_, _, rfl, hG, ?_⟩
  refine thenA_n ?_
  refine AWP.seq ?_
  refine AWP.seq ?_
  refine AWP.region (fun _ => ?_)
  refine ARun.move (.inl rfl) rfl rfl rfl (Ev.plain rfl) optN ?_
  refine ARun.lenSl rfl rfl rfl rfl Tryz.underlying22 (Ev.plain rfl) optN ?_
  refine ARun.move (.inl rfl) rfl rfl rfl (Ev.plain rfl) optN ?_
  refine ARun.lenSl rfl rfl rfl rfl Tryz.underlying22 (Ev.plain rfl) optN ?_
  refine ARun.cmp rfl rfl rfl rfl (Ev.plain rfl) (Ev.plain rfl) rfl optN ?_
  refine ⟨_, _, rfl, hG, ?_⟩
  refine thenA_n ?_
  refine AWP.cond rfl (fun h0 => ?_) (fun h0 => ?_)
  · skip
    simp [-List.getD_eq_getElem?_getD] at h0
    refine AWP.seq ?_
    refine AWP.region (fun _ => ?_)
    refine ARun.move (.inr rfl) rfl rfl rfl (Ev.plain rfl) optN ?_
    refine ⟨_, _, rfl, hG, ?_⟩
    refine thenA_n ?_
    refine AWP.ret ?_
    refine thenA_r ?_
    refine endF.one (.inr rfl) rfl (.tmp rfl) ?_ hN
    rw [decide_eq_false (fun e => absurd (congrArg List.length e) (by omega))]; rfl
  · skip
    simp [-List.getD_eq_getElem?_getD] at h0
    refine AWP.skip ?_
    refine thenA_n ?_
    refine AWP.seq ?_
    refine AWP.seq ?_
    refine AWP.region (fun _ => ?_)
    refine ARun.move (.inl rfl) rfl rfl rfl (Ev.plain rfl) optN ?_
    refine ARun.lenSl rfl rfl rfl rfl Tryz.underlying22 (Ev.plain rfl) optN ?_
    refine ARun.move (.inl rfl) rfl rfl rfl (Ev.plain rfl) optN ?_
    refine ⟨_, _, rfl, hG, ?_⟩
    refine thenA_n ?_
    refine AWP.block ?_
    refine AWP.rounds (fun k => k ≤ a.length ∧ a.take k = b.take k) (fun k => [(0, .sl (a.map aIt)), (1, .sl (b.map aIt)), (12, .int .i64 ((a.map aIt).length : Int)), (13, .int .i64 (k : Int))]) (fun k => []) (fun k => a.length - k) 0 0 ⟨by omega, rfl⟩ (by repeat (first | exact .nil | refine .cons rfl ?_)) rfl (fun _ => rfl) (fun _ => (by simp [AO.conts, AV.cells, aIt, aLn])) (fun k hI => ?_)
    obtain ⟨hk, hs⟩ := hI
    refine AWP.seq ?_
    refine AWP.region (fun _ => ?_)
    refine ARun.cmp rfl rfl rfl rfl (Ev.plain rfl) (Ev.plain rfl) rfl optN ?_
    refine ⟨_, _, rfl, hG, ?_⟩
    refine thenA_n ?_
    refine AWP.seq ?_
    refine AWP.cond rfl (fun h1 => ?_) (fun h1 => ?_)
    · skip
      simp [-List.getD_eq_getElem?_getD] at h1
      refine AWP.skip ?_
      refine thenA_n ?_
      refine AWP.seq ?_
      refine AWP.block ?_
      refine AWP.seq ?_
      refine AWP.region (fun _ => ?_)
      refine ARun.move (.inl rfl) rfl rfl rfl (Ev.plain rfl) optN ?_
      refine ARun.move (.inr rfl) rfl rfl rfl (Ev.plain rfl) optN ?_
      refine ⟨_, _, rfl, hG, ?_⟩
      refine thenA_n ?_
      refine AWP.seq ?_
      refine AWP.draw mixed (by kernel_rfl) (fun _ => ?_)
      refine ARun.move (.inl rfl) rfl rfl rfl (Ev.plain rfl) optN ?_
      refine ARun.move (.inl rfl) rfl rfl rfl (Ev.plain rfl) optN ?_
      first | refine ARun.indexSl rfl rfl rfl rfl Tryz.underlying22 sz64 (Ev.plain rfl) (Ev.plain rfl) (fun _ => rfl) (fun hg => getMap _ _ _ (by (try simp at hg); omega)) rfl rfl optN ?_ | refine ARun.indexSl rfl rfl rfl rfl Tryz.underlying22 sz64 (Ev.plain rfl) (Ev.plain rfl) (fun hg => ofNonneg (by (try simp at hg); omega)) (fun hg => getMap _ _ _ (by (try simp at hg); omega)) rfl rfl optN ?_
      refine ARun.loadPeA rfl rfl rfl rfl Tryz.underlying64 rfl sz64 (Ev.plain rfl) rfl optN ?_
      refine ARun.move (.inl rfl) rfl rfl rfl (Ev.plain rfl) optN ?_
      refine ARun.move (.inl rfl) rfl rfl rfl (Ev.plain rfl) optN ?_
      first | refine ARun.indexSl rfl rfl rfl rfl Tryz.underlying22 sz64 (Ev.plain rfl) (Ev.plain rfl) (fun _ => rfl) (fun hg => getMap _ _ _ (by (try simp at hg); omega)) rfl rfl optN ?_ | refine ARun.indexSl rfl rfl rfl rfl Tryz.underlying22 sz64 (Ev.plain rfl) (Ev.plain rfl) (fun hg => ofNonneg (by (try simp at hg); omega)) (fun hg => getMap _ _ _ (by (try simp at hg); omega)) rfl rfl optN ?_
      refine ARun.loadPeA rfl rfl rfl rfl Tryz.underlying64 rfl sz64 (Ev.plain rfl) rfl optN ?_
      refine ARun.eqAgg rfl rfl rfl rfl eq64 (Ev.plain rfl) (Ev.plain rfl) rfl (.inr ⟨rfl, rfl⟩) optN ?_
      refine ⟨by kernel_rfl, _, _, rfl, hG, ?_⟩
      refine thenA_n ?_
      refine AWP.cond rfl (fun h2 => ?_) (fun h2 => ?_)
      · skip
        simp [-List.getD_eq_getElem?_getD] at h2
        refine AWP.seq ?_
        refine AWP.region (fun _ => ?_)
        refine ARun.move (.inr rfl) rfl rfl rfl (Ev.plain rfl) optN ?_
        refine ⟨_, _, rfl, hG, ?_⟩
        refine thenA_n ?_
        refine AWP.ret ?_
        refine blockA_r ?_
        refine thenA_r ?_
        refine thenA_r ?_
        refine blockA_r ?_
        refine thenA_r ?_
        refine endF.one (.inr rfl) rfl (.tmp rfl) ?_ hN
        rw [decide_eq_false (ne_of_get (k := k) (aIt_ne h2))]; rfl
      · skip
        simp [-List.getD_eq_getElem?_getD] at h2
        refine AWP.skip ?_
        refine blockA_n ?_
        refine thenA_n ?_
        refine AWP.region (fun _ => ?_)
        first | refine ARun.arith rfl rfl rfl rfl (Ev.plain rfl) (Ev.plain rfl) rfl (fun hg => i64w (by (try simp at hg); omega)) optN ?_ | refine ARun.arith rfl rfl rfl rfl (Ev.plain rfl) (Ev.plain rfl) rfl (fun _ => rfl) optN ?_
        refine ARun.move (.inl rfl) rfl rfl rfl (Ev.plain rfl) optN ?_
        refine ⟨_, _, rfl, hG, ?_⟩
        refine thenA_n ⟨rfl, k + 1, _, ?_, ?_, rfl, ?_⟩
        · exact ⟨by omega, take_eq_go hs h1 (by omega) (aIt_ext h2)⟩
        · repeat (first | exact .nil | refine .cons rfl ?_)
        · omega
    · skip
      simp [-List.getD_eq_getElem?_getD] at h1
      refine AWP.exit ?_
      refine thenA_x ?_
      refine thenA_x ?_
      refine blockA_h ?_
      refine thenA_n ?_
      refine AWP.seq ?_
      refine AWP.region (fun _ => ?_)
      refine ARun.move (.inr rfl) rfl rfl rfl (Ev.plain rfl) optN ?_
      refine ⟨_, _, rfl, hG, ?_⟩
      refine thenA_n ?_
      refine AWP.ret ?_
      refine endF.one (.inr rfl) rfl (.tmp rfl) ?_ hN
      rw [decide_eq_true (by rw [List.take_of_length_le h1, List.take_of_length_le (by omega)] at hs; exact hs)]; rfl
end Go.Proofs.YtgebpndhnkkbgaaGreatDoor.Stk
namespace Go.Proofs.YtgebpndhnkkbgaaGreatDoor
set_option linter.unusedVariables false
set_option linter.unusedSimpArgs false
open NumP
set_option linter.unusedVariables false
set_option linter.unusedSimpArgs false
theorem back_numM {n most : Int} (hm : n ≤ most) (h b : List UInt8) (s : ByteArray) (hs : bl s = h ++ ((putN n).1 ++ b)) (hn : 0 ≤ n) (h1 : n ≤ 9223372036854775807) (p : ByteArray) :
    rdNum ⟨s, h.length, p, 0⟩ most = (⟨s, (h.length : Int) + ((putN n).1.length : Int), p, 0⟩, n) := by
  have hg := get_put h b n hn h1
  unfold rdNum numE
  dsimp only
  rw [hs, hg]
  dsimp only
  rw [if_neg (by omega), if_neg (by omega)]
  simp [RdS.moved]
theorem unrow_more {l : List UInt8} {p top top' to : Int} {xs : List Int} (h : unrowN l p top = (xs, to, 0)) (ht : top ≤ top') : unrowN l p top' = (xs, to, 0) := by
  unfold unrowN at h ⊢
  split at h
  · rename_i h1; simp at h; exact absurd h.2.2 h1
  · rename_i h1
    rw [if_neg h1]
    split at h
    · simp at h
    · rename_i h2
      rw [if_neg (by omega)]; exact h
theorem back_rowM {most : Int} (h b : List UInt8) (s : ByteArray) (l : List Int) (hs : bl s = h ++ ((rowN l).1 ++ b)) (hn : nneg l = true) (h1 : ∀ x, x ∈ l → x ≤ 9223372036854775807) (hl : l.length ≤ 1000) (hm : (l.length : Int) ≤ most) (p : ByteArray) :
    rdRow ⟨s, h.length, p, 0⟩ most = (⟨s, (h.length : Int) + ((rowN l).1.length : Int), p, 0⟩, l) := by
  have hg := unrow_more (unrow_row h b l hn h1 hl) hm
  unfold rdRow
  dsimp only
  rw [hs, hg]
  simp [RdS.moved]
/-! ### the errors -/
theorem new_code (p : ByteArray) (e : Int) : (Er.new p e).code = e := by
  unfold Er.new
  split
  · rename_i h; rw [h]; rfl
  · rename_i h
    show (match (some e : Option Int) with | some c => if c = 0 then 2 else c | Option.none => 2) = e
    simp [h]
theorem errOf_code (op p : ByteArray) (e : Int) : (errOf op p e).code = e := by
  unfold errOf
  split
  · rename_i h; rw [h]; rfl
  · rename_i h
    show (match (some e : Option Int) with | some c => if c = 0 then 2 else c | Option.none => 2) = e
    simp [h]
theorem wrap_code (p : ByteArray) {e : Er} : (Er.wrap p e).code = e.code := by
  cases e <;> rfl
theorem takeErr_code (s : ByteArray) : (takeErr s).code = takeE s := by
  unfold takeErr takeE
  split
  · rw [wrap_code, errOf_code]
  · split
    · rw [new_code]
    · rw [wrap_code, new_code]
theorem takeRErr_code (s : ByteArray) : (takeRErr s).code = (rdReply s).1.e := by unfold takeRErr; rw [wrap_code, errOf_code]
/-! ### replies -/
theorem repE_zero {r : Rp} (h : repE r = 0) : (0 ≤ r.code ∧ r.code ≤ 255) ∧ r.nums.length ≤ 20 ∧ nneg r.nums = true := by
  unfold repE at h
  split at h
  · cases h
  · rename_i h0
    exact ⟨by omega, by omega, by cases hh : nneg r.nums <;> simp_all⟩
theorem rep_back {r : Rp} (h : repE r = 0) (hf : ∀ x, x ∈ r.nums → x ≤ 9223372036854775807) : (rdReply (putR r)).1.e = 0 ∧ takeR (putR r) = r := by
  obtain ⟨h1, h2, h3⟩ := repE_zero h
  have hs : bl (putR r) = (putN r.code).1 ++ (rowN r.nums).1 := by rw [putR, if_pos h, layR_ok h]; exact bl_bs _
  have hsz : (putR r).size = ((putN r.code).1 ++ (rowN r.nums).1).length := by rw [← bl_len, hs]
  have e1 : rdNum (RdS.new (putR r)) 255 = (⟨putR r, ((putN r.code).1.length : Int), ⟨#[]⟩, 0⟩, r.code) := by
    have := back_numM (most := 255) h1.2 [] (rowN r.nums).1 (putR r) (by rw [hs]; rfl) h1.1 (by omega) ⟨#[]⟩
    simpa [RdS.new] using this
  have e2 : rdRow ⟨putR r, ((putN r.code).1.length : Int), ⟨#[]⟩, 0⟩ 20 = (⟨putR r, ((putN r.code).1.length : Int) + ((rowN r.nums).1.length : Int), ⟨#[]⟩, 0⟩, r.nums) :=
    back_rowM (most := 20) (putN r.code).1 [] (putR r) r.nums (by rw [hs]; simp) h3 hf (by omega) (by omega) _
  have e3 : rdReply (putR r) = (⟨putR r, ((putN r.code).1.length : Int) + ((rowN r.nums).1.length : Int), ⟨#[]⟩, 0⟩, r.code, r.nums) := by
    unfold rdReply
    simp only [e1, e2]
    unfold rdEnd
    rw [if_neg (by dsimp only; rw [hsz, List.length_append]; omega)]
  refine ⟨by rw [e3], ?_⟩
  unfold takeR
  rw [e3]; rfl
theorem takeC_len (s : ByteArray) : (takeC s).lines.length ≤ 1000 := by
  unfold takeC
  split
  · have h1 := rdRow_len (sixR s 6) 10
    have : ∀ l : List Int, (pairsL l).length ≤ l.length := by
      intro l
      induction l using pairsL.induct with
      | case1 a b r ih => simp [pairsL]; omega
      | case2 t h => rw [show pairsL t = [] from by unfold pairsL; split <;> simp_all]; exact Nat.zero_le _
    exact Nat.le_trans (this _) h1
  · exact Nat.zero_le _
theorem putR_len (r : Rp) : (putR r).size ≤ 1000 := by
  unfold putR
  split
  · rename_i h
    rw [layR_ok h]
    have h1 := rowN_len r.nums
    have h2 := (repE_zero h).2.1
    have a1 := putN_len r.code
    show (bs _).size ≤ _
    rw [bs_size]; simp; omega
  · exact Nat.zero_le _
end Go.Proofs.YtgebpndhnkkbgaaGreatDoor
namespace Go.Proofs.YtgebpndhnkkbgaaGreatDoor
set_option linter.unusedVariables false
set_option linter.unusedSimpArgs false
open NumP
set_option linter.unusedVariables false
set_option linter.unusedSimpArgs false
abbrev Its := List StockP.It
abbrev Ses := List SessP.Se
abbrev St := Its × Ses
abbrev tF (l : Its) (id : Int) : StockP.It := (StockP.findT l id).1
def numsP (l : Its) (id : Int) : List Int := [(tF l id).free, (tF l id).held, (tF l id).gone]
def oneP (l : Its) (c : Cl) : Its × Int :=
  if c.kind = 1 then Stk.createP l c.item c.qty else if c.kind = 2 then StockP.withP (StockP.inG c.qty) l c.item c.qty else
  if c.kind = 3 then StockP.withP (StockP.holdG c.qty) l c.item c.qty else if c.kind = 4 then StockP.withP (StockP.freeG c.qty) l c.item c.qty else StockP.withP (StockP.shipG c.qty) l c.item c.qty
def oneR (l : Its) (c : Cl) : Its × Rp := if (oneP l c).2 = 0 then ((oneP l c).1, ⟨0, numsP (oneP l c).1 c.item⟩) else (l, ⟨(oneP l c).2, []⟩)
abbrev mvP (l : Its) (c : Cl) : Its × Int := Stk.moveP l c.item c.to_ c.qty
def moveR (l : Its) (c : Cl) : Its × Rp := if (mvP l c).2 = 0 then ((mvP l c).1, ⟨0, [(tF (mvP l c).1 c.item).free, (tF (mvP l c).1 c.to_).free]⟩) else (l, ⟨(mvP l c).2, []⟩)
def queryR (l : Its) (c : Cl) : Its × Rp := if (StockP.findT l c.item).2 = true then (l, ⟨0, numsP l c.item⟩) else (l, ⟨40, []⟩)
abbrev orP (l : Its) (c : Cl) : Its × Int × Int := StockP.allP Stk.holdF l c.lines
def orderR (l : Its) (c : Cl) : Its × Rp := if (orP l c).2.2 = 0 then ((orP l c).1, ⟨0, [StockP.totalP c.lines]⟩) else (l, ⟨(orP l c).2.2, [(orP l c).2.1]⟩)
def kindR (l : Its) (c : Cl) : Its × Rp := if c.kind = 6 then moveR l c else if c.kind = 7 then queryR l c else if c.kind = 8 then orderR l c else oneR l c
/-- P33.2 -/
def doP (l : Its) (c : Cl) : Its × Rp := if Stk.okE l = 0 then (if checkP c = 0 then kindR l c else (l, ⟨checkP c, []⟩)) else (l, ⟨2, []⟩)
/-- P33.1 -/
def chkP (s : St) : Int := if Stk.okE s.1 = 0 ∧ SessP.okE s.2 = 0 then 0 else 2
abbrev asP (s : St) (p : ByteArray) : ByteArray × Bool × Int := Ssn.askP s.2 (takeC p).client (takeC p).seq
abbrev nwP (s : St) (p : ByteArray) : SessP.Se := ⟨(takeC p).client, (takeC p).seq, putR (doP s.1 (takeC p)).2⟩
abbrev ntP (s : St) (p : ByteArray) : Ses × Int := Ssn.noteP s.2 (nwP s p)
/-- P33.3 -/
def applyP (s : St) (p : ByteArray) : St × ByteArray :=
  if chkP s = 0 then
    if takeE p = 0 then
      if (asP s p).2.2 = 0 then
        if (asP s p).2.1 = true then (s, (asP s p).1) else (((doP s.1 (takeC p)).1, (ntP s p).1), putR (doP s.1 (takeC p)).2)
      else (s, putR ⟨(asP s p).2.2, []⟩)
    else (s, putR ⟨takeE p, []⟩)
  else (s, putR ⟨2, []⟩)
def stepP (a : St × List ByteArray) (p : ByteArray) : St × List ByteArray := ((applyP a.1 p).1, a.2 ++ [(applyP a.1 p).2])
/-- P33.4 -/
def foldP (s : St) (l : List ByteArray) : St × List ByteArray := l.foldl stepP (s, [])
/-! ### what it keeps -/
theorem ok_len {l : Its} (h : StockP.ok l = true) : l.length ≤ 20 := StockP.ok_len h
theorem find_bd {l : Its} (h : StockP.ok l = true) (id : Int) : (0 ≤ (tF l id).free ∧ (tF l id).free ≤ 1000000) ∧ (0 ≤ (tF l id).held ∧ (tF l id).held ≤ 1000000) ∧ (0 ≤ (tF l id).gone ∧ (tF l id).gone ≤ 1000000) := by
  unfold tF
  cases hf : (StockP.findT l id).2 with
  | false => rw [Stk.find_no2 hf]; exact ⟨by decide, by decide, by decide⟩
  | true =>
    have := StockP.may_bd (Stk.found_may (q := 1) (by unfold StockP.askedB; rw [h]; decide) hf)
    omega
theorem nums_fit {l : Its} (h : StockP.ok l = true) (id : Int) : ∀ x, x ∈ numsP l id → 0 ≤ x ∧ x ≤ 5000000 := by
  intro x hx
  have := find_bd h id
  simp only [numsP, List.mem_cons, List.not_mem_nil, or_false] at hx
  rcases hx with rfl | rfl | rfl <;> omega
theorem one_ok {l : Its} {c : Cl} (h : (oneP l c).2 = 0) : StockP.ok (oneP l c).1 = true := by
  unfold oneP at h ⊢
  by_cases h1 : c.kind = 1
  · rw [if_pos h1] at h ⊢; exact (Stk.create_sums h).2.ok
  rw [if_neg h1] at h ⊢
  by_cases h2 : c.kind = 2
  · rw [if_pos h2] at h ⊢; exact (Stk.with_sums 0 c.qty h (Stk.in_g c.qty)).2.ok
  rw [if_neg h2] at h ⊢
  by_cases h3 : c.kind = 3
  · rw [if_pos h3] at h ⊢; exact (Stk.with_sums 0 0 h (Stk.hold_g c.qty)).2.ok
  rw [if_neg h3] at h ⊢
  by_cases h4 : c.kind = 4
  · rw [if_pos h4] at h ⊢; exact (Stk.with_sums 0 0 h (Stk.free_g c.qty)).2.ok
  rw [if_neg h4] at h ⊢
  exact (Stk.with_sums 0 0 h (Stk.ship_g c.qty)).2.ok
theorem goes_ok (m : List Ln) : ∀ (i : Int) (l : Its), StockP.ok l = true → (StockP.goesP Stk.holdF i l m).2.2 = 0 → StockP.ok (StockP.goesP Stk.holdF i l m).1 = true := by
  induction m with
  | nil => intro i l h _; exact h
  | cons x m ih =>
    intro i l h h0
    rw [StockP.goesP_cons] at h0 ⊢
    by_cases e : (Stk.holdF l x.item x.qty).2 ≠ 0
    · rw [if_pos e] at h0; exact absurd h0 e
    · rw [if_neg e] at h0 ⊢
      exact ih _ _ (Stk.with_sums 0 0 (by simpa using e) (Stk.hold_g x.qty)).2.ok h0
theorem order_ok {l : Its} {c : Cl} (h : (orP l c).2.2 = 0) : StockP.ok (orP l c).1 = true := by
  unfold orP StockP.allP at h ⊢
  by_cases e : StockP.ok l = true ∧ StockP.okL c.lines = true
  · rw [if_pos e] at h ⊢; exact goes_ok _ _ _ e.1 h
  · rw [if_neg e] at h; simp at h
theorem kind_ok {l : Its} {c : Cl} (h : StockP.ok l = true) : StockP.ok (kindR l c).1 = true := by
  unfold kindR
  split
  · unfold moveR; split
    · rename_i h1; exact (Stk.move_sums h1).2.ok
    · exact h
  · split
    · unfold queryR; split <;> exact h
    · split
      · unfold orderR; split
        · rename_i h1; exact order_ok h1
        · exact h
      · unfold oneR; split
        · rename_i h1; exact one_ok h1
        · exact h
theorem do_ok {l : Its} {c : Cl} (h : StockP.ok l = true) : StockP.ok (doP l c).1 = true := by
  unfold doP; split
  · split
    · exact kind_ok h
    · exact h
  · exact h
/-! ### its answers -/
theorem with_rng {g : StockP.It → StockP.It × Int} {l : Its} {id q : Int} (hg : ∀ x, 0 ≤ (g x).2 ∧ (g x).2 ≤ 255) : 0 ≤ (StockP.withP g l id q).2 ∧ (StockP.withP g l id q).2 ≤ 255 := by
  unfold StockP.withP
  split
  · split
    · split
      · exact (by constructor <;> first | decide | (dsimp only; decide))
      · exact hg _
    · exact (by constructor <;> first | decide | (dsimp only; decide))
  · exact (by constructor <;> first | decide | (dsimp only; decide))
theorem lent_rng (b c : Int) : 0 ≤ StockP.lentE b c ∧ StockP.lentE b c ≤ 255 := by unfold StockP.lentE; split <;> omega
theorem in_rng (q : Int) (x : StockP.It) : 0 ≤ (StockP.inG q x).2 ∧ (StockP.inG q x).2 ≤ 255 := by unfold StockP.inG; split <;> exact (by constructor <;> first | decide | (dsimp only; decide))
theorem create_rng (l : Its) (i q : Int) : 0 ≤ (Stk.createP l i q).2 ∧ (Stk.createP l i q).2 ≤ 255 := by
  unfold Stk.createP; split
  · split
    · exact (by constructor <;> first | decide | (dsimp only; decide))
    · split <;> exact (by constructor <;> first | decide | (dsimp only; decide))
  · exact (by constructor <;> first | decide | (dsimp only; decide))
theorem move_rng (l : Its) (a b q : Int) : 0 ≤ (Stk.moveP l a b q).2 ∧ (Stk.moveP l a b q).2 ≤ 255 := by
  unfold Stk.moveP; split
  · split
    · exact (by constructor <;> first | decide | (dsimp only; decide))
    · split
      · exact with_rng (in_rng q)
      · exact with_rng (fun x => lent_rng _ _)
  · exact (by constructor <;> first | decide | (dsimp only; decide))
theorem one_rng (l : Its) (c : Cl) : 0 ≤ (oneP l c).2 ∧ (oneP l c).2 ≤ 255 := by
  unfold oneP
  split
  · exact create_rng _ _ _
  · split
    · exact with_rng (in_rng _)
    · split
      · exact with_rng (fun x => lent_rng _ _)
      · split
        · exact with_rng (fun x => lent_rng _ _)
        · exact with_rng (fun x => lent_rng _ _)
theorem goes_rng (m : List Ln) : ∀ (i : Int) (l : Its), 0 ≤ i → (0 ≤ (StockP.goesP Stk.holdF i l m).2.2 ∧ (StockP.goesP Stk.holdF i l m).2.2 ≤ 255) ∧ (0 ≤ (StockP.goesP Stk.holdF i l m).2.1 ∧ (StockP.goesP Stk.holdF i l m).2.1 ≤ i + m.length) := by
  induction m with
  | nil => intro i l h; exact ⟨⟨(show (0 : Int) ≤ 0 by decide), (show (0 : Int) ≤ 255 by decide)⟩, by show 0 ≤ i; omega, by show i ≤ _; simp⟩
  | cons x m ih =>
    intro i l h
    rw [StockP.goesP_cons]
    split
    · exact ⟨with_rng (fun x => lent_rng _ _), h, by simp only [List.length_cons]; omega⟩
    · have := ih (i + 1) (Stk.holdF l x.item x.qty).1 (by omega)
      rw [List.length_cons]; omega
theorem order_rng (l : Its) (c : Cl) : (0 ≤ (orP l c).2.2 ∧ (orP l c).2.2 ≤ 255) ∧ (0 ≤ (orP l c).2.1 ∧ (orP l c).2.1 ≤ 5) := by
  unfold orP StockP.allP
  split
  · rename_i h
    have := goes_rng c.lines 0 l (by omega)
    have h2 := Stk.okL_len h.2
    omega
  · exact ⟨(by constructor <;> first | decide | (dsimp only; decide)), (by constructor <;> first | decide | (dsimp only; decide))⟩
theorem total_bd (m : List Ln) : 0 ≤ StockP.totalP m ∧ StockP.totalP m ≤ 5000000 := by
  unfold StockP.totalP
  split
  · rename_i h
    have h1 := Stk.sumF_bd h m.length (Nat.le_refl _)
    rw [List.take_length] at h1
    have h2 := Stk.okL_len h
    omega
  · exact (by constructor <;> first | decide | (dsimp only; decide))
/-- a reply that is told in time -/
structure Fine (r : Rp) : Prop where
  code : 0 ≤ r.code ∧ r.code ≤ 255
  len : r.nums.length ≤ 3
  fit : ∀ x, x ∈ r.nums → 0 ≤ x ∧ x ≤ 5000000
theorem Fine.bare {e : Int} (h : 0 ≤ e ∧ e ≤ 255) : Fine ⟨e, []⟩ := ⟨h, Nat.zero_le _, fun x hx => by cases hx⟩
theorem Fine.one {e n : Int} (h : 0 ≤ e ∧ e ≤ 255) (hn : 0 ≤ n ∧ n ≤ 5000000) : Fine ⟨e, [n]⟩ := ⟨h, Nat.le_add_left 1 2, fun x hx => by simp at hx; subst hx; exact hn⟩
theorem Fine.rep {r : Rp} (h : Fine r) : repE r = 0 := by
  unfold repE
  rw [if_neg]
  have h1 := h.code
  have h2 := h.len
  have h3 : nneg r.nums = true := nneg_of fun x hx => (h.fit x hx).1
  rw [h3]; simp; omega
theorem Fine.num {r : Rp} (h : Fine r) : ∀ x, x ∈ r.nums → -9223372036854775808 ≤ x ∧ x ≤ 9223372036854775807 := fun x hx => by have := h.fit x hx; omega
theorem Fine.small {r : Rp} (h : Fine r) : (putR r).size ≤ 100 := by
  have he := h.rep
  have hl := h.len
  have hn : nneg r.nums = true := nneg_of fun x hx => (h.fit x hx).1
  unfold putR
  rw [if_pos he, layR_ok he]
  unfold WrS.out
  rw [if_pos rfl]
  show ((putN r.code).1 ++ (rowN r.nums).1).length ≤ 100
  rw [List.length_append]
  have h1 := putN_len r.code
  unfold rowN
  rw [if_pos hn]
  have h2 := putN_len (r.nums.length : Int)
  have h3 := rowBytes_len r.nums
  rw [List.length_append]; omega
theorem kind_fine {l : Its} {c : Cl} (h : StockP.ok l = true) : Fine (kindR l c).2 := by
  unfold kindR
  split
  · unfold moveR; split
    · rename_i h1
      have hk := (Stk.move_sums h1).2.ok
      refine ⟨(by constructor <;> first | decide | (dsimp only; decide)), Nat.le_succ _, fun x hx => ?_⟩
      have b1 := find_bd hk c.item
      have b2 := find_bd hk c.to_
      simp only [List.mem_cons, List.not_mem_nil, or_false] at hx
      rcases hx with rfl | rfl
      · exact ⟨b1.1.1, Int.le_trans b1.1.2 (by decide)⟩
      · exact ⟨b2.1.1, Int.le_trans b2.1.2 (by decide)⟩
    · exact .bare (move_rng _ _ _ _)
  · split
    · unfold queryR; split
      · exact ⟨(by constructor <;> first | decide | (dsimp only; decide)), Nat.le_refl _, nums_fit h _⟩
      · exact .bare (by constructor <;> first | decide | (dsimp only; decide))
    · split
      · unfold orderR; split
        · exact .one (by constructor <;> first | decide | (dsimp only; decide)) (total_bd _)
        · have := order_rng l c
          exact .one this.1 (by omega)
      · unfold oneR; split
        · rename_i h1
          exact ⟨(by constructor <;> first | decide | (dsimp only; decide)), Nat.le_refl _, nums_fit (one_ok h1) _⟩
        · exact .bare (one_rng _ _)
theorem check_rng (c : Cl) : 0 ≤ checkP c ∧ checkP c ≤ 255 := by rcases check_two c with h | h | h <;> rw [h] <;> exact (by constructor <;> first | decide | (dsimp only; decide))
theorem do_fine (l : Its) (c : Cl) : Fine (doP l c).2 := by
  unfold doP; split
  · rename_i h
    split
    · exact kind_fine (Stk.okE_ok.1 h)
    · exact .bare (check_rng c)
  · exact .bare (by constructor <;> first | decide | (dsimp only; decide))
theorem do_same {l : Its} {c : Cl} (h : (doP l c).2.code ≠ 0) : (doP l c).1 = l := by
  unfold doP at h ⊢
  split
  · rename_i h1
    rw [if_pos h1] at h
    split
    · rename_i h2
      rw [if_pos h2] at h
      unfold kindR at h ⊢
      split
      · rename_i h3
        rw [if_pos h3] at h
        unfold moveR at h ⊢; split
        · rename_i h4; rw [if_pos h4] at h; exact absurd rfl h
        · rfl
      · rename_i h3
        rw [if_neg h3] at h
        split
        · unfold queryR; split <;> rfl
        · rename_i h4
          rw [if_neg h4] at h
          split
          · rename_i h5
            rw [if_pos h5] at h
            unfold orderR at h ⊢; split
            · rename_i h6; rw [if_pos h6] at h; exact absurd rfl h
            · rfl
          · rename_i h5
            rw [if_neg h5] at h
            unfold oneR at h ⊢; split
            · rename_i h6; rw [if_pos h6] at h; exact absurd rfl h
            · rfl
    · rfl
  · rfl
theorem do_len (l : Its) (c : Cl) (hl : l.length ≤ 60) : (doP l c).1.length ≤ 60 := by
  by_cases h : Stk.okE l = 0
  · have := ok_len (do_ok (c := c) (Stk.okE_ok.1 h)); omega
  · unfold doP; rw [if_neg h]; exact hl
/-! ### what a payload is told -/
theorem chk_zero {s : St} (h : chkP s = 0) : Stk.okE s.1 = 0 ∧ SessP.okE s.2 = 0 := by unfold chkP at h; split at h <;> simp_all
theorem chk_mk {s : St} (h1 : Stk.okE s.1 = 0) (h2 : SessP.okE s.2 = 0) : chkP s = 0 := if_pos ⟨h1, h2⟩
theorem note_zero {s : St} {p : ByteArray} (ht : takeE p = 0) (hp : p.size ≤ 1000000) (h : (asP s p).2.2 = 0) (h2 : (asP s p).2.1 = false) : (ntP s p).2 = 0 := by
  unfold ntP Ssn.noteP
  have hm : SessP.may (nwP s p) = true := by
    have ha := (Ssn.askP_ok h).2
    have hsz := (do_fine s.1 (takeC p)).small
    rw [Ssn.may_iff]
    have n1 := Ssn.numB_iff (takeC p).client
    have n2 := Ssn.numB_iff (takeC p).seq
    refine ⟨?_, ?_, ?_⟩
    · exact n1.1 ha.1
    · exact n2.1 ha.2
    · show ((putR (doP s.1 (takeC p)).2).size : Int) ≤ 300; omega
  rw [if_pos h, if_pos hm, if_neg (by rw [show (Ssn.askP s.2 (nwP s p).client (nwP s p).seq).2.1 = (asP s p).2.1 from rfl, h2]; simp)]
theorem ses_len {l : Ses} (h : SessP.okE l = 0) : l.length ≤ 20 := (Ssn.okE_ok h).1
theorem apply_len (s : St) (p : ByteArray) (hp : p.size ≤ 1000000) (h1 : s.1.length ≤ 60) (h2 : s.2.length ≤ 60) : (applyP s p).1.1.length ≤ 60 ∧ (applyP s p).1.2.length ≤ 60 := by
  unfold applyP
  split
  · split
    · rename_i ht
      split
      · rename_i ha
        split
        · exact ⟨h1, h2⟩
        · rename_i hg
          have := ses_len (Ssn.note_ok (note_zero ht hp ha (by simpa using hg)))
          exact ⟨do_len _ _ h1, Nat.le_trans this (by decide)⟩
      · exact ⟨h1, h2⟩
    · exact ⟨h1, h2⟩
  · exact ⟨h1, h2⟩
theorem fold_snoc (s : St) (l : List ByteArray) (x : ByteArray) : foldP s (l ++ [x]) = stepP (foldP s l) x := by unfold foldP; rw [List.foldl_append]; rfl
theorem fold_at (s : St) (l : List ByteArray) (k : Nat) (h : k < l.length) : foldP s (l.take (k + 1)) = stepP (foldP s (l.take k)) (l.getD k default) := by
  rw [List.take_succ_eq_append_getElem h, fold_snoc]; simp [List.getD, h]
theorem fold_len (s : St) (l : List ByteArray) (hl : ∀ x, x ∈ l → x.size ≤ 1000000) (h1 : s.1.length ≤ 60) (h2 : s.2.length ≤ 60) : ∀ k, k ≤ l.length → ((foldP s (l.take k)).1.1.length ≤ 60 ∧ (foldP s (l.take k)).1.2.length ≤ 60) ∧ (foldP s (l.take k)).2.length = k := by
  intro k
  induction k with
  | zero => intro _; exact ⟨⟨h1, h2⟩, rfl⟩
  | succ k ih =>
    intro hk
    obtain ⟨⟨i1, i2⟩, i3⟩ := ih (by omega)
    rw [fold_at s l k (by omega)]
    have hx : (l.getD k default).size ≤ 1000000 := by rw [show l.getD k default = l[k] from by simp [List.getD, show k < l.length by omega]]; exact hl _ (List.getElem_mem _)
    refine ⟨apply_len _ _ hx i1 i2, ?_⟩
    show ((foldP s (l.take k)).2 ++ [_]).length = k + 1
    rw [List.length_append, i3]; rfl
end Go.Proofs.YtgebpndhnkkbgaaGreatDoor
namespace Go.Proofs.YtgebpndhnkkbgaaGreatDoor
set_option linter.unusedVariables false
set_option linter.unusedSimpArgs false
open Go.RowKit
open NumP
set_option maxRecDepth 100000
def aSt (s : St) : AV := .agg [.sl (s.1.map Stk.aIt), .sl (s.2.map Ssn.aSe)]
theorem cloneIt_fn (l : Its) (hl : l.length ≤ 1000000) : FnP Tryz.prog 51 [.sl (l.map Stk.aIt)] (.sl (l.map Stk.aIt)) :=
  FnP.of_owns Stk.encIt Stk.aIt 4 Stk.encIt_len (fun x => rfl) (fun x u hu => by simp [Stk.encIt] at hu; rcases hu with rfl | rfl | rfl | rfl <;> rfl) l (fun w a cap hr _ _ _ => Stk.cloneIt_any a cap l w hr hl)
theorem takeErr_none (s : ByteArray) : (takeErr s).isNone = decide (takeE s = 0) := by
  unfold takeErr takeE
  split
  · rw [wrap_none, errOf_none]
  · split
    · rw [new_none]
    · rw [wrap_none, new_none]
theorem okE_two {l : Its} (h : ¬ Stk.okE l = 0) : Stk.okE l = 2 := by unfold Stk.okE at h ⊢; split <;> simp_all
theorem chk_two {s : St} (h : ¬ chkP s = 0) : chkP s = 2 := by unfold chkP at h ⊢; split <;> simp_all
theorem do_0 {l : Its} {c : Cl} (h : ¬ Stk.okE l = 0) : doP l c = (l, ⟨2, []⟩) := if_neg h
theorem do_1 {l : Its} {c : Cl} (h : Stk.okE l = 0) (h1 : ¬ checkP c = 0) : doP l c = (l, ⟨checkP c, []⟩) := by unfold doP; rw [if_pos h, if_neg h1]
theorem do_2 {l : Its} {c : Cl} (h : Stk.okE l = 0) (h1 : checkP c = 0) : doP l c = kindR l c := by unfold doP; rw [if_pos h, if_pos h1]
theorem kind_6 {l : Its} {c : Cl} (h : c.kind = 6) : kindR l c = moveR l c := if_pos h
theorem kind_7 {l : Its} {c : Cl} (h : c.kind = 7) : kindR l c = queryR l c := by unfold kindR; rw [if_neg (by omega), if_pos h]
theorem kind_8 {l : Its} {c : Cl} (h : c.kind = 8) : kindR l c = orderR l c := by unfold kindR; rw [if_neg (by omega), if_neg (by omega), if_pos h]
theorem kind_o {l : Its} {c : Cl} (h : c.kind ≠ 6 ∧ c.kind ≠ 7 ∧ c.kind ≠ 8) : kindR l c = oneR l c := by unfold kindR; rw [if_neg h.1, if_neg h.2.1, if_neg h.2.2]
theorem oneR_y {l : Its} {c : Cl} {m : Its × Int} (hm : oneP l c = m) (h : m.2 = 0) : oneR l c = (m.1, ⟨0, numsP m.1 c.item⟩) := by subst hm; exact if_pos h
theorem oneR_n {l : Its} {c : Cl} {m : Its × Int} (hm : oneP l c = m) (h : ¬ m.2 = 0) : oneR l c = (l, ⟨m.2, []⟩) := by subst hm; exact if_neg h
theorem one_1 {l : Its} {c : Cl} (h : c.kind = 1) : oneP l c = Stk.createP l c.item c.qty := if_pos h
theorem one_2 {l : Its} {c : Cl} (h : c.kind = 2) : oneP l c = StockP.withP (StockP.inG c.qty) l c.item c.qty := by unfold oneP; rw [if_neg (by omega), if_pos h]
theorem one_3 {l : Its} {c : Cl} (h : c.kind = 3) : oneP l c = StockP.withP (StockP.holdG c.qty) l c.item c.qty := by unfold oneP; rw [if_neg (by omega), if_neg (by omega), if_pos h]
theorem one_4 {l : Its} {c : Cl} (h : c.kind = 4) : oneP l c = StockP.withP (StockP.freeG c.qty) l c.item c.qty := by unfold oneP; rw [if_neg (by omega), if_neg (by omega), if_neg (by omega), if_pos h]
theorem one_5 {l : Its} {c : Cl} (h : c.kind = 5) : oneP l c = StockP.withP (StockP.shipG c.qty) l c.item c.qty := by unfold oneP; rw [if_neg (by omega), if_neg (by omega), if_neg (by omega), if_neg (by omega)]
theorem one_len (l : Its) (i q : Int) : (Stk.createP l i q).1.length ≤ l.length + 1 ∧ (StockP.withP (StockP.inG q) l i q).1.length ≤ l.length ∧ (StockP.withP (StockP.holdG q) l i q).1.length ≤ l.length ∧ (StockP.withP (StockP.freeG q) l i q).1.length ≤ l.length ∧ (StockP.withP (StockP.shipG q) l i q).1.length ≤ l.length := ⟨Stk.create_len l i q, Stk.with_len _ l i q, Stk.with_len _ l i q, Stk.with_len _ l i q, Stk.with_len _ l i q⟩
set_option maxHeartbeats 1000000 in
theorem toldS_fn (l : Its) (id : Int) (hl : l.length ≤ 1000) : FnP Tryz.prog 106 [.sl (l.map Stk.aIt), .int .i64 id] (aRp ⟨0, numsP l id⟩) := by
  refine FnP.of Tryz.func106 rfl rfl (by simp) (by simp [AV.cells, aIn, aOut, aLn, aCl, aRp, Stk.aIt, Ssn.aSe, aSt]) (fun G hG => ?_)
  have hN : NoH G.length (aRp ⟨0, numsP l id⟩) := (by simp [AV.cells, aIn, aOut, aLn, aCl, aRp, Stk.aIt, Ssn.aSe, aSt])
  refine AWP.seq ?_
  refine AWP.region (fun _ => ?_)
  refine ARun.alloc (j := 0) hG rfl rfl rfl rfl rfl zv31 rfl optN ?_
  refine ⟨_, _, rfl, hG, ?_⟩
  refine thenA_n ?_
  refine AWP.seq ?_
  refine AWP.region (fun _ => ?_)
  refine ARun.move (.inl rfl) rfl rfl rfl (Ev.plain rfl) optN ?_
  refine ARun.move (.inl rfl) rfl rfl rfl (Ev.plain rfl) optN ?_
  refine ARun.call rfl rfl rfl rfl cf105 (Ev.plain rfl) (.cons (Ev.plain rfl) (.cons (Ev.plain rfl) .nil)) rfl (fun hg => Stk.find_fn l id (by omega)) optN ?_
  refine ARun.move (.inl rfl) rfl rfl rfl (Ev.plain rfl) optN ?_
  refine ARun.extract rfl rfl rfl rfl (Ev.plain rfl) rfl optN ?_
  refine ARun.extract rfl rfl rfl rfl (Ev.plain rfl) rfl optN ?_
  refine ARun.alloc (j := 1) hG rfl rfl rfl rfl rfl zv64 rfl optN ?_
  refine ARun.storeL hG rfl rfl rfl sz64 (Ev.plain rfl) (Ev.plain rfl) rfl rfl rfl rfl rfl (Nat.le_of_ble_eq_true rfl) rfl rfl ?_
  refine ARun.move (.inr rfl) rfl rfl rfl (Ev.plain rfl) optN ?_
  refine ⟨_, _, rfl, hG, ?_⟩
  refine thenA_n ?_
  refine AWP.seq ?_
  refine AWP.region (fun _ => ?_)
  refine ARun.fieldBox (fo := 1) rfl rfl rfl rfl Tryz.underlying64 rfl rfl sz3 (by decide) (Ev.plain rfl) ((hG.at _ _).trans rfl) optN ?_
  refine ARun.loadBox rfl rfl rfl rfl Tryz.underlying3 rfl (Ev.plain rfl) ((hG.at _ _).trans rfl) rfl optN ?_
  refine ARun.fieldBox (fo := 2) rfl rfl rfl rfl Tryz.underlying64 rfl rfl sz3 (by decide) (Ev.plain rfl) ((hG.at _ _).trans rfl) optN ?_
  refine ARun.loadBox rfl rfl rfl rfl Tryz.underlying3 rfl (Ev.plain rfl) ((hG.at _ _).trans rfl) rfl optN ?_
  refine ARun.fieldBox (fo := 3) rfl rfl rfl rfl Tryz.underlying64 rfl rfl sz3 (by decide) (Ev.plain rfl) ((hG.at _ _).trans rfl) optN ?_
  refine ARun.loadBox rfl rfl rfl rfl Tryz.underlying3 rfl (Ev.plain rfl) ((hG.at _ _).trans rfl) rfl optN ?_
  refine ARun.buildSl rfl rfl rfl rfl Tryz.underlying29 sz3 zv3 rfl (by decide) (.cons (Ev.plain rfl) (.cons (Ev.plain rfl) (.cons (Ev.plain rfl) .nil))) rfl rfl rfl rfl (by decide) rfl rfl optN ?_
  refine ARun.call rfl rfl rfl rfl cf27 (Ev.plain rfl) (.cons (Ev.plain rfl) (.cons (Ev.plain rfl) .nil)) rfl (fun hg => told_fn 0 [(tF l id).free, (tF l id).held, (tF l id).gone] (by simp)) optN ?_
  refine ARun.storeL hG rfl rfl rfl sz31 (Ev.plain rfl) (Ev.plain rfl) rfl rfl rfl rfl rfl (Nat.le_of_ble_eq_true rfl) rfl rfl ?_
  refine ⟨_, _, rfl, hG, ?_⟩
  refine thenA_n ?_
  refine AWP.ret ?_
  refine endF.one (.inr rfl) rfl (.cellA rfl ((hG.at _ _).trans rfl) Tryz.underlying31 rfl sz31 rfl rfl) ?_ hN
  rfl
set_option maxHeartbeats 1000000 in
theorem one1_fn (l : Its) (c : Cl) (hl : l.length ≤ 100) (hk : c.kind = 1) : FnP Tryz.prog 71 [.sl (l.map Stk.aIt), aCl c] (.tup [.sl ((oneR l c).1.map Stk.aIt), aRp (oneR l c).2]) := by
  have hol := one_len l c.item c.qty
  refine FnP.of Tryz.func71 rfl rfl (by simp) (by simp [AV.cells, aIn, aOut, aLn, aCl, aRp, Stk.aIt, Ssn.aSe, aSt]) (fun G hG => ?_)
  have hN : NoH G.length (.tup [.sl ((oneR l c).1.map Stk.aIt), aRp (oneR l c).2]) := (by simp [AV.cells, aIn, aOut, aLn, aCl, aRp, Stk.aIt, Ssn.aSe, aSt])
  refine AWP.seq ?_
  refine AWP.region (fun _ => ?_)
  refine ARun.boxPe rfl rfl rfl rfl (Ev.plain rfl) rfl rfl optN ?_
  refine ARun.move (.inr rfl) rfl rfl rfl (Ev.plain rfl) optN ?_
  refine ARun.alloc (j := 0) hG rfl rfl rfl rfl rfl zv31 rfl optN ?_
  refine ⟨_, _, rfl, hG, ?_⟩
  refine thenA_n ?_
  refine AWP.seq ?_
  refine AWP.region (fun _ => ?_)
  refine ARun.move (.inr rfl) rfl rfl rfl (Ev.plain rfl) optN ?_
  refine ⟨_, _, rfl, hG, ?_⟩
  refine thenA_n ?_
  refine AWP.seq ?_
  refine AWP.region (fun _ => ?_)
  refine ARun.move (.inr rfl) rfl rfl rfl (Ev.plain rfl) optN ?_
  refine ⟨_, _, rfl, hG, ?_⟩
  refine thenA_n ?_
  refine AWP.seq ?_
  refine AWP.seq ?_
  refine AWP.region (fun _ => ?_)
  refine ARun.fieldPe rfl rfl rfl rfl Tryz.underlying25 rfl rfl sz3 (by decide) (Ev.plain rfl) rfl optN ?_
  refine ARun.loadPe rfl rfl rfl rfl Tryz.underlying3 rfl (Ev.plain rfl) rfl optN ?_
  refine ⟨_, _, rfl, hG, ?_⟩
  refine thenA_n ?_
  refine AWP.block ?_
  refine AWP.seq ?_
  refine AWP.region (fun _ => ?_)
  refine ARun.cmp rfl rfl rfl rfl (Ev.plain rfl) (Ev.plain rfl) rfl optN ?_
  refine ARun.move (.inr rfl) rfl rfl rfl (Ev.plain rfl) optN ?_
  refine ⟨_, _, rfl, hG, ?_⟩
  refine thenA_n ?_
  refine AWP.cond rfl (fun h0 => ?_) (fun h0 => ?_)
  · skip
    skip
    refine AWP.region (fun _ => ?_)
    refine ARun.move (.inl rfl) rfl rfl rfl (Ev.plain rfl) optN ?_
    refine ARun.fieldPe rfl rfl rfl rfl Tryz.underlying25 rfl rfl sz3 (by decide) (Ev.plain rfl) rfl optN ?_
    refine ARun.loadPe rfl rfl rfl rfl Tryz.underlying3 rfl (Ev.plain rfl) rfl optN ?_
    refine ARun.fieldPe rfl rfl rfl rfl Tryz.underlying25 rfl rfl sz3 (by decide) (Ev.plain rfl) rfl optN ?_
    refine ARun.loadPe rfl rfl rfl rfl Tryz.underlying3 rfl (Ev.plain rfl) rfl optN ?_
    refine ARun.call rfl rfl rfl rfl cf109 (Ev.plain rfl) (.cons (Ev.plain rfl) (.cons (Ev.plain rfl) (.cons (Ev.plain rfl) .nil))) rfl (fun hg => Stk.create_fn l c.item c.qty (by omega)) optN ?_
    refine ARun.move (.inl rfl) rfl rfl rfl (Ev.plain rfl) optN ?_
    refine ARun.extract rfl rfl rfl rfl (Ev.plain rfl) rfl optN ?_
    refine ARun.extract rfl rfl rfl rfl (Ev.plain rfl) rfl optN ?_
    refine ARun.move (.inr rfl) rfl rfl rfl (Ev.plain rfl) optN ?_
    refine ARun.move (.inr rfl) rfl rfl rfl (Ev.plain rfl) optN ?_
    refine ⟨_, _, rfl, hG, ?_⟩
    refine blockA_n ?_
    refine thenA_n ?_
    refine AWP.seq ?_
    refine AWP.seq ?_
    refine AWP.region (fun _ => ?_)
    refine ARun.move (.inl rfl) rfl rfl rfl (Ev.plain rfl) optN ?_
    refine ARun.cmp rfl rfl rfl rfl (Ev.plain rfl) (Ev.plain rfl) rfl optN ?_
    refine ⟨_, _, rfl, hG, ?_⟩
    refine thenA_n ?_
    refine AWP.cond rfl (fun h1 => ?_) (fun h1 => ?_)
    · skip
      simp at h1
      refine AWP.seq ?_
      refine AWP.region (fun _ => ?_)
      refine ARun.move (.inl rfl) rfl rfl rfl (Ev.plain rfl) optN ?_
      refine ARun.move (.inl rfl) rfl rfl rfl (Ev.plain rfl) optN ?_
      refine ARun.call rfl rfl rfl rfl cf27 (Ev.plain rfl) (.cons (Ev.plain rfl) (.cons (Ev.plain rfl) .nil)) rfl (fun hg => told_fn (Stk.createP l c.item c.qty).2 [] (by simp)) optN ?_
      refine ARun.move (.inr rfl) rfl rfl rfl (Ev.plain rfl) optN ?_
      refine ARun.storeL hG rfl rfl rfl sz31 (Ev.plain rfl) (Ev.plain rfl) rfl rfl rfl rfl rfl (Nat.le_of_ble_eq_true rfl) rfl rfl ?_
      refine ⟨_, _, rfl, hG, ?_⟩
      refine thenA_n ?_
      refine AWP.ret ?_
      refine thenA_r ?_
      refine endF.many (.inr rfl) (rs := [.tmp 4, .cell 5 31]) rfl (.cons (.tmp rfl) (.cons (.cellA rfl ((hG.at _ _).trans rfl) Tryz.underlying31 rfl sz31 rfl rfl) .nil)) (by simp) ?_ hN
      rw [oneR_n (one_1 hk) h1]; rfl
    · skip
      simp at h1
      refine AWP.skip ?_
      refine thenA_n ?_
      refine AWP.seq ?_
      refine AWP.region (fun _ => ?_)
      refine ARun.move (.inl rfl) rfl rfl rfl (Ev.plain rfl) optN ?_
      refine ARun.move (.inl rfl) rfl rfl rfl (Ev.plain rfl) optN ?_
      refine ARun.fieldPe rfl rfl rfl rfl Tryz.underlying25 rfl rfl sz3 (by decide) (Ev.plain rfl) rfl optN ?_
      refine ARun.loadPe rfl rfl rfl rfl Tryz.underlying3 rfl (Ev.plain rfl) rfl optN ?_
      refine ARun.call rfl rfl rfl rfl cf106 (Ev.plain rfl) (.cons (Ev.plain rfl) (.cons (Ev.plain rfl) .nil)) rfl (fun hg => toldS_fn (Stk.createP l c.item c.qty).1 c.item (by omega)) optN ?_
      refine ARun.move (.inr rfl) rfl rfl rfl (Ev.plain rfl) optN ?_
      refine ARun.storeL hG rfl rfl rfl sz31 (Ev.plain rfl) (Ev.plain rfl) rfl rfl rfl rfl rfl (Nat.le_of_ble_eq_true rfl) rfl rfl ?_
      refine ⟨_, _, rfl, hG, ?_⟩
      refine thenA_n ?_
      refine AWP.ret ?_
      refine endF.many (.inr rfl) (rs := [.tmp 4, .cell 5 31]) rfl (.cons (.tmp rfl) (.cons (.cellA rfl ((hG.at _ _).trans rfl) Tryz.underlying31 rfl sz31 rfl rfl) .nil)) (by simp) ?_ hN
      rw [oneR_y (one_1 hk) h1]; rfl
  · skip
    simp [hk] at h0
set_option maxHeartbeats 1000000 in
theorem one2_fn (l : Its) (c : Cl) (hl : l.length ≤ 100) (hk : c.kind = 2) : FnP Tryz.prog 71 [.sl (l.map Stk.aIt), aCl c] (.tup [.sl ((oneR l c).1.map Stk.aIt), aRp (oneR l c).2]) := by
  have hol := one_len l c.item c.qty
  refine FnP.of Tryz.func71 rfl rfl (by simp) (by simp [AV.cells, aIn, aOut, aLn, aCl, aRp, Stk.aIt, Ssn.aSe, aSt]) (fun G hG => ?_)
  have hN : NoH G.length (.tup [.sl ((oneR l c).1.map Stk.aIt), aRp (oneR l c).2]) := (by simp [AV.cells, aIn, aOut, aLn, aCl, aRp, Stk.aIt, Ssn.aSe, aSt])
  refine AWP.seq ?_
  refine AWP.region (fun _ => ?_)
  refine ARun.boxPe rfl rfl rfl rfl (Ev.plain rfl) rfl rfl optN ?_
  refine ARun.move (.inr rfl) rfl rfl rfl (Ev.plain rfl) optN ?_
  refine ARun.alloc (j := 0) hG rfl rfl rfl rfl rfl zv31 rfl optN ?_
  refine ⟨_, _, rfl, hG, ?_⟩
  refine thenA_n ?_
  refine AWP.seq ?_
  refine AWP.region (fun _ => ?_)
  refine ARun.move (.inr rfl) rfl rfl rfl (Ev.plain rfl) optN ?_
  refine ⟨_, _, rfl, hG, ?_⟩
  refine thenA_n ?_
  refine AWP.seq ?_
  refine AWP.region (fun _ => ?_)
  refine ARun.move (.inr rfl) rfl rfl rfl (Ev.plain rfl) optN ?_
  refine ⟨_, _, rfl, hG, ?_⟩
  refine thenA_n ?_
  refine AWP.seq ?_
  refine AWP.seq ?_
  refine AWP.region (fun _ => ?_)
  refine ARun.fieldPe rfl rfl rfl rfl Tryz.underlying25 rfl rfl sz3 (by decide) (Ev.plain rfl) rfl optN ?_
  refine ARun.loadPe rfl rfl rfl rfl Tryz.underlying3 rfl (Ev.plain rfl) rfl optN ?_
  refine ⟨_, _, rfl, hG, ?_⟩
  refine thenA_n ?_
  refine AWP.block ?_
  refine AWP.seq ?_
  refine AWP.region (fun _ => ?_)
  refine ARun.cmp rfl rfl rfl rfl (Ev.plain rfl) (Ev.plain rfl) rfl optN ?_
  refine ARun.move (.inr rfl) rfl rfl rfl (Ev.plain rfl) optN ?_
  refine ⟨_, _, rfl, hG, ?_⟩
  refine thenA_n ?_
  refine AWP.cond rfl (fun h0 => ?_) (fun h0 => ?_)
  · skip
    simp [hk] at h0
  · skip
    skip
    refine AWP.seq ?_
    refine AWP.region (fun _ => ?_)
    refine ARun.cmp rfl rfl rfl rfl (Ev.plain rfl) (Ev.plain rfl) rfl optN ?_
    refine ARun.move (.inr rfl) rfl rfl rfl (Ev.plain rfl) optN ?_
    refine ⟨_, _, rfl, hG, ?_⟩
    refine thenA_n ?_
    refine AWP.cond rfl (fun h1 => ?_) (fun h1 => ?_)
    · skip
      skip
      refine AWP.region (fun _ => ?_)
      refine ARun.move (.inl rfl) rfl rfl rfl (Ev.plain rfl) optN ?_
      refine ARun.fieldPe rfl rfl rfl rfl Tryz.underlying25 rfl rfl sz3 (by decide) (Ev.plain rfl) rfl optN ?_
      refine ARun.loadPe rfl rfl rfl rfl Tryz.underlying3 rfl (Ev.plain rfl) rfl optN ?_
      refine ARun.fieldPe rfl rfl rfl rfl Tryz.underlying25 rfl rfl sz3 (by decide) (Ev.plain rfl) rfl optN ?_
      refine ARun.loadPe rfl rfl rfl rfl Tryz.underlying3 rfl (Ev.plain rfl) rfl optN ?_
      refine ARun.call rfl rfl rfl rfl cf110 (Ev.plain rfl) (.cons (Ev.plain rfl) (.cons (Ev.plain rfl) (.cons (Ev.plain rfl) .nil))) rfl (fun hg => Stk.restock_fn l c.item c.qty (by omega)) optN ?_
      refine ARun.move (.inl rfl) rfl rfl rfl (Ev.plain rfl) optN ?_
      refine ARun.extract rfl rfl rfl rfl (Ev.plain rfl) rfl optN ?_
      refine ARun.extract rfl rfl rfl rfl (Ev.plain rfl) rfl optN ?_
      refine ARun.move (.inr rfl) rfl rfl rfl (Ev.plain rfl) optN ?_
      refine ARun.move (.inr rfl) rfl rfl rfl (Ev.plain rfl) optN ?_
      refine ⟨_, _, rfl, hG, ?_⟩
      refine blockA_n ?_
      refine thenA_n ?_
      refine AWP.seq ?_
      refine AWP.seq ?_
      refine AWP.region (fun _ => ?_)
      refine ARun.move (.inl rfl) rfl rfl rfl (Ev.plain rfl) optN ?_
      refine ARun.cmp rfl rfl rfl rfl (Ev.plain rfl) (Ev.plain rfl) rfl optN ?_
      refine ⟨_, _, rfl, hG, ?_⟩
      refine thenA_n ?_
      refine AWP.cond rfl (fun h2 => ?_) (fun h2 => ?_)
      · skip
        simp at h2
        refine AWP.seq ?_
        refine AWP.region (fun _ => ?_)
        refine ARun.move (.inl rfl) rfl rfl rfl (Ev.plain rfl) optN ?_
        refine ARun.move (.inl rfl) rfl rfl rfl (Ev.plain rfl) optN ?_
        refine ARun.call rfl rfl rfl rfl cf27 (Ev.plain rfl) (.cons (Ev.plain rfl) (.cons (Ev.plain rfl) .nil)) rfl (fun hg => told_fn (StockP.withP (StockP.inG c.qty) l c.item c.qty).2 [] (by simp)) optN ?_
        refine ARun.move (.inr rfl) rfl rfl rfl (Ev.plain rfl) optN ?_
        refine ARun.storeL hG rfl rfl rfl sz31 (Ev.plain rfl) (Ev.plain rfl) rfl rfl rfl rfl rfl (Nat.le_of_ble_eq_true rfl) rfl rfl ?_
        refine ⟨_, _, rfl, hG, ?_⟩
        refine thenA_n ?_
        refine AWP.ret ?_
        refine thenA_r ?_
        refine endF.many (.inr rfl) (rs := [.tmp 4, .cell 5 31]) rfl (.cons (.tmp rfl) (.cons (.cellA rfl ((hG.at _ _).trans rfl) Tryz.underlying31 rfl sz31 rfl rfl) .nil)) (by simp) ?_ hN
        rw [oneR_n (one_2 hk) h2]; rfl
      · skip
        simp at h2
        refine AWP.skip ?_
        refine thenA_n ?_
        refine AWP.seq ?_
        refine AWP.region (fun _ => ?_)
        refine ARun.move (.inl rfl) rfl rfl rfl (Ev.plain rfl) optN ?_
        refine ARun.move (.inl rfl) rfl rfl rfl (Ev.plain rfl) optN ?_
        refine ARun.fieldPe rfl rfl rfl rfl Tryz.underlying25 rfl rfl sz3 (by decide) (Ev.plain rfl) rfl optN ?_
        refine ARun.loadPe rfl rfl rfl rfl Tryz.underlying3 rfl (Ev.plain rfl) rfl optN ?_
        refine ARun.call rfl rfl rfl rfl cf106 (Ev.plain rfl) (.cons (Ev.plain rfl) (.cons (Ev.plain rfl) .nil)) rfl (fun hg => toldS_fn (StockP.withP (StockP.inG c.qty) l c.item c.qty).1 c.item (by omega)) optN ?_
        refine ARun.move (.inr rfl) rfl rfl rfl (Ev.plain rfl) optN ?_
        refine ARun.storeL hG rfl rfl rfl sz31 (Ev.plain rfl) (Ev.plain rfl) rfl rfl rfl rfl rfl (Nat.le_of_ble_eq_true rfl) rfl rfl ?_
        refine ⟨_, _, rfl, hG, ?_⟩
        refine thenA_n ?_
        refine AWP.ret ?_
        refine endF.many (.inr rfl) (rs := [.tmp 4, .cell 5 31]) rfl (.cons (.tmp rfl) (.cons (.cellA rfl ((hG.at _ _).trans rfl) Tryz.underlying31 rfl sz31 rfl rfl) .nil)) (by simp) ?_ hN
        rw [oneR_y (one_2 hk) h2]; rfl
    · skip
      simp [hk] at h1
set_option maxHeartbeats 1000000 in
theorem one3_fn (l : Its) (c : Cl) (hl : l.length ≤ 100) (hk : c.kind = 3) : FnP Tryz.prog 71 [.sl (l.map Stk.aIt), aCl c] (.tup [.sl ((oneR l c).1.map Stk.aIt), aRp (oneR l c).2]) := by
  have hol := one_len l c.item c.qty
  refine FnP.of Tryz.func71 rfl rfl (by simp) (by simp [AV.cells, aIn, aOut, aLn, aCl, aRp, Stk.aIt, Ssn.aSe, aSt]) (fun G hG => ?_)
  have hN : NoH G.length (.tup [.sl ((oneR l c).1.map Stk.aIt), aRp (oneR l c).2]) := (by simp [AV.cells, aIn, aOut, aLn, aCl, aRp, Stk.aIt, Ssn.aSe, aSt])
  refine AWP.seq ?_
  refine AWP.region (fun _ => ?_)
  refine ARun.boxPe rfl rfl rfl rfl (Ev.plain rfl) rfl rfl optN ?_
  refine ARun.move (.inr rfl) rfl rfl rfl (Ev.plain rfl) optN ?_
  refine ARun.alloc (j := 0) hG rfl rfl rfl rfl rfl zv31 rfl optN ?_
  refine ⟨_, _, rfl, hG, ?_⟩
  refine thenA_n ?_
  refine AWP.seq ?_
  refine AWP.region (fun _ => ?_)
  refine ARun.move (.inr rfl) rfl rfl rfl (Ev.plain rfl) optN ?_
  refine ⟨_, _, rfl, hG, ?_⟩
  refine thenA_n ?_
  refine AWP.seq ?_
  refine AWP.region (fun _ => ?_)
  refine ARun.move (.inr rfl) rfl rfl rfl (Ev.plain rfl) optN ?_
  refine ⟨_, _, rfl, hG, ?_⟩
  refine thenA_n ?_
  refine AWP.seq ?_
  refine AWP.seq ?_
  refine AWP.region (fun _ => ?_)
  refine ARun.fieldPe rfl rfl rfl rfl Tryz.underlying25 rfl rfl sz3 (by decide) (Ev.plain rfl) rfl optN ?_
  refine ARun.loadPe rfl rfl rfl rfl Tryz.underlying3 rfl (Ev.plain rfl) rfl optN ?_
  refine ⟨_, _, rfl, hG, ?_⟩
  refine thenA_n ?_
  refine AWP.block ?_
  refine AWP.seq ?_
  refine AWP.region (fun _ => ?_)
  refine ARun.cmp rfl rfl rfl rfl (Ev.plain rfl) (Ev.plain rfl) rfl optN ?_
  refine ARun.move (.inr rfl) rfl rfl rfl (Ev.plain rfl) optN ?_
  refine ⟨_, _, rfl, hG, ?_⟩
  refine thenA_n ?_
  refine AWP.cond rfl (fun h0 => ?_) (fun h0 => ?_)
  · skip
    simp [hk] at h0
  · skip
    skip
    refine AWP.seq ?_
    refine AWP.region (fun _ => ?_)
    refine ARun.cmp rfl rfl rfl rfl (Ev.plain rfl) (Ev.plain rfl) rfl optN ?_
    refine ARun.move (.inr rfl) rfl rfl rfl (Ev.plain rfl) optN ?_
    refine ⟨_, _, rfl, hG, ?_⟩
    refine thenA_n ?_
    refine AWP.cond rfl (fun h1 => ?_) (fun h1 => ?_)
    · skip
      simp [hk] at h1
    · skip
      skip
      refine AWP.seq ?_
      refine AWP.region (fun _ => ?_)
      refine ARun.cmp rfl rfl rfl rfl (Ev.plain rfl) (Ev.plain rfl) rfl optN ?_
      refine ARun.move (.inr rfl) rfl rfl rfl (Ev.plain rfl) optN ?_
      refine ⟨_, _, rfl, hG, ?_⟩
      refine thenA_n ?_
      refine AWP.cond rfl (fun h2 => ?_) (fun h2 => ?_)
      · skip
        skip
        refine AWP.region (fun _ => ?_)
        refine ARun.move (.inl rfl) rfl rfl rfl (Ev.plain rfl) optN ?_
        refine ARun.fieldPe rfl rfl rfl rfl Tryz.underlying25 rfl rfl sz3 (by decide) (Ev.plain rfl) rfl optN ?_
        refine ARun.loadPe rfl rfl rfl rfl Tryz.underlying3 rfl (Ev.plain rfl) rfl optN ?_
        refine ARun.fieldPe rfl rfl rfl rfl Tryz.underlying25 rfl rfl sz3 (by decide) (Ev.plain rfl) rfl optN ?_
        refine ARun.loadPe rfl rfl rfl rfl Tryz.underlying3 rfl (Ev.plain rfl) rfl optN ?_
        refine ARun.call rfl rfl rfl rfl cf111 (Ev.plain rfl) (.cons (Ev.plain rfl) (.cons (Ev.plain rfl) (.cons (Ev.plain rfl) .nil))) rfl (fun hg => Stk.reserve_fn l c.item c.qty (by omega)) optN ?_
        refine ARun.move (.inl rfl) rfl rfl rfl (Ev.plain rfl) optN ?_
        refine ARun.extract rfl rfl rfl rfl (Ev.plain rfl) rfl optN ?_
        refine ARun.extract rfl rfl rfl rfl (Ev.plain rfl) rfl optN ?_
        refine ARun.move (.inr rfl) rfl rfl rfl (Ev.plain rfl) optN ?_
        refine ARun.move (.inr rfl) rfl rfl rfl (Ev.plain rfl) optN ?_
        refine ⟨_, _, rfl, hG, ?_⟩
        refine blockA_n ?_
        refine thenA_n ?_
        refine AWP.seq ?_
        refine AWP.seq ?_
        refine AWP.region (fun _ => ?_)
        refine ARun.move (.inl rfl) rfl rfl rfl (Ev.plain rfl) optN ?_
        refine ARun.cmp rfl rfl rfl rfl (Ev.plain rfl) (Ev.plain rfl) rfl optN ?_
        refine ⟨_, _, rfl, hG, ?_⟩
        refine thenA_n ?_
        refine AWP.cond rfl (fun h3 => ?_) (fun h3 => ?_)
        · skip
          simp at h3
          refine AWP.seq ?_
          refine AWP.region (fun _ => ?_)
          refine ARun.move (.inl rfl) rfl rfl rfl (Ev.plain rfl) optN ?_
          refine ARun.move (.inl rfl) rfl rfl rfl (Ev.plain rfl) optN ?_
          refine ARun.call rfl rfl rfl rfl cf27 (Ev.plain rfl) (.cons (Ev.plain rfl) (.cons (Ev.plain rfl) .nil)) rfl (fun hg => told_fn (StockP.withP (StockP.holdG c.qty) l c.item c.qty).2 [] (by simp)) optN ?_
          refine ARun.move (.inr rfl) rfl rfl rfl (Ev.plain rfl) optN ?_
          refine ARun.storeL hG rfl rfl rfl sz31 (Ev.plain rfl) (Ev.plain rfl) rfl rfl rfl rfl rfl (Nat.le_of_ble_eq_true rfl) rfl rfl ?_
          refine ⟨_, _, rfl, hG, ?_⟩
          refine thenA_n ?_
          refine AWP.ret ?_
          refine thenA_r ?_
          refine endF.many (.inr rfl) (rs := [.tmp 4, .cell 5 31]) rfl (.cons (.tmp rfl) (.cons (.cellA rfl ((hG.at _ _).trans rfl) Tryz.underlying31 rfl sz31 rfl rfl) .nil)) (by simp) ?_ hN
          rw [oneR_n (one_3 hk) h3]; rfl
        · skip
          simp at h3
          refine AWP.skip ?_
          refine thenA_n ?_
          refine AWP.seq ?_
          refine AWP.region (fun _ => ?_)
          refine ARun.move (.inl rfl) rfl rfl rfl (Ev.plain rfl) optN ?_
          refine ARun.move (.inl rfl) rfl rfl rfl (Ev.plain rfl) optN ?_
          refine ARun.fieldPe rfl rfl rfl rfl Tryz.underlying25 rfl rfl sz3 (by decide) (Ev.plain rfl) rfl optN ?_
          refine ARun.loadPe rfl rfl rfl rfl Tryz.underlying3 rfl (Ev.plain rfl) rfl optN ?_
          refine ARun.call rfl rfl rfl rfl cf106 (Ev.plain rfl) (.cons (Ev.plain rfl) (.cons (Ev.plain rfl) .nil)) rfl (fun hg => toldS_fn (StockP.withP (StockP.holdG c.qty) l c.item c.qty).1 c.item (by omega)) optN ?_
          refine ARun.move (.inr rfl) rfl rfl rfl (Ev.plain rfl) optN ?_
          refine ARun.storeL hG rfl rfl rfl sz31 (Ev.plain rfl) (Ev.plain rfl) rfl rfl rfl rfl rfl (Nat.le_of_ble_eq_true rfl) rfl rfl ?_
          refine ⟨_, _, rfl, hG, ?_⟩
          refine thenA_n ?_
          refine AWP.ret ?_
          refine endF.many (.inr rfl) (rs := [.tmp 4, .cell 5 31]) rfl (.cons (.tmp rfl) (.cons (.cellA rfl ((hG.at _ _).trans rfl) Tryz.underlying31 rfl sz31 rfl rfl) .nil)) (by simp) ?_ hN
          rw [oneR_y (one_3 hk) h3]; rfl
      · skip
        simp [hk] at h2
set_option maxHeartbeats 1000000 in
theorem one4_fn (l : Its) (c : Cl) (hl : l.length ≤ 100) (hk : c.kind = 4) : FnP Tryz.prog 71 [.sl (l.map Stk.aIt), aCl c] (.tup [.sl ((oneR l c).1.map Stk.aIt), aRp (oneR l c).2]) := by
  have hol := one_len l c.item c.qty
  refine FnP.of Tryz.func71 rfl rfl (by simp) (by simp [AV.cells, aIn, aOut, aLn, aCl, aRp, Stk.aIt, Ssn.aSe, aSt]) (fun G hG => ?_)
  have hN : NoH G.length (.tup [.sl ((oneR l c).1.map Stk.aIt), aRp (oneR l c).2]) := (by simp [AV.cells, aIn, aOut, aLn, aCl, aRp, Stk.aIt, Ssn.aSe, aSt])
  refine AWP.seq ?_
  refine AWP.region (fun _ => ?_)
  refine ARun.boxPe rfl rfl rfl rfl (Ev.plain rfl) rfl rfl optN ?_
  refine ARun.move (.inr rfl) rfl rfl rfl (Ev.plain rfl) optN ?_
  refine ARun.alloc (j := 0) hG rfl rfl rfl rfl rfl zv31 rfl optN ?_
  refine ⟨_, _, rfl, hG, ?_⟩
  refine thenA_n ?_
  refine AWP.seq ?_
  refine AWP.region (fun _ => ?_)
  refine ARun.move (.inr rfl) rfl rfl rfl (Ev.plain rfl) optN ?_
  refine ⟨_, _, rfl, hG, ?_⟩
  refine thenA_n ?_
  refine AWP.seq ?_
  refine AWP.region (fun _ => ?_)
  refine ARun.move (.inr rfl) rfl rfl rfl (Ev.plain rfl) optN ?_
  refine ⟨_, _, rfl, hG, ?_⟩
  refine thenA_n ?_
  refine AWP.seq ?_
  refine AWP.seq ?_
  refine AWP.region (fun _ => ?_)
  refine ARun.fieldPe rfl rfl rfl rfl Tryz.underlying25 rfl rfl sz3 (by decide) (Ev.plain rfl) rfl optN ?_
  refine ARun.loadPe rfl rfl rfl rfl Tryz.underlying3 rfl (Ev.plain rfl) rfl optN ?_
  refine ⟨_, _, rfl, hG, ?_⟩
  refine thenA_n ?_
  refine AWP.block ?_
  refine AWP.seq ?_
  refine AWP.region (fun _ => ?_)
  refine ARun.cmp rfl rfl rfl rfl (Ev.plain rfl) (Ev.plain rfl) rfl optN ?_
  refine ARun.move (.inr rfl) rfl rfl rfl (Ev.plain rfl) optN ?_
  refine ⟨_, _, rfl, hG, ?_⟩
  refine thenA_n ?_
  refine AWP.cond rfl (fun h0 => ?_) (fun h0 => ?_)
  · skip
    simp [hk] at h0
  · skip
    skip
    refine AWP.seq ?_
    refine AWP.region (fun _ => ?_)
    refine ARun.cmp rfl rfl rfl rfl (Ev.plain rfl) (Ev.plain rfl) rfl optN ?_
    refine ARun.move (.inr rfl) rfl rfl rfl (Ev.plain rfl) optN ?_
    refine ⟨_, _, rfl, hG, ?_⟩
    refine thenA_n ?_
    refine AWP.cond rfl (fun h1 => ?_) (fun h1 => ?_)
    · skip
      simp [hk] at h1
    · skip
      skip
      refine AWP.seq ?_
      refine AWP.region (fun _ => ?_)
      refine ARun.cmp rfl rfl rfl rfl (Ev.plain rfl) (Ev.plain rfl) rfl optN ?_
      refine ARun.move (.inr rfl) rfl rfl rfl (Ev.plain rfl) optN ?_
      refine ⟨_, _, rfl, hG, ?_⟩
      refine thenA_n ?_
      refine AWP.cond rfl (fun h2 => ?_) (fun h2 => ?_)
      · skip
        simp [hk] at h2
      · skip
        skip
        refine AWP.seq ?_
        refine AWP.region (fun _ => ?_)
        refine ARun.cmp rfl rfl rfl rfl (Ev.plain rfl) (Ev.plain rfl) rfl optN ?_
        refine ARun.move (.inr rfl) rfl rfl rfl (Ev.plain rfl) optN ?_
        refine ⟨_, _, rfl, hG, ?_⟩
        refine thenA_n ?_
        refine AWP.cond rfl (fun h3 => ?_) (fun h3 => ?_)
        · skip
          skip
          refine AWP.region (fun _ => ?_)
          refine ARun.move (.inl rfl) rfl rfl rfl (Ev.plain rfl) optN ?_
          refine ARun.fieldPe rfl rfl rfl rfl Tryz.underlying25 rfl rfl sz3 (by decide) (Ev.plain rfl) rfl optN ?_
          refine ARun.loadPe rfl rfl rfl rfl Tryz.underlying3 rfl (Ev.plain rfl) rfl optN ?_
          refine ARun.fieldPe rfl rfl rfl rfl Tryz.underlying25 rfl rfl sz3 (by decide) (Ev.plain rfl) rfl optN ?_
          refine ARun.loadPe rfl rfl rfl rfl Tryz.underlying3 rfl (Ev.plain rfl) rfl optN ?_
          refine ARun.call rfl rfl rfl rfl cf112 (Ev.plain rfl) (.cons (Ev.plain rfl) (.cons (Ev.plain rfl) (.cons (Ev.plain rfl) .nil))) rfl (fun hg => Stk.release_fn l c.item c.qty (by omega)) optN ?_
          refine ARun.move (.inl rfl) rfl rfl rfl (Ev.plain rfl) optN ?_
          refine ARun.extract rfl rfl rfl rfl (Ev.plain rfl) rfl optN ?_
          refine ARun.extract rfl rfl rfl rfl (Ev.plain rfl) rfl optN ?_
          refine ARun.move (.inr rfl) rfl rfl rfl (Ev.plain rfl) optN ?_
          refine ARun.move (.inr rfl) rfl rfl rfl (Ev.plain rfl) optN ?_
          refine ⟨_, _, rfl, hG, ?_⟩
          refine blockA_n ?_
          refine thenA_n ?_
          refine AWP.seq ?_
          refine AWP.seq ?_
          refine AWP.region (fun _ => ?_)
          refine ARun.move (.inl rfl) rfl rfl rfl (Ev.plain rfl) optN ?_
          refine ARun.cmp rfl rfl rfl rfl (Ev.plain rfl) (Ev.plain rfl) rfl optN ?_
          refine ⟨_, _, rfl, hG, ?_⟩
          refine thenA_n ?_
          refine AWP.cond rfl (fun h4 => ?_) (fun h4 => ?_)
          · skip
            simp at h4
            refine AWP.seq ?_
            refine AWP.region (fun _ => ?_)
            refine ARun.move (.inl rfl) rfl rfl rfl (Ev.plain rfl) optN ?_
            refine ARun.move (.inl rfl) rfl rfl rfl (Ev.plain rfl) optN ?_
            refine ARun.call rfl rfl rfl rfl cf27 (Ev.plain rfl) (.cons (Ev.plain rfl) (.cons (Ev.plain rfl) .nil)) rfl (fun hg => told_fn (StockP.withP (StockP.freeG c.qty) l c.item c.qty).2 [] (by simp)) optN ?_
            refine ARun.move (.inr rfl) rfl rfl rfl (Ev.plain rfl) optN ?_
            refine ARun.storeL hG rfl rfl rfl sz31 (Ev.plain rfl) (Ev.plain rfl) rfl rfl rfl rfl rfl (Nat.le_of_ble_eq_true rfl) rfl rfl ?_
            refine ⟨_, _, rfl, hG, ?_⟩
            refine thenA_n ?_
            refine AWP.ret ?_
            refine thenA_r ?_
            refine endF.many (.inr rfl) (rs := [.tmp 4, .cell 5 31]) rfl (.cons (.tmp rfl) (.cons (.cellA rfl ((hG.at _ _).trans rfl) Tryz.underlying31 rfl sz31 rfl rfl) .nil)) (by simp) ?_ hN
            rw [oneR_n (one_4 hk) h4]; rfl
          · skip
            simp at h4
            refine AWP.skip ?_
            refine thenA_n ?_
            refine AWP.seq ?_
            refine AWP.region (fun _ => ?_)
            refine ARun.move (.inl rfl) rfl rfl rfl (Ev.plain rfl) optN ?_
            refine ARun.move (.inl rfl) rfl rfl rfl (Ev.plain rfl) optN ?_
            refine ARun.fieldPe rfl rfl rfl rfl Tryz.underlying25 rfl rfl sz3 (by decide) (Ev.plain rfl) rfl optN ?_
            refine ARun.loadPe rfl rfl rfl rfl Tryz.underlying3 rfl (Ev.plain rfl) rfl optN ?_
            refine ARun.call rfl rfl rfl rfl cf106 (Ev.plain rfl) (.cons (Ev.plain rfl) (.cons (Ev.plain rfl) .nil)) rfl (fun hg => toldS_fn (StockP.withP (StockP.freeG c.qty) l c.item c.qty).1 c.item (by omega)) optN ?_
            refine ARun.move (.inr rfl) rfl rfl rfl (Ev.plain rfl) optN ?_
            refine ARun.storeL hG rfl rfl rfl sz31 (Ev.plain rfl) (Ev.plain rfl) rfl rfl rfl rfl rfl (Nat.le_of_ble_eq_true rfl) rfl rfl ?_
            refine ⟨_, _, rfl, hG, ?_⟩
            refine thenA_n ?_
            refine AWP.ret ?_
            refine endF.many (.inr rfl) (rs := [.tmp 4, .cell 5 31]) rfl (.cons (.tmp rfl) (.cons (.cellA rfl ((hG.at _ _).trans rfl) Tryz.underlying31 rfl sz31 rfl rfl) .nil)) (by simp) ?_ hN
            rw [oneR_y (one_4 hk) h4]; rfl
        · skip
          simp [hk] at h3
set_option maxHeartbeats 1000000 in
theorem one5_fn (l : Its) (c : Cl) (hl : l.length ≤ 100) (hk : c.kind = 5) : FnP Tryz.prog 71 [.sl (l.map Stk.aIt), aCl c] (.tup [.sl ((oneR l c).1.map Stk.aIt), aRp (oneR l c).2]) := by
  have hol := one_len l c.item c.qty
  refine FnP.of Tryz.func71 rfl rfl (by simp) (by simp [AV.cells, aIn, aOut, aLn, aCl, aRp, Stk.aIt, Ssn.aSe, aSt]) (fun G hG => ?_)
  have hN : NoH G.length (.tup [.sl ((oneR l c).1.map Stk.aIt), aRp (oneR l c).2]) := (by simp [AV.cells, aIn, aOut, aLn, aCl, aRp, Stk.aIt, Ssn.aSe, aSt])
  refine AWP.seq ?_
  refine AWP.region (fun _ => ?_)
  refine ARun.boxPe rfl rfl rfl rfl (Ev.plain rfl) rfl rfl optN ?_
  refine ARun.move (.inr rfl) rfl rfl rfl (Ev.plain rfl) optN ?_
  refine ARun.alloc (j := 0) hG rfl rfl rfl rfl rfl zv31 rfl optN ?_
  refine ⟨_, _, rfl, hG, ?_⟩
  refine thenA_n ?_
  refine AWP.seq ?_
  refine AWP.region (fun _ => ?_)
  refine ARun.move (.inr rfl) rfl rfl rfl (Ev.plain rfl) optN ?_
  refine ⟨_, _, rfl, hG, ?_⟩
  refine thenA_n ?_
  refine AWP.seq ?_
  refine AWP.region (fun _ => ?_)
  refine ARun.move (.inr rfl) rfl rfl rfl (Ev.plain rfl) optN ?_
  refine ⟨_, _, rfl, hG, ?_⟩
  refine thenA_n ?_
  refine AWP.seq ?_
  refine AWP.seq ?_
  refine AWP.region (fun _ => ?_)
  refine ARun.fieldPe rfl rfl rfl rfl Tryz.underlying25 rfl rfl sz3 (by decide) (Ev.plain rfl) rfl optN ?_
  refine ARun.loadPe rfl rfl rfl rfl Tryz.underlying3 rfl (Ev.plain rfl) rfl optN ?_
  refine ⟨_, _, rfl, hG, ?_⟩
  refine thenA_n ?_
  refine AWP.block ?_
  refine AWP.seq ?_
  refine AWP.region (fun _ => ?_)
  refine ARun.cmp rfl rfl rfl rfl (Ev.plain rfl) (Ev.plain rfl) rfl optN ?_
  refine ARun.move (.inr rfl) rfl rfl rfl (Ev.plain rfl) optN ?_
  refine ⟨_, _, rfl, hG, ?_⟩
  refine thenA_n ?_
  refine AWP.cond rfl (fun h0 => ?_) (fun h0 => ?_)
  · skip
    simp [hk] at h0
  · skip
    skip
    refine AWP.seq ?_
    refine AWP.region (fun _ => ?_)
    refine ARun.cmp rfl rfl rfl rfl (Ev.plain rfl) (Ev.plain rfl) rfl optN ?_
    refine ARun.move (.inr rfl) rfl rfl rfl (Ev.plain rfl) optN ?_
    refine ⟨_, _, rfl, hG, ?_⟩
    refine thenA_n ?_
    refine AWP.cond rfl (fun h1 => ?_) (fun h1 => ?_)
    · skip
      simp [hk] at h1
    · skip
      skip
      refine AWP.seq ?_
      refine AWP.region (fun _ => ?_)
      refine ARun.cmp rfl rfl rfl rfl (Ev.plain rfl) (Ev.plain rfl) rfl optN ?_
      refine ARun.move (.inr rfl) rfl rfl rfl (Ev.plain rfl) optN ?_
      refine ⟨_, _, rfl, hG, ?_⟩
      refine thenA_n ?_
      refine AWP.cond rfl (fun h2 => ?_) (fun h2 => ?_)
      · skip
        simp [hk] at h2
      · skip
        skip
        refine AWP.seq ?_
        refine AWP.region (fun _ => ?_)
        refine ARun.cmp rfl rfl rfl rfl (Ev.plain rfl) (Ev.plain rfl) rfl optN ?_
        refine ARun.move (.inr rfl) rfl rfl rfl (Ev.plain rfl) optN ?_
        refine ⟨_, _, rfl, hG, ?_⟩
        refine thenA_n ?_
        refine AWP.cond rfl (fun h3 => ?_) (fun h3 => ?_)
        · skip
          simp [hk] at h3
        · skip
          skip
          refine AWP.region (fun _ => ?_)
          refine ARun.move (.inl rfl) rfl rfl rfl (Ev.plain rfl) optN ?_
          refine ARun.fieldPe rfl rfl rfl rfl Tryz.underlying25 rfl rfl sz3 (by decide) (Ev.plain rfl) rfl optN ?_
          refine ARun.loadPe rfl rfl rfl rfl Tryz.underlying3 rfl (Ev.plain rfl) rfl optN ?_
          refine ARun.fieldPe rfl rfl rfl rfl Tryz.underlying25 rfl rfl sz3 (by decide) (Ev.plain rfl) rfl optN ?_
          refine ARun.loadPe rfl rfl rfl rfl Tryz.underlying3 rfl (Ev.plain rfl) rfl optN ?_
          refine ARun.call rfl rfl rfl rfl cf113 (Ev.plain rfl) (.cons (Ev.plain rfl) (.cons (Ev.plain rfl) (.cons (Ev.plain rfl) .nil))) rfl (fun hg => Stk.ship_fn l c.item c.qty (by omega)) optN ?_
          refine ARun.move (.inl rfl) rfl rfl rfl (Ev.plain rfl) optN ?_
          refine ARun.extract rfl rfl rfl rfl (Ev.plain rfl) rfl optN ?_
          refine ARun.extract rfl rfl rfl rfl (Ev.plain rfl) rfl optN ?_
          refine ARun.move (.inr rfl) rfl rfl rfl (Ev.plain rfl) optN ?_
          refine ARun.move (.inr rfl) rfl rfl rfl (Ev.plain rfl) optN ?_
          refine ⟨_, _, rfl, hG, ?_⟩
          refine blockA_n ?_
          refine thenA_n ?_
          refine AWP.seq ?_
          refine AWP.seq ?_
          refine AWP.region (fun _ => ?_)
          refine ARun.move (.inl rfl) rfl rfl rfl (Ev.plain rfl) optN ?_
          refine ARun.cmp rfl rfl rfl rfl (Ev.plain rfl) (Ev.plain rfl) rfl optN ?_
          refine ⟨_, _, rfl, hG, ?_⟩
          refine thenA_n ?_
          refine AWP.cond rfl (fun h4 => ?_) (fun h4 => ?_)
          · skip
            simp at h4
            refine AWP.seq ?_
            refine AWP.region (fun _ => ?_)
            refine ARun.move (.inl rfl) rfl rfl rfl (Ev.plain rfl) optN ?_
            refine ARun.move (.inl rfl) rfl rfl rfl (Ev.plain rfl) optN ?_
            refine ARun.call rfl rfl rfl rfl cf27 (Ev.plain rfl) (.cons (Ev.plain rfl) (.cons (Ev.plain rfl) .nil)) rfl (fun hg => told_fn (StockP.withP (StockP.shipG c.qty) l c.item c.qty).2 [] (by simp)) optN ?_
            refine ARun.move (.inr rfl) rfl rfl rfl (Ev.plain rfl) optN ?_
            refine ARun.storeL hG rfl rfl rfl sz31 (Ev.plain rfl) (Ev.plain rfl) rfl rfl rfl rfl rfl (Nat.le_of_ble_eq_true rfl) rfl rfl ?_
            refine ⟨_, _, rfl, hG, ?_⟩
            refine thenA_n ?_
            refine AWP.ret ?_
            refine thenA_r ?_
            refine endF.many (.inr rfl) (rs := [.tmp 4, .cell 5 31]) rfl (.cons (.tmp rfl) (.cons (.cellA rfl ((hG.at _ _).trans rfl) Tryz.underlying31 rfl sz31 rfl rfl) .nil)) (by simp) ?_ hN
            rw [oneR_n (one_5 hk) h4]; rfl
          · skip
            simp at h4
            refine AWP.skip ?_
            refine thenA_n ?_
            refine AWP.seq ?_
            refine AWP.region (fun _ => ?_)
            refine ARun.move (.inl rfl) rfl rfl rfl (Ev.plain rfl) optN ?_
            refine ARun.move (.inl rfl) rfl rfl rfl (Ev.plain rfl) optN ?_
            refine ARun.fieldPe rfl rfl rfl rfl Tryz.underlying25 rfl rfl sz3 (by decide) (Ev.plain rfl) rfl optN ?_
            refine ARun.loadPe rfl rfl rfl rfl Tryz.underlying3 rfl (Ev.plain rfl) rfl optN ?_
            refine ARun.call rfl rfl rfl rfl cf106 (Ev.plain rfl) (.cons (Ev.plain rfl) (.cons (Ev.plain rfl) .nil)) rfl (fun hg => toldS_fn (StockP.withP (StockP.shipG c.qty) l c.item c.qty).1 c.item (by omega)) optN ?_
            refine ARun.move (.inr rfl) rfl rfl rfl (Ev.plain rfl) optN ?_
            refine ARun.storeL hG rfl rfl rfl sz31 (Ev.plain rfl) (Ev.plain rfl) rfl rfl rfl rfl rfl (Nat.le_of_ble_eq_true rfl) rfl rfl ?_
            refine ⟨_, _, rfl, hG, ?_⟩
            refine thenA_n ?_
            refine AWP.ret ?_
            refine endF.many (.inr rfl) (rs := [.tmp 4, .cell 5 31]) rfl (.cons (.tmp rfl) (.cons (.cellA rfl ((hG.at _ _).trans rfl) Tryz.underlying31 rfl sz31 rfl rfl) .nil)) (by simp) ?_ hN
            rw [oneR_y (one_5 hk) h4]; rfl
theorem one_fn (l : Its) (c : Cl) (hl : l.length ≤ 100) (hk : 1 ≤ c.kind ∧ c.kind ≤ 5) : FnP Tryz.prog 71 [.sl (l.map Stk.aIt), aCl c] (.tup [.sl ((oneR l c).1.map Stk.aIt), aRp (oneR l c).2]) := by
  rcases (show c.kind = 1 ∨ c.kind = 2 ∨ c.kind = 3 ∨ c.kind = 4 ∨ c.kind = 5 by omega) with h | h | h | h | h
  · exact one1_fn l c hl h
  · exact one2_fn l c hl h
  · exact one3_fn l c hl h
  · exact one4_fn l c hl h
  · exact one5_fn l c hl h
set_option maxHeartbeats 1000000 in
theorem moveS_fn (l : Its) (c : Cl) (hl : l.length ≤ 100) : FnP Tryz.prog 68 [.sl (l.map Stk.aIt), aCl c] (.tup [.sl ((moveR l c).1.map Stk.aIt), aRp (moveR l c).2]) := by
  have hml : (mvP l c).1.length ≤ l.length := Stk.move_len l c.item c.to_ c.qty
  refine FnP.of Tryz.func68 rfl rfl (by simp) (by simp [AV.cells, aIn, aOut, aLn, aCl, aRp, Stk.aIt, Ssn.aSe, aSt]) (fun G hG => ?_)
  have hN : NoH G.length (.tup [.sl ((moveR l c).1.map Stk.aIt), aRp (moveR l c).2]) := (by simp [AV.cells, aIn, aOut, aLn, aCl, aRp, Stk.aIt, Ssn.aSe, aSt])
  refine AWP.seq ?_
  refine AWP.region (fun _ => ?_)
  refine ARun.boxPe rfl rfl rfl rfl (Ev.plain rfl) rfl rfl optN ?_
  refine ARun.move (.inr rfl) rfl rfl rfl (Ev.plain rfl) optN ?_
  refine ARun.alloc (j := 0) hG rfl rfl rfl rfl rfl zv31 rfl optN ?_
  refine ⟨_, _, rfl, hG, ?_⟩
  refine thenA_n ?_
  refine AWP.seq ?_
  refine AWP.region (fun _ => ?_)
  refine ARun.move (.inl rfl) rfl rfl rfl (Ev.plain rfl) optN ?_
  refine ARun.fieldPe rfl rfl rfl rfl Tryz.underlying25 rfl rfl sz3 (by decide) (Ev.plain rfl) rfl optN ?_
  refine ARun.loadPe rfl rfl rfl rfl Tryz.underlying3 rfl (Ev.plain rfl) rfl optN ?_
  refine ARun.fieldPe rfl rfl rfl rfl Tryz.underlying25 rfl rfl sz3 (by decide) (Ev.plain rfl) rfl optN ?_
  refine ARun.loadPe rfl rfl rfl rfl Tryz.underlying3 rfl (Ev.plain rfl) rfl optN ?_
  refine ARun.fieldPe rfl rfl rfl rfl Tryz.underlying25 rfl rfl sz3 (by decide) (Ev.plain rfl) rfl optN ?_
  refine ARun.loadPe rfl rfl rfl rfl Tryz.underlying3 rfl (Ev.plain rfl) rfl optN ?_
  refine ARun.call rfl rfl rfl rfl cf104 (Ev.plain rfl) (.cons (Ev.plain rfl) (.cons (Ev.plain rfl) (.cons (Ev.plain rfl) (.cons (Ev.plain rfl) .nil)))) rfl (fun hg => Stk.move_fn l c.item c.to_ c.qty (by omega)) optN ?_
  refine ARun.move (.inl rfl) rfl rfl rfl (Ev.plain rfl) optN ?_
  refine ARun.extract rfl rfl rfl rfl (Ev.plain rfl) rfl optN ?_
  refine ARun.extract rfl rfl rfl rfl (Ev.plain rfl) rfl optN ?_
  refine ARun.move (.inr rfl) rfl rfl rfl (Ev.plain rfl) optN ?_
  refine ARun.move (.inr rfl) rfl rfl rfl (Ev.plain rfl) optN ?_
  refine ⟨_, _, rfl, hG, ?_⟩
  refine thenA_n ?_
  refine AWP.seq ?_
  refine AWP.seq ?_
  refine AWP.region (fun _ => ?_)
  refine ARun.move (.inl rfl) rfl rfl rfl (Ev.plain rfl) optN ?_
  refine ARun.cmp rfl rfl rfl rfl (Ev.plain rfl) (Ev.plain rfl) rfl optN ?_
  refine ⟨_, _, rfl, hG, ?_⟩
  refine thenA_n ?_
  refine AWP.cond rfl (fun h0 => ?_) (fun h0 => ?_)
  · skip
    simp at h0
    refine AWP.seq ?_
    refine AWP.region (fun _ => ?_)
    refine ARun.move (.inl rfl) rfl rfl rfl (Ev.plain rfl) optN ?_
    refine ARun.move (.inl rfl) rfl rfl rfl (Ev.plain rfl) optN ?_
    refine ARun.call rfl rfl rfl rfl cf27 (Ev.plain rfl) (.cons (Ev.plain rfl) (.cons (Ev.plain rfl) .nil)) rfl (fun hg => told_fn (mvP l c).2 [] (by simp)) optN ?_
    refine ARun.move (.inr rfl) rfl rfl rfl (Ev.plain rfl) optN ?_
    refine ARun.storeL hG rfl rfl rfl sz31 (Ev.plain rfl) (Ev.plain rfl) rfl rfl rfl rfl rfl (Nat.le_of_ble_eq_true rfl) rfl rfl ?_
    refine ⟨_, _, rfl, hG, ?_⟩
    refine thenA_n ?_
    refine AWP.ret ?_
    refine thenA_r ?_
    refine endF.many (.inr rfl) (rs := [.tmp 4, .cell 5 31]) rfl (.cons (.tmp rfl) (.cons (.cellA rfl ((hG.at _ _).trans rfl) Tryz.underlying31 rfl sz31 rfl rfl) .nil)) (by simp) ?_ hN
    rw [moveR, if_neg h0]; rfl
  · skip
    simp at h0
    refine AWP.skip ?_
    refine thenA_n ?_
    refine AWP.seq ?_
    refine AWP.region (fun _ => ?_)
    refine ARun.move (.inl rfl) rfl rfl rfl (Ev.plain rfl) optN ?_
    refine ARun.fieldPe rfl rfl rfl rfl Tryz.underlying25 rfl rfl sz3 (by decide) (Ev.plain rfl) rfl optN ?_
    refine ARun.loadPe rfl rfl rfl rfl Tryz.underlying3 rfl (Ev.plain rfl) rfl optN ?_
    refine ARun.call rfl rfl rfl rfl cf105 (Ev.plain rfl) (.cons (Ev.plain rfl) (.cons (Ev.plain rfl) .nil)) rfl (fun hg => Stk.find_fn (mvP l c).1 c.item (by omega)) optN ?_
    refine ARun.move (.inl rfl) rfl rfl rfl (Ev.plain rfl) optN ?_
    refine ARun.extract rfl rfl rfl rfl (Ev.plain rfl) rfl optN ?_
    refine ARun.extract rfl rfl rfl rfl (Ev.plain rfl) rfl optN ?_
    refine ARun.alloc (j := 1) hG rfl rfl rfl rfl rfl zv64 rfl optN ?_
    refine ARun.storeL hG rfl rfl rfl sz64 (Ev.plain rfl) (Ev.plain rfl) rfl rfl rfl rfl rfl (Nat.le_of_ble_eq_true rfl) rfl rfl ?_
    refine ARun.move (.inr rfl) rfl rfl rfl (Ev.plain rfl) optN ?_
    refine ⟨_, _, rfl, hG, ?_⟩
    refine thenA_n ?_
    refine AWP.seq ?_
    refine AWP.region (fun _ => ?_)
    refine ARun.move (.inl rfl) rfl rfl rfl (Ev.plain rfl) optN ?_
    refine ARun.fieldPe rfl rfl rfl rfl Tryz.underlying25 rfl rfl sz3 (by decide) (Ev.plain rfl) rfl optN ?_
    refine ARun.loadPe rfl rfl rfl rfl Tryz.underlying3 rfl (Ev.plain rfl) rfl optN ?_
    refine ARun.call rfl rfl rfl rfl cf105 (Ev.plain rfl) (.cons (Ev.plain rfl) (.cons (Ev.plain rfl) .nil)) rfl (fun hg => Stk.find_fn (mvP l c).1 c.to_ (by omega)) optN ?_
    refine ARun.move (.inl rfl) rfl rfl rfl (Ev.plain rfl) optN ?_
    refine ARun.extract rfl rfl rfl rfl (Ev.plain rfl) rfl optN ?_
    refine ARun.extract rfl rfl rfl rfl (Ev.plain rfl) rfl optN ?_
    refine ARun.alloc (j := 2) hG rfl rfl rfl rfl rfl zv64 rfl optN ?_
    refine ARun.storeL hG rfl rfl rfl sz64 (Ev.plain rfl) (Ev.plain rfl) rfl rfl rfl rfl rfl (Nat.le_of_ble_eq_true rfl) rfl rfl ?_
    refine ARun.move (.inr rfl) rfl rfl rfl (Ev.plain rfl) optN ?_
    refine ⟨_, _, rfl, hG, ?_⟩
    refine thenA_n ?_
    refine AWP.seq ?_
    refine AWP.region (fun _ => ?_)
    refine ARun.move (.inl rfl) rfl rfl rfl (Ev.plain rfl) optN ?_
    refine ARun.fieldBox (fo := 1) rfl rfl rfl rfl Tryz.underlying64 rfl rfl sz3 (by decide) (Ev.plain rfl) ((hG.at _ _).trans rfl) optN ?_
    refine ARun.loadBox rfl rfl rfl rfl Tryz.underlying3 rfl (Ev.plain rfl) ((hG.at _ _).trans rfl) rfl optN ?_
    refine ARun.fieldBox (fo := 1) rfl rfl rfl rfl Tryz.underlying64 rfl rfl sz3 (by decide) (Ev.plain rfl) ((hG.at _ _).trans rfl) optN ?_
    refine ARun.loadBox rfl rfl rfl rfl Tryz.underlying3 rfl (Ev.plain rfl) ((hG.at _ _).trans rfl) rfl optN ?_
    refine ARun.buildSl rfl rfl rfl rfl Tryz.underlying29 sz3 zv3 rfl (by decide) (.cons (Ev.plain rfl) (.cons (Ev.plain rfl) .nil)) rfl rfl rfl rfl (by decide) rfl rfl optN ?_
    refine ARun.call rfl rfl rfl rfl cf27 (Ev.plain rfl) (.cons (Ev.plain rfl) (.cons (Ev.plain rfl) .nil)) rfl (fun hg => told_fn 0 [(tF (mvP l c).1 c.item).free, (tF (mvP l c).1 c.to_).free] (by simp)) optN ?_
    refine ARun.move (.inr rfl) rfl rfl rfl (Ev.plain rfl) optN ?_
    refine ARun.storeL hG rfl rfl rfl sz31 (Ev.plain rfl) (Ev.plain rfl) rfl rfl rfl rfl rfl (Nat.le_of_ble_eq_true rfl) rfl rfl ?_
    refine ⟨_, _, rfl, hG, ?_⟩
    refine thenA_n ?_
    refine AWP.ret ?_
    refine endF.many (.inr rfl) (rs := [.tmp 4, .cell 5 31]) rfl (.cons (.tmp rfl) (.cons (.cellA rfl ((hG.at _ _).trans rfl) Tryz.underlying31 rfl sz31 rfl rfl) .nil)) (by simp) ?_ hN
    rw [moveR, if_pos h0]; rfl
set_option maxHeartbeats 1000000 in
theorem queryS_fn (l : Its) (c : Cl) (hl : l.length ≤ 100) : FnP Tryz.prog 69 [.sl (l.map Stk.aIt), aCl c] (.tup [.sl ((queryR l c).1.map Stk.aIt), aRp (queryR l c).2]) := by
  refine FnP.of Tryz.func69 rfl rfl (by simp) (by simp [AV.cells, aIn, aOut, aLn, aCl, aRp, Stk.aIt, Ssn.aSe, aSt]) (fun G hG => ?_)
  have hN : NoH G.length (.tup [.sl ((queryR l c).1.map Stk.aIt), aRp (queryR l c).2]) := (by simp [AV.cells, aIn, aOut, aLn, aCl, aRp, Stk.aIt, Ssn.aSe, aSt])
  refine AWP.seq ?_
  refine AWP.region (fun _ => ?_)
  refine ARun.boxPe rfl rfl rfl rfl (Ev.plain rfl) rfl rfl optN ?_
  refine ARun.move (.inr rfl) rfl rfl rfl (Ev.plain rfl) optN ?_
  refine ARun.alloc (j := 0) hG rfl rfl rfl rfl rfl zv31 rfl optN ?_
  refine ⟨_, _, rfl, hG, ?_⟩
  refine thenA_n ?_
  refine AWP.seq ?_
  refine AWP.seq ?_
  refine AWP.region (fun _ => ?_)
  refine ARun.move (.inl rfl) rfl rfl rfl (Ev.plain rfl) optN ?_
  refine ARun.fieldPe rfl rfl rfl rfl Tryz.underlying25 rfl rfl sz3 (by decide) (Ev.plain rfl) rfl optN ?_
  refine ARun.loadPe rfl rfl rfl rfl Tryz.underlying3 rfl (Ev.plain rfl) rfl optN ?_
  refine ARun.call rfl rfl rfl rfl cf105 (Ev.plain rfl) (.cons (Ev.plain rfl) (.cons (Ev.plain rfl) .nil)) rfl (fun hg => Stk.find_fn l c.item (by omega)) optN ?_
  refine ARun.move (.inl rfl) rfl rfl rfl (Ev.plain rfl) optN ?_
  refine ARun.extract rfl rfl rfl rfl (Ev.plain rfl) rfl optN ?_
  refine ARun.extract rfl rfl rfl rfl (Ev.plain rfl) rfl optN ?_
  refine ARun.alloc (j := 1) hG rfl rfl rfl rfl rfl zv64 rfl optN ?_
  refine ARun.storeL hG rfl rfl rfl sz64 (Ev.plain rfl) (Ev.plain rfl) rfl rfl rfl rfl rfl (Nat.le_of_ble_eq_true rfl) rfl rfl ?_
  refine ARun.move (.inr rfl) rfl rfl rfl (Ev.plain rfl) optN ?_
  refine ⟨_, _, rfl, hG, ?_⟩
  refine thenA_n ?_
  refine AWP.seq ?_
  refine AWP.region (fun _ => ?_)
  refine ARun.move (.inl rfl) rfl rfl rfl (Ev.plain rfl) optN ?_
  refine ARun.not rfl rfl rfl rfl (Ev.plain rfl) optN ?_
  refine ⟨_, _, rfl, hG, ?_⟩
  refine thenA_n ?_
  refine AWP.cond rfl (fun h0 => ?_) (fun h0 => ?_)
  · skip
    simp at h0
    refine AWP.seq ?_
    refine AWP.region (fun _ => ?_)
    refine ARun.move (.inl rfl) rfl rfl rfl (Ev.plain rfl) optN ?_
    refine ARun.call rfl rfl rfl rfl cf27 (Ev.plain rfl) (.cons (Ev.plain rfl) (.cons (Ev.plain rfl) .nil)) rfl (fun hg => told_fn 40 [] (by simp)) optN ?_
    refine ARun.move (.inr rfl) rfl rfl rfl (Ev.plain rfl) optN ?_
    refine ARun.storeL hG rfl rfl rfl sz31 (Ev.plain rfl) (Ev.plain rfl) rfl rfl rfl rfl rfl (Nat.le_of_ble_eq_true rfl) rfl rfl ?_
    refine ⟨_, _, rfl, hG, ?_⟩
    refine thenA_n ?_
    refine AWP.ret ?_
    refine thenA_r ?_
    refine endF.many (.inr rfl) (rs := [.tmp 4, .cell 5 31]) rfl (.cons (.tmp rfl) (.cons (.cellA rfl ((hG.at _ _).trans rfl) Tryz.underlying31 rfl sz31 rfl rfl) .nil)) (by simp) ?_ hN
    rw [queryR, if_neg (by simp [h0])]; rfl
  · skip
    simp at h0
    refine AWP.skip ?_
    refine thenA_n ?_
    refine AWP.seq ?_
    refine AWP.region (fun _ => ?_)
    refine ARun.move (.inl rfl) rfl rfl rfl (Ev.plain rfl) optN ?_
    refine ARun.move (.inl rfl) rfl rfl rfl (Ev.plain rfl) optN ?_
    refine ARun.fieldPe rfl rfl rfl rfl Tryz.underlying25 rfl rfl sz3 (by decide) (Ev.plain rfl) rfl optN ?_
    refine ARun.loadPe rfl rfl rfl rfl Tryz.underlying3 rfl (Ev.plain rfl) rfl optN ?_
    refine ARun.call rfl rfl rfl rfl cf106 (Ev.plain rfl) (.cons (Ev.plain rfl) (.cons (Ev.plain rfl) .nil)) rfl (fun hg => toldS_fn l c.item (by omega)) optN ?_
    refine ARun.move (.inr rfl) rfl rfl rfl (Ev.plain rfl) optN ?_
    refine ARun.storeL hG rfl rfl rfl sz31 (Ev.plain rfl) (Ev.plain rfl) rfl rfl rfl rfl rfl (Nat.le_of_ble_eq_true rfl) rfl rfl ?_
    refine ⟨_, _, rfl, hG, ?_⟩
    refine thenA_n ?_
    refine AWP.ret ?_
    refine endF.many (.inr rfl) (rs := [.tmp 4, .cell 5 31]) rfl (.cons (.tmp rfl) (.cons (.cellA rfl ((hG.at _ _).trans rfl) Tryz.underlying31 rfl sz31 rfl rfl) .nil)) (by simp) ?_ hN
    rw [queryR, if_pos h0]; rfl
set_option maxHeartbeats 1000000 in
theorem orderS_fn (l : Its) (c : Cl) (hl : l.length ≤ 100) (hc : c.lines.length ≤ 1000) : FnP Tryz.prog 70 [.sl (l.map Stk.aIt), aCl c] (.tup [.sl ((orderR l c).1.map Stk.aIt), aRp (orderR l c).2]) := by
  refine FnP.of Tryz.func70 rfl rfl (by simp) (by simp [AV.cells, aIn, aOut, aLn, aCl, aRp, Stk.aIt, Ssn.aSe, aSt]) (fun G hG => ?_)
  have hN : NoH G.length (.tup [.sl ((orderR l c).1.map Stk.aIt), aRp (orderR l c).2]) := (by simp [AV.cells, aIn, aOut, aLn, aCl, aRp, Stk.aIt, Ssn.aSe, aSt])
  refine AWP.seq ?_
  refine AWP.region (fun _ => ?_)
  refine ARun.boxPe rfl rfl rfl rfl (Ev.plain rfl) rfl rfl optN ?_
  refine ARun.move (.inr rfl) rfl rfl rfl (Ev.plain rfl) optN ?_
  refine ARun.alloc (j := 0) hG rfl rfl rfl rfl rfl zv31 rfl optN ?_
  refine ⟨_, _, rfl, hG, ?_⟩
  refine thenA_n ?_
  refine AWP.seq ?_
  refine AWP.region (fun _ => ?_)
  refine ARun.move (.inl rfl) rfl rfl rfl (Ev.plain rfl) optN ?_
  refine ARun.fieldPe rfl rfl rfl rfl Tryz.underlying25 rfl rfl sz23 (by decide) (Ev.plain rfl) rfl optN ?_
  refine ARun.loadPe rfl rfl rfl rfl Tryz.underlying23 rfl (Ev.plain rfl) rfl optN ?_
  refine ARun.call rfl rfl rfl rfl cf107 (Ev.plain rfl) (.cons (Ev.plain rfl) (.cons (Ev.plain rfl) .nil)) rfl (fun hg => Stk.holdB_fn l c.lines (by omega)) optN ?_
  refine ARun.move (.inl rfl) rfl rfl rfl (Ev.plain rfl) optN ?_
  refine ARun.extract rfl rfl rfl rfl (Ev.plain rfl) rfl optN ?_
  refine ARun.extract rfl rfl rfl rfl (Ev.plain rfl) rfl optN ?_
  refine ARun.extract rfl rfl rfl rfl (Ev.plain rfl) rfl optN ?_
  refine ARun.move (.inr rfl) rfl rfl rfl (Ev.plain rfl) optN ?_
  refine ARun.move (.inr rfl) rfl rfl rfl (Ev.plain rfl) optN ?_
  refine ARun.move (.inr rfl) rfl rfl rfl (Ev.plain rfl) optN ?_
  refine ⟨_, _, rfl, hG, ?_⟩
  refine thenA_n ?_
  refine AWP.seq ?_
  refine AWP.seq ?_
  refine AWP.region (fun _ => ?_)
  refine ARun.move (.inl rfl) rfl rfl rfl (Ev.plain rfl) optN ?_
  refine ARun.cmp rfl rfl rfl rfl (Ev.plain rfl) (Ev.plain rfl) rfl optN ?_
  refine ⟨_, _, rfl, hG, ?_⟩
  refine thenA_n ?_
  refine AWP.cond rfl (fun h0 => ?_) (fun h0 => ?_)
  · skip
    simp at h0
    refine AWP.seq ?_
    refine AWP.region (fun _ => ?_)
    refine ARun.move (.inl rfl) rfl rfl rfl (Ev.plain rfl) optN ?_
    refine ARun.move (.inl rfl) rfl rfl rfl (Ev.plain rfl) optN ?_
    refine ARun.move (.inl rfl) rfl rfl rfl (Ev.plain rfl) optN ?_
    refine ARun.buildSl rfl rfl rfl rfl Tryz.underlying29 sz3 zv3 rfl (by decide) (.cons (Ev.plain rfl) .nil) rfl rfl rfl rfl (by decide) rfl rfl optN ?_
    refine ARun.call rfl rfl rfl rfl cf27 (Ev.plain rfl) (.cons (Ev.plain rfl) (.cons (Ev.plain rfl) .nil)) rfl (fun hg => told_fn (orP l c).2.2 [(orP l c).2.1] (by simp)) optN ?_
    refine ARun.move (.inr rfl) rfl rfl rfl (Ev.plain rfl) optN ?_
    refine ARun.storeL hG rfl rfl rfl sz31 (Ev.plain rfl) (Ev.plain rfl) rfl rfl rfl rfl rfl (Nat.le_of_ble_eq_true rfl) rfl rfl ?_
    refine ⟨_, _, rfl, hG, ?_⟩
    refine thenA_n ?_
    refine AWP.ret ?_
    refine thenA_r ?_
    refine endF.many (.inr rfl) (rs := [.tmp 4, .cell 5 31]) rfl (.cons (.tmp rfl) (.cons (.cellA rfl ((hG.at _ _).trans rfl) Tryz.underlying31 rfl sz31 rfl rfl) .nil)) (by simp) ?_ hN
    rw [orderR, if_neg h0]; rfl
  · skip
    simp at h0
    refine AWP.skip ?_
    refine thenA_n ?_
    refine AWP.seq ?_
    refine AWP.region (fun _ => ?_)
    refine ARun.move (.inl rfl) rfl rfl rfl (Ev.plain rfl) optN ?_
    refine ARun.fieldPe rfl rfl rfl rfl Tryz.underlying25 rfl rfl sz23 (by decide) (Ev.plain rfl) rfl optN ?_
    refine ARun.loadPe rfl rfl rfl rfl Tryz.underlying23 rfl (Ev.plain rfl) rfl optN ?_
    refine ARun.call rfl rfl rfl rfl cf108 (Ev.plain rfl) (.cons (Ev.plain rfl) .nil) rfl (fun hg => Stk.total_fn c.lines hc) optN ?_
    refine ARun.buildSl rfl rfl rfl rfl Tryz.underlying29 sz3 zv3 rfl (by decide) (.cons (Ev.plain rfl) .nil) rfl rfl rfl rfl (by decide) rfl rfl optN ?_
    refine ARun.call rfl rfl rfl rfl cf27 (Ev.plain rfl) (.cons (Ev.plain rfl) (.cons (Ev.plain rfl) .nil)) rfl (fun hg => told_fn 0 [StockP.totalP c.lines] (by simp)) optN ?_
    refine ARun.move (.inr rfl) rfl rfl rfl (Ev.plain rfl) optN ?_
    refine ARun.storeL hG rfl rfl rfl sz31 (Ev.plain rfl) (Ev.plain rfl) rfl rfl rfl rfl rfl (Nat.le_of_ble_eq_true rfl) rfl rfl ?_
    refine ⟨_, _, rfl, hG, ?_⟩
    refine thenA_n ?_
    refine AWP.ret ?_
    refine endF.many (.inr rfl) (rs := [.tmp 4, .cell 5 31]) rfl (.cons (.tmp rfl) (.cons (.cellA rfl ((hG.at _ _).trans rfl) Tryz.underlying31 rfl sz31 rfl rfl) .nil)) (by simp) ?_ hN
    rw [orderR, if_pos h0]; rfl
set_option maxHeartbeats 1000000 in
theorem of6_fn (l : Its) (k : Int) (hk : k = 6) : FnP Tryz.prog 29 [.sl (l.map Stk.aIt), .int .i64 k] (.fn (.func 68) [.sl (l.map Stk.aIt)] []) := by
  refine FnP.of Tryz.func29 rfl rfl (by simp) (by simp [AV.cells, Stk.aIt]) (fun G hG => ?_)
  have hN : NoH G.length (.fn (.func 68) [.sl (l.map Stk.aIt)] []) := (by simp [AV.cells, Stk.aIt])
  refine AWP.seq ?_
  refine AWP.region (fun _ => ?_)
  refine ARun.move (.inr rfl) rfl rfl rfl (Ev.plain rfl) optN ?_
  refine ⟨_, _, rfl, hG, ?_⟩
  refine thenA_n ?_
  refine AWP.seq ?_
  refine AWP.seq ?_
  refine AWP.region (fun _ => ?_)
  refine ARun.move (.inl rfl) rfl rfl rfl (Ev.plain rfl) optN ?_
  refine ⟨_, _, rfl, hG, ?_⟩
  refine thenA_n ?_
  refine AWP.block ?_
  refine AWP.seq ?_
  refine AWP.region (fun _ => ?_)
  refine ARun.cmp rfl rfl rfl rfl (Ev.plain rfl) (Ev.plain rfl) rfl optN ?_
  refine ARun.move (.inr rfl) rfl rfl rfl (Ev.plain rfl) optN ?_
  refine ⟨_, _, rfl, hG, ?_⟩
  refine thenA_n ?_
  refine AWP.cond rfl (fun h0 => ?_) (fun h0 => ?_)
  · skip
    skip
    refine AWP.seq ?_
    refine AWP.region (fun _ => ?_)
    refine ARun.move (.inl rfl) rfl rfl rfl (Ev.plain rfl) optN ?_
    refine ARun.makeFunc rfl rfl rfl rfl (.cons (Ev.plain rfl) .nil) .nil optN ?_
    refine ARun.move (.inr rfl) rfl rfl rfl (Ev.plain rfl) optN ?_
    refine ⟨_, _, rfl, hG, ?_⟩
    refine thenA_n ?_
    refine AWP.ret ?_
    refine blockA_r ?_
    refine thenA_r ?_
    refine endF.one (.inr rfl) rfl (.tmp rfl) ?_ hN
    rfl
  · skip
    simp [hk] at h0
set_option maxHeartbeats 1000000 in
theorem of7_fn (l : Its) (k : Int) (hk : k = 7) : FnP Tryz.prog 29 [.sl (l.map Stk.aIt), .int .i64 k] (.fn (.func 69) [.sl (l.map Stk.aIt)] []) := by
  refine FnP.of Tryz.func29 rfl rfl (by simp) (by simp [AV.cells, Stk.aIt]) (fun G hG => ?_)
  have hN : NoH G.length (.fn (.func 69) [.sl (l.map Stk.aIt)] []) := (by simp [AV.cells, Stk.aIt])
  refine AWP.seq ?_
  refine AWP.region (fun _ => ?_)
  refine ARun.move (.inr rfl) rfl rfl rfl (Ev.plain rfl) optN ?_
  refine ⟨_, _, rfl, hG, ?_⟩
  refine thenA_n ?_
  refine AWP.seq ?_
  refine AWP.seq ?_
  refine AWP.region (fun _ => ?_)
  refine ARun.move (.inl rfl) rfl rfl rfl (Ev.plain rfl) optN ?_
  refine ⟨_, _, rfl, hG, ?_⟩
  refine thenA_n ?_
  refine AWP.block ?_
  refine AWP.seq ?_
  refine AWP.region (fun _ => ?_)
  refine ARun.cmp rfl rfl rfl rfl (Ev.plain rfl) (Ev.plain rfl) rfl optN ?_
  refine ARun.move (.inr rfl) rfl rfl rfl (Ev.plain rfl) optN ?_
  refine ⟨_, _, rfl, hG, ?_⟩
  refine thenA_n ?_
  refine AWP.cond rfl (fun h0 => ?_) (fun h0 => ?_)
  · skip
    simp [hk] at h0
  · skip
    skip
    refine AWP.seq ?_
    refine AWP.region (fun _ => ?_)
    refine ARun.cmp rfl rfl rfl rfl (Ev.plain rfl) (Ev.plain rfl) rfl optN ?_
    refine ARun.move (.inr rfl) rfl rfl rfl (Ev.plain rfl) optN ?_
    refine ⟨_, _, rfl, hG, ?_⟩
    refine thenA_n ?_
    refine AWP.cond rfl (fun h1 => ?_) (fun h1 => ?_)
    · skip
      skip
      refine AWP.seq ?_
      refine AWP.region (fun _ => ?_)
      refine ARun.move (.inl rfl) rfl rfl rfl (Ev.plain rfl) optN ?_
      refine ARun.makeFunc rfl rfl rfl rfl (.cons (Ev.plain rfl) .nil) .nil optN ?_
      refine ARun.move (.inr rfl) rfl rfl rfl (Ev.plain rfl) optN ?_
      refine ⟨_, _, rfl, hG, ?_⟩
      refine thenA_n ?_
      refine AWP.ret ?_
      refine blockA_r ?_
      refine thenA_r ?_
      refine endF.one (.inr rfl) rfl (.tmp rfl) ?_ hN
      rfl
    · skip
      simp [hk] at h1
set_option maxHeartbeats 1000000 in
theorem of8_fn (l : Its) (k : Int) (hk : k = 8) : FnP Tryz.prog 29 [.sl (l.map Stk.aIt), .int .i64 k] (.fn (.func 70) [.sl (l.map Stk.aIt)] []) := by
  refine FnP.of Tryz.func29 rfl rfl (by simp) (by simp [AV.cells, Stk.aIt]) (fun G hG => ?_)
  have hN : NoH G.length (.fn (.func 70) [.sl (l.map Stk.aIt)] []) := (by simp [AV.cells, Stk.aIt])
  refine AWP.seq ?_
  refine AWP.region (fun _ => ?_)
  refine ARun.move (.inr rfl) rfl rfl rfl (Ev.plain rfl) optN ?_
  refine ⟨_, _, rfl, hG, ?_⟩
  refine thenA_n ?_
  refine AWP.seq ?_
  refine AWP.seq ?_
  refine AWP.region (fun _ => ?_)
  refine ARun.move (.inl rfl) rfl rfl rfl (Ev.plain rfl) optN ?_
  refine ⟨_, _, rfl, hG, ?_⟩
  refine thenA_n ?_
  refine AWP.block ?_
  refine AWP.seq ?_
  refine AWP.region (fun _ => ?_)
  refine ARun.cmp rfl rfl rfl rfl (Ev.plain rfl) (Ev.plain rfl) rfl optN ?_
  refine ARun.move (.inr rfl) rfl rfl rfl (Ev.plain rfl) optN ?_
  refine ⟨_, _, rfl, hG, ?_⟩
  refine thenA_n ?_
  refine AWP.cond rfl (fun h0 => ?_) (fun h0 => ?_)
  · skip
    simp [hk] at h0
  · skip
    skip
    refine AWP.seq ?_
    refine AWP.region (fun _ => ?_)
    refine ARun.cmp rfl rfl rfl rfl (Ev.plain rfl) (Ev.plain rfl) rfl optN ?_
    refine ARun.move (.inr rfl) rfl rfl rfl (Ev.plain rfl) optN ?_
    refine ⟨_, _, rfl, hG, ?_⟩
    refine thenA_n ?_
    refine AWP.cond rfl (fun h1 => ?_) (fun h1 => ?_)
    · skip
      simp [hk] at h1
    · skip
      skip
      refine AWP.seq ?_
      refine AWP.region (fun _ => ?_)
      refine ARun.cmp rfl rfl rfl rfl (Ev.plain rfl) (Ev.plain rfl) rfl optN ?_
      refine ARun.move (.inr rfl) rfl rfl rfl (Ev.plain rfl) optN ?_
      refine ⟨_, _, rfl, hG, ?_⟩
      refine thenA_n ?_
      refine AWP.cond rfl (fun h2 => ?_) (fun h2 => ?_)
      · skip
        skip
        refine AWP.seq ?_
        refine AWP.region (fun _ => ?_)
        refine ARun.move (.inl rfl) rfl rfl rfl (Ev.plain rfl) optN ?_
        refine ARun.makeFunc rfl rfl rfl rfl (.cons (Ev.plain rfl) .nil) .nil optN ?_
        refine ARun.move (.inr rfl) rfl rfl rfl (Ev.plain rfl) optN ?_
        refine ⟨_, _, rfl, hG, ?_⟩
        refine thenA_n ?_
        refine AWP.ret ?_
        refine blockA_r ?_
        refine thenA_r ?_
        refine endF.one (.inr rfl) rfl (.tmp rfl) ?_ hN
        rfl
      · skip
        simp [hk] at h2
set_option maxHeartbeats 1000000 in
theorem of1_fn (l : Its) (k : Int) (hk : k ≠ 6 ∧ k ≠ 7 ∧ k ≠ 8) : FnP Tryz.prog 29 [.sl (l.map Stk.aIt), .int .i64 k] (.fn (.func 71) [.sl (l.map Stk.aIt)] []) := by
  refine FnP.of Tryz.func29 rfl rfl (by simp) (by simp [AV.cells, Stk.aIt]) (fun G hG => ?_)
  have hN : NoH G.length (.fn (.func 71) [.sl (l.map Stk.aIt)] []) := (by simp [AV.cells, Stk.aIt])
  refine AWP.seq ?_
  refine AWP.region (fun _ => ?_)
  refine ARun.move (.inr rfl) rfl rfl rfl (Ev.plain rfl) optN ?_
  refine ⟨_, _, rfl, hG, ?_⟩
  refine thenA_n ?_
  refine AWP.seq ?_
  refine AWP.seq ?_
  refine AWP.region (fun _ => ?_)
  refine ARun.move (.inl rfl) rfl rfl rfl (Ev.plain rfl) optN ?_
  refine ⟨_, _, rfl, hG, ?_⟩
  refine thenA_n ?_
  refine AWP.block ?_
  refine AWP.seq ?_
  refine AWP.region (fun _ => ?_)
  refine ARun.cmp rfl rfl rfl rfl (Ev.plain rfl) (Ev.plain rfl) rfl optN ?_
  refine ARun.move (.inr rfl) rfl rfl rfl (Ev.plain rfl) optN ?_
  refine ⟨_, _, rfl, hG, ?_⟩
  refine thenA_n ?_
  refine AWP.cond rfl (fun h0 => ?_) (fun h0 => ?_)
  · skip
    simp [hk] at h0
  · skip
    skip
    refine AWP.seq ?_
    refine AWP.region (fun _ => ?_)
    refine ARun.cmp rfl rfl rfl rfl (Ev.plain rfl) (Ev.plain rfl) rfl optN ?_
    refine ARun.move (.inr rfl) rfl rfl rfl (Ev.plain rfl) optN ?_
    refine ⟨_, _, rfl, hG, ?_⟩
    refine thenA_n ?_
    refine AWP.cond rfl (fun h1 => ?_) (fun h1 => ?_)
    · skip
      simp [hk] at h1
    · skip
      skip
      refine AWP.seq ?_
      refine AWP.region (fun _ => ?_)
      refine ARun.cmp rfl rfl rfl rfl (Ev.plain rfl) (Ev.plain rfl) rfl optN ?_
      refine ARun.move (.inr rfl) rfl rfl rfl (Ev.plain rfl) optN ?_
      refine ⟨_, _, rfl, hG, ?_⟩
      refine thenA_n ?_
      refine AWP.cond rfl (fun h2 => ?_) (fun h2 => ?_)
      · skip
        simp [hk] at h2
      · skip
        skip
        refine AWP.skip ?_
        refine blockA_n ?_
        refine thenA_n ?_
        refine AWP.seq ?_
        refine AWP.region (fun _ => ?_)
        refine ARun.move (.inl rfl) rfl rfl rfl (Ev.plain rfl) optN ?_
        refine ARun.makeFunc rfl rfl rfl rfl (.cons (Ev.plain rfl) .nil) .nil optN ?_
        refine ARun.move (.inr rfl) rfl rfl rfl (Ev.plain rfl) optN ?_
        refine ⟨_, _, rfl, hG, ?_⟩
        refine thenA_n ?_
        refine AWP.ret ?_
        refine endF.one (.inr rfl) rfl (.tmp rfl) ?_ hN
        rfl
set_option maxHeartbeats 1000000 in
theorem do6_fn (l : Its) (c : Cl) (hl : l.length ≤ 100) (hc : c.lines.length ≤ 1000) (hk : c.kind = 6) : FnP Tryz.prog 9 [.sl (l.map Stk.aIt), aCl c] (.tup [.sl ((doP l c).1.map Stk.aIt), aRp (doP l c).2]) := by
  refine FnP.of Tryz.func9 rfl rfl (by simp) (by simp [AV.cells, aIn, aOut, aLn, aCl, aRp, Stk.aIt, Ssn.aSe, aSt]) (fun G hG => ?_)
  have hN : NoH G.length (.tup [.sl ((doP l c).1.map Stk.aIt), aRp (doP l c).2]) := (by simp [AV.cells, aIn, aOut, aLn, aCl, aRp, Stk.aIt, Ssn.aSe, aSt])
  refine AWP.seq ?_
  refine AWP.region (fun _ => ?_)
  refine ARun.boxPe rfl rfl rfl rfl (Ev.plain rfl) rfl rfl optN ?_
  refine ARun.move (.inr rfl) rfl rfl rfl (Ev.plain rfl) optN ?_
  refine ARun.alloc (j := 0) hG rfl rfl rfl rfl rfl zv31 rfl optN ?_
  refine ⟨_, _, rfl, hG, ?_⟩
  refine thenA_n ?_
  refine AWP.seq ?_
  refine AWP.seq ?_
  refine AWP.region (fun _ => ?_)
  refine ARun.move (.inl rfl) rfl rfl rfl (Ev.plain rfl) optN ?_
  refine ARun.call rfl rfl rfl rfl cf26 (Ev.plain rfl) (.cons (Ev.plain rfl) .nil) rfl (fun hg => Stk.check_fn l) optN ?_
  refine ARun.move (.inr rfl) rfl rfl rfl (Ev.plain rfl) optN ?_
  refine ⟨_, _, rfl, hG, ?_⟩
  refine thenA_n ?_
  refine AWP.seq ?_
  refine AWP.region (fun _ => ?_)
  refine ARun.move (.inl rfl) rfl rfl rfl (Ev.plain rfl) optN ?_
  refine ARun.cmp rfl rfl rfl rfl (Ev.plain rfl) (Ev.plain rfl) rfl optN ?_
  refine ⟨_, _, rfl, hG, ?_⟩
  refine thenA_n ?_
  refine AWP.cond rfl (fun h0 => ?_) (fun h0 => ?_)
  · skip
    simp at h0
    refine AWP.seq ?_
    refine AWP.region (fun _ => ?_)
    refine ARun.move (.inl rfl) rfl rfl rfl (Ev.plain rfl) optN ?_
    refine ARun.move (.inl rfl) rfl rfl rfl (Ev.plain rfl) optN ?_
    refine ARun.call rfl rfl rfl rfl cf27 (Ev.plain rfl) (.cons (Ev.plain rfl) (.cons (Ev.plain rfl) .nil)) rfl (fun hg => told_fn (Stk.okE l) [] (by simp)) optN ?_
    refine ARun.move (.inr rfl) rfl rfl rfl (Ev.plain rfl) optN ?_
    refine ARun.storeL hG rfl rfl rfl sz31 (Ev.plain rfl) (Ev.plain rfl) rfl rfl rfl rfl rfl (Nat.le_of_ble_eq_true rfl) rfl rfl ?_
    refine ⟨_, _, rfl, hG, ?_⟩
    refine thenA_n ?_
    refine AWP.ret ?_
    refine thenA_r ?_
    refine endF.many (.inr rfl) (rs := [.tmp 4, .cell 5 31]) rfl (.cons (.tmp rfl) (.cons (.cellA rfl ((hG.at _ _).trans rfl) Tryz.underlying31 rfl sz31 rfl rfl) .nil)) (by simp) ?_ hN
    rw [do_0 h0, okE_two h0]; rfl
  · skip
    simp at h0
    refine AWP.skip ?_
    refine thenA_n ?_
    refine AWP.seq ?_
    refine AWP.seq ?_
    refine AWP.region (fun _ => ?_)
    refine ARun.loadPeA rfl rfl rfl rfl Tryz.underlying25 rfl sz25 (Ev.plain rfl) rfl optN ?_
    refine ARun.call rfl rfl rfl rfl cf28 (Ev.plain rfl) (.cons (Ev.plain rfl) .nil) rfl (fun hg => check_fn c (by omega)) optN ?_
    refine ARun.move (.inr rfl) rfl rfl rfl (Ev.plain rfl) optN ?_
    refine ⟨_, _, rfl, hG, ?_⟩
    refine thenA_n ?_
    refine AWP.seq ?_
    refine AWP.region (fun _ => ?_)
    refine ARun.move (.inl rfl) rfl rfl rfl (Ev.plain rfl) optN ?_
    refine ARun.isNil rfl rfl rfl rfl Tryz.underlying53 (Ev.plain rfl) (fun hg => by first | rfl | exact nilA_aEr _) (.inr ⟨rfl, rfl⟩) optN ?_
    refine ⟨_, _, rfl, hG, ?_⟩
    refine thenA_n ?_
    refine AWP.cond rfl (fun h1 => ?_) (fun h1 => ?_)
    · skip
      simp only [new_none] at h1
      simp at h1
      refine AWP.seq ?_
      refine AWP.region (fun _ => ?_)
      refine ARun.move (.inl rfl) rfl rfl rfl (Ev.plain rfl) optN ?_
      refine ARun.move (.inl rfl) rfl rfl rfl (Ev.plain rfl) optN ?_
      refine ARun.call rfl rfl rfl rfl cf25 (Ev.plain rfl) (.cons (Ev.plain rfl) .nil) rfl (fun hg => code_fn (Er.new tCall (checkP c))) optN ?_
      refine ARun.call rfl rfl rfl rfl cf27 (Ev.plain rfl) (.cons (Ev.plain rfl) (.cons (Ev.plain rfl) .nil)) rfl (fun hg => told_fn (Er.new tCall (checkP c)).code [] (by simp)) optN ?_
      refine ARun.move (.inr rfl) rfl rfl rfl (Ev.plain rfl) optN ?_
      refine ARun.storeL hG rfl rfl rfl sz31 (Ev.plain rfl) (Ev.plain rfl) rfl rfl rfl rfl rfl (Nat.le_of_ble_eq_true rfl) rfl rfl ?_
      refine ⟨_, _, rfl, hG, ?_⟩
      refine thenA_n ?_
      refine AWP.ret ?_
      refine thenA_r ?_
      refine endF.many (.inr rfl) (rs := [.tmp 4, .cell 5 31]) rfl (.cons (.tmp rfl) (.cons (.cellA rfl ((hG.at _ _).trans rfl) Tryz.underlying31 rfl sz31 rfl rfl) .nil)) (by simp) ?_ hN
      rw [do_1 h0 h1, new_code]; rfl
    · skip
      simp only [new_none] at h1
      simp at h1
      refine AWP.skip ?_
      refine thenA_n ?_
      refine AWP.seq ?_
      refine AWP.region (fun _ => ?_)
      refine ARun.move (.inl rfl) rfl rfl rfl (Ev.plain rfl) optN ?_
      refine ARun.fieldPe rfl rfl rfl rfl Tryz.underlying25 rfl rfl sz3 (by decide) (Ev.plain rfl) rfl optN ?_
      refine ARun.loadPe rfl rfl rfl rfl Tryz.underlying3 rfl (Ev.plain rfl) rfl optN ?_
      refine ARun.call rfl rfl rfl rfl cf29 (Ev.plain rfl) (.cons (Ev.plain rfl) (.cons (Ev.plain rfl) .nil)) rfl (fun hg => of6_fn l c.kind hk) optN ?_
      refine ARun.move (.inr rfl) rfl rfl rfl (Ev.plain rfl) optN ?_
      refine ⟨_, _, rfl, hG, ?_⟩
      refine thenA_n ?_
      refine AWP.seq ?_
      refine AWP.region (fun _ => ?_)
      refine ARun.move (.inl rfl) rfl rfl rfl (Ev.plain rfl) optN ?_
      refine ARun.loadPeA rfl rfl rfl rfl Tryz.underlying25 rfl sz25 (Ev.plain rfl) rfl optN ?_
      refine ARun.call rfl rfl rfl rfl cf68 (Ev.plain rfl) (.cons (Ev.plain rfl) .nil) rfl (fun hg => moveS_fn l c hl) optN ?_
      refine ARun.extract rfl rfl rfl rfl (Ev.plain rfl) rfl optN ?_
      refine ARun.extract rfl rfl rfl rfl (Ev.plain rfl) rfl optN ?_
      refine ARun.move (.inr rfl) rfl rfl rfl (Ev.plain rfl) optN ?_
      refine ARun.storeL hG rfl rfl rfl sz31 (Ev.plain rfl) (Ev.plain rfl) rfl rfl rfl rfl rfl (Nat.le_of_ble_eq_true rfl) rfl rfl ?_
      refine ⟨_, _, rfl, hG, ?_⟩
      refine thenA_n ?_
      refine AWP.ret ?_
      refine endF.many (.inr rfl) (rs := [.tmp 4, .cell 5 31]) rfl (.cons (.tmp rfl) (.cons (.cellA rfl ((hG.at _ _).trans rfl) Tryz.underlying31 rfl sz31 rfl rfl) .nil)) (by simp) ?_ hN
      rw [do_2 h0 h1, kind_6 hk]; rfl
set_option maxHeartbeats 1000000 in
theorem do7_fn (l : Its) (c : Cl) (hl : l.length ≤ 100) (hc : c.lines.length ≤ 1000) (hk : c.kind = 7) : FnP Tryz.prog 9 [.sl (l.map Stk.aIt), aCl c] (.tup [.sl ((doP l c).1.map Stk.aIt), aRp (doP l c).2]) := by
  refine FnP.of Tryz.func9 rfl rfl (by simp) (by simp [AV.cells, aIn, aOut, aLn, aCl, aRp, Stk.aIt, Ssn.aSe, aSt]) (fun G hG => ?_)
  have hN : NoH G.length (.tup [.sl ((doP l c).1.map Stk.aIt), aRp (doP l c).2]) := (by simp [AV.cells, aIn, aOut, aLn, aCl, aRp, Stk.aIt, Ssn.aSe, aSt])
  refine AWP.seq ?_
  refine AWP.region (fun _ => ?_)
  refine ARun.boxPe rfl rfl rfl rfl (Ev.plain rfl) rfl rfl optN ?_
  refine ARun.move (.inr rfl) rfl rfl rfl (Ev.plain rfl) optN ?_
  refine ARun.alloc (j := 0) hG rfl rfl rfl rfl rfl zv31 rfl optN ?_
  refine ⟨_, _, rfl, hG, ?_⟩
  refine thenA_n ?_
  refine AWP.seq ?_
  refine AWP.seq ?_
  refine AWP.region (fun _ => ?_)
  refine ARun.move (.inl rfl) rfl rfl rfl (Ev.plain rfl) optN ?_
  refine ARun.call rfl rfl rfl rfl cf26 (Ev.plain rfl) (.cons (Ev.plain rfl) .nil) rfl (fun hg => Stk.check_fn l) optN ?_
  refine ARun.move (.inr rfl) rfl rfl rfl (Ev.plain rfl) optN ?_
  refine ⟨_, _, rfl, hG, ?_⟩
  refine thenA_n ?_
  refine AWP.seq ?_
  refine AWP.region (fun _ => ?_)
  refine ARun.move (.inl rfl) rfl rfl rfl (Ev.plain rfl) optN ?_
  refine ARun.cmp rfl rfl rfl rfl (Ev.plain rfl) (Ev.plain rfl) rfl optN ?_
  refine ⟨_, _, rfl, hG, ?_⟩
  refine thenA_n ?_
  refine AWP.cond rfl (fun h0 => ?_) (fun h0 => ?_)
  · skip
    simp at h0
    refine AWP.seq ?_
    refine AWP.region (fun _ => ?_)
    refine ARun.move (.inl rfl) rfl rfl rfl (Ev.plain rfl) optN ?_
    refine ARun.move (.inl rfl) rfl rfl rfl (Ev.plain rfl) optN ?_
    refine ARun.call rfl rfl rfl rfl cf27 (Ev.plain rfl) (.cons (Ev.plain rfl) (.cons (Ev.plain rfl) .nil)) rfl (fun hg => told_fn (Stk.okE l) [] (by simp)) optN ?_
    refine ARun.move (.inr rfl) rfl rfl rfl (Ev.plain rfl) optN ?_
    refine ARun.storeL hG rfl rfl rfl sz31 (Ev.plain rfl) (Ev.plain rfl) rfl rfl rfl rfl rfl (Nat.le_of_ble_eq_true rfl) rfl rfl ?_
    refine ⟨_, _, rfl, hG, ?_⟩
    refine thenA_n ?_
    refine AWP.ret ?_
    refine thenA_r ?_
    refine endF.many (.inr rfl) (rs := [.tmp 4, .cell 5 31]) rfl (.cons (.tmp rfl) (.cons (.cellA rfl ((hG.at _ _).trans rfl) Tryz.underlying31 rfl sz31 rfl rfl) .nil)) (by simp) ?_ hN
    rw [do_0 h0, okE_two h0]; rfl
  · skip
    simp at h0
    refine AWP.skip ?_
    refine thenA_n ?_
    refine AWP.seq ?_
    refine AWP.seq ?_
    refine AWP.region (fun _ => ?_)
    refine ARun.loadPeA rfl rfl rfl rfl Tryz.underlying25 rfl sz25 (Ev.plain rfl) rfl optN ?_
    refine ARun.call rfl rfl rfl rfl cf28 (Ev.plain rfl) (.cons (Ev.plain rfl) .nil) rfl (fun hg => check_fn c (by omega)) optN ?_
    refine ARun.move (.inr rfl) rfl rfl rfl (Ev.plain rfl) optN ?_
    refine ⟨_, _, rfl, hG, ?_⟩
    refine thenA_n ?_
    refine AWP.seq ?_
    refine AWP.region (fun _ => ?_)
    refine ARun.move (.inl rfl) rfl rfl rfl (Ev.plain rfl) optN ?_
    refine ARun.isNil rfl rfl rfl rfl Tryz.underlying53 (Ev.plain rfl) (fun hg => by first | rfl | exact nilA_aEr _) (.inr ⟨rfl, rfl⟩) optN ?_
    refine ⟨_, _, rfl, hG, ?_⟩
    refine thenA_n ?_
    refine AWP.cond rfl (fun h1 => ?_) (fun h1 => ?_)
    · skip
      simp only [new_none] at h1
      simp at h1
      refine AWP.seq ?_
      refine AWP.region (fun _ => ?_)
      refine ARun.move (.inl rfl) rfl rfl rfl (Ev.plain rfl) optN ?_
      refine ARun.move (.inl rfl) rfl rfl rfl (Ev.plain rfl) optN ?_
      refine ARun.call rfl rfl rfl rfl cf25 (Ev.plain rfl) (.cons (Ev.plain rfl) .nil) rfl (fun hg => code_fn (Er.new tCall (checkP c))) optN ?_
      refine ARun.call rfl rfl rfl rfl cf27 (Ev.plain rfl) (.cons (Ev.plain rfl) (.cons (Ev.plain rfl) .nil)) rfl (fun hg => told_fn (Er.new tCall (checkP c)).code [] (by simp)) optN ?_
      refine ARun.move (.inr rfl) rfl rfl rfl (Ev.plain rfl) optN ?_
      refine ARun.storeL hG rfl rfl rfl sz31 (Ev.plain rfl) (Ev.plain rfl) rfl rfl rfl rfl rfl (Nat.le_of_ble_eq_true rfl) rfl rfl ?_
      refine ⟨_, _, rfl, hG, ?_⟩
      refine thenA_n ?_
      refine AWP.ret ?_
      refine thenA_r ?_
      refine endF.many (.inr rfl) (rs := [.tmp 4, .cell 5 31]) rfl (.cons (.tmp rfl) (.cons (.cellA rfl ((hG.at _ _).trans rfl) Tryz.underlying31 rfl sz31 rfl rfl) .nil)) (by simp) ?_ hN
      rw [do_1 h0 h1, new_code]; rfl
    · skip
      simp only [new_none] at h1
      simp at h1
      refine AWP.skip ?_
      refine thenA_n ?_
      refine AWP.seq ?_
      refine AWP.region (fun _ => ?_)
      refine ARun.move (.inl rfl) rfl rfl rfl (Ev.plain rfl) optN ?_
      refine ARun.fieldPe rfl rfl rfl rfl Tryz.underlying25 rfl rfl sz3 (by decide) (Ev.plain rfl) rfl optN ?_
      refine ARun.loadPe rfl rfl rfl rfl Tryz.underlying3 rfl (Ev.plain rfl) rfl optN ?_
      refine ARun.call rfl rfl rfl rfl cf29 (Ev.plain rfl) (.cons (Ev.plain rfl) (.cons (Ev.plain rfl) .nil)) rfl (fun hg => of7_fn l c.kind hk) optN ?_
      refine ARun.move (.inr rfl) rfl rfl rfl (Ev.plain rfl) optN ?_
      refine ⟨_, _, rfl, hG, ?_⟩
      refine thenA_n ?_
      refine AWP.seq ?_
      refine AWP.region (fun _ => ?_)
      refine ARun.move (.inl rfl) rfl rfl rfl (Ev.plain rfl) optN ?_
      refine ARun.loadPeA rfl rfl rfl rfl Tryz.underlying25 rfl sz25 (Ev.plain rfl) rfl optN ?_
      refine ARun.call rfl rfl rfl rfl cf69 (Ev.plain rfl) (.cons (Ev.plain rfl) .nil) rfl (fun hg => queryS_fn l c hl) optN ?_
      refine ARun.extract rfl rfl rfl rfl (Ev.plain rfl) rfl optN ?_
      refine ARun.extract rfl rfl rfl rfl (Ev.plain rfl) rfl optN ?_
      refine ARun.move (.inr rfl) rfl rfl rfl (Ev.plain rfl) optN ?_
      refine ARun.storeL hG rfl rfl rfl sz31 (Ev.plain rfl) (Ev.plain rfl) rfl rfl rfl rfl rfl (Nat.le_of_ble_eq_true rfl) rfl rfl ?_
      refine ⟨_, _, rfl, hG, ?_⟩
      refine thenA_n ?_
      refine AWP.ret ?_
      refine endF.many (.inr rfl) (rs := [.tmp 4, .cell 5 31]) rfl (.cons (.tmp rfl) (.cons (.cellA rfl ((hG.at _ _).trans rfl) Tryz.underlying31 rfl sz31 rfl rfl) .nil)) (by simp) ?_ hN
      rw [do_2 h0 h1, kind_7 hk]; rfl
set_option maxHeartbeats 1000000 in
theorem do8_fn (l : Its) (c : Cl) (hl : l.length ≤ 100) (hc : c.lines.length ≤ 1000) (hk : c.kind = 8) : FnP Tryz.prog 9 [.sl (l.map Stk.aIt), aCl c] (.tup [.sl ((doP l c).1.map Stk.aIt), aRp (doP l c).2]) := by
  refine FnP.of Tryz.func9 rfl rfl (by simp) (by simp [AV.cells, aIn, aOut, aLn, aCl, aRp, Stk.aIt, Ssn.aSe, aSt]) (fun G hG => ?_)
  have hN : NoH G.length (.tup [.sl ((doP l c).1.map Stk.aIt), aRp (doP l c).2]) := (by simp [AV.cells, aIn, aOut, aLn, aCl, aRp, Stk.aIt, Ssn.aSe, aSt])
  refine AWP.seq ?_
  refine AWP.region (fun _ => ?_)
  refine ARun.boxPe rfl rfl rfl rfl (Ev.plain rfl) rfl rfl optN ?_
  refine ARun.move (.inr rfl) rfl rfl rfl (Ev.plain rfl) optN ?_
  refine ARun.alloc (j := 0) hG rfl rfl rfl rfl rfl zv31 rfl optN ?_
  refine ⟨_, _, rfl, hG, ?_⟩
  refine thenA_n ?_
  refine AWP.seq ?_
  refine AWP.seq ?_
  refine AWP.region (fun _ => ?_)
  refine ARun.move (.inl rfl) rfl rfl rfl (Ev.plain rfl) optN ?_
  refine ARun.call rfl rfl rfl rfl cf26 (Ev.plain rfl) (.cons (Ev.plain rfl) .nil) rfl (fun hg => Stk.check_fn l) optN ?_
  refine ARun.move (.inr rfl) rfl rfl rfl (Ev.plain rfl) optN ?_
  refine ⟨_, _, rfl, hG, ?_⟩
  refine thenA_n ?_
  refine AWP.seq ?_
  refine AWP.region (fun _ => ?_)
  refine ARun.move (.inl rfl) rfl rfl rfl (Ev.plain rfl) optN ?_
  refine ARun.cmp rfl rfl rfl rfl (Ev.plain rfl) (Ev.plain rfl) rfl optN ?_
  refine ⟨_, _, rfl, hG, ?_⟩
  refine thenA_n ?_
  refine AWP.cond rfl (fun h0 => ?_) (fun h0 => ?_)
  · skip
    simp at h0
    refine AWP.seq ?_
    refine AWP.region (fun _ => ?_)
    refine ARun.move (.inl rfl) rfl rfl rfl (Ev.plain rfl) optN ?_
    refine ARun.move (.inl rfl) rfl rfl rfl (Ev.plain rfl) optN ?_
    refine ARun.call rfl rfl rfl rfl cf27 (Ev.plain rfl) (.cons (Ev.plain rfl) (.cons (Ev.plain rfl) .nil)) rfl (fun hg => told_fn (Stk.okE l) [] (by simp)) optN ?_
    refine ARun.move (.inr rfl) rfl rfl rfl (Ev.plain rfl) optN ?_
    refine ARun.storeL hG rfl rfl rfl sz31 (Ev.plain rfl) (Ev.plain rfl) rfl rfl rfl rfl rfl (Nat.le_of_ble_eq_true rfl) rfl rfl ?_
    refine ⟨_, _, rfl, hG, ?_⟩
    refine thenA_n ?_
    refine AWP.ret ?_
    refine thenA_r ?_
    refine endF.many (.inr rfl) (rs := [.tmp 4, .cell 5 31]) rfl (.cons (.tmp rfl) (.cons (.cellA rfl ((hG.at _ _).trans rfl) Tryz.underlying31 rfl sz31 rfl rfl) .nil)) (by simp) ?_ hN
    rw [do_0 h0, okE_two h0]; rfl
  · skip
    simp at h0
    refine AWP.skip ?_
    refine thenA_n ?_
    refine AWP.seq ?_
    refine AWP.seq ?_
    refine AWP.region (fun _ => ?_)
    refine ARun.loadPeA rfl rfl rfl rfl Tryz.underlying25 rfl sz25 (Ev.plain rfl) rfl optN ?_
    refine ARun.call rfl rfl rfl rfl cf28 (Ev.plain rfl) (.cons (Ev.plain rfl) .nil) rfl (fun hg => check_fn c (by omega)) optN ?_
    refine ARun.move (.inr rfl) rfl rfl rfl (Ev.plain rfl) optN ?_
    refine ⟨_, _, rfl, hG, ?_⟩
    refine thenA_n ?_
    refine AWP.seq ?_
    refine AWP.region (fun _ => ?_)
    refine ARun.move (.inl rfl) rfl rfl rfl (Ev.plain rfl) optN ?_
    refine ARun.isNil rfl rfl rfl rfl Tryz.underlying53 (Ev.plain rfl) (fun hg => by first | rfl | exact nilA_aEr _) (.inr ⟨rfl, rfl⟩) optN ?_
    refine ⟨_, _, rfl, hG, ?_⟩
    refine thenA_n ?_
    refine AWP.cond rfl (fun h1 => ?_) (fun h1 => ?_)
    · skip
      simp only [new_none] at h1
      simp at h1
      refine AWP.seq ?_
      refine AWP.region (fun _ => ?_)
      refine ARun.move (.inl rfl) rfl rfl rfl (Ev.plain rfl) optN ?_
      refine ARun.move (.inl rfl) rfl rfl rfl (Ev.plain rfl) optN ?_
      refine ARun.call rfl rfl rfl rfl cf25 (Ev.plain rfl) (.cons (Ev.plain rfl) .nil) rfl (fun hg => code_fn (Er.new tCall (checkP c))) optN ?_
      refine ARun.call rfl rfl rfl rfl cf27 (Ev.plain rfl) (.cons (Ev.plain rfl) (.cons (Ev.plain rfl) .nil)) rfl (fun hg => told_fn (Er.new tCall (checkP c)).code [] (by simp)) optN ?_
      refine ARun.move (.inr rfl) rfl rfl rfl (Ev.plain rfl) optN ?_
      refine ARun.storeL hG rfl rfl rfl sz31 (Ev.plain rfl) (Ev.plain rfl) rfl rfl rfl rfl rfl (Nat.le_of_ble_eq_true rfl) rfl rfl ?_
      refine ⟨_, _, rfl, hG, ?_⟩
      refine thenA_n ?_
      refine AWP.ret ?_
      refine thenA_r ?_
      refine endF.many (.inr rfl) (rs := [.tmp 4, .cell 5 31]) rfl (.cons (.tmp rfl) (.cons (.cellA rfl ((hG.at _ _).trans rfl) Tryz.underlying31 rfl sz31 rfl rfl) .nil)) (by simp) ?_ hN
      rw [do_1 h0 h1, new_code]; rfl
    · skip
      simp only [new_none] at h1
      simp at h1
      refine AWP.skip ?_
      refine thenA_n ?_
      refine AWP.seq ?_
      refine AWP.region (fun _ => ?_)
      refine ARun.move (.inl rfl) rfl rfl rfl (Ev.plain rfl) optN ?_
      refine ARun.fieldPe rfl rfl rfl rfl Tryz.underlying25 rfl rfl sz3 (by decide) (Ev.plain rfl) rfl optN ?_
      refine ARun.loadPe rfl rfl rfl rfl Tryz.underlying3 rfl (Ev.plain rfl) rfl optN ?_
      refine ARun.call rfl rfl rfl rfl cf29 (Ev.plain rfl) (.cons (Ev.plain rfl) (.cons (Ev.plain rfl) .nil)) rfl (fun hg => of8_fn l c.kind hk) optN ?_
      refine ARun.move (.inr rfl) rfl rfl rfl (Ev.plain rfl) optN ?_
      refine ⟨_, _, rfl, hG, ?_⟩
      refine thenA_n ?_
      refine AWP.seq ?_
      refine AWP.region (fun _ => ?_)
      refine ARun.move (.inl rfl) rfl rfl rfl (Ev.plain rfl) optN ?_
      refine ARun.loadPeA rfl rfl rfl rfl Tryz.underlying25 rfl sz25 (Ev.plain rfl) rfl optN ?_
      refine ARun.call rfl rfl rfl rfl cf70 (Ev.plain rfl) (.cons (Ev.plain rfl) .nil) rfl (fun hg => orderS_fn l c hl hc) optN ?_
      refine ARun.extract rfl rfl rfl rfl (Ev.plain rfl) rfl optN ?_
      refine ARun.extract rfl rfl rfl rfl (Ev.plain rfl) rfl optN ?_
      refine ARun.move (.inr rfl) rfl rfl rfl (Ev.plain rfl) optN ?_
      refine ARun.storeL hG rfl rfl rfl sz31 (Ev.plain rfl) (Ev.plain rfl) rfl rfl rfl rfl rfl (Nat.le_of_ble_eq_true rfl) rfl rfl ?_
      refine ⟨_, _, rfl, hG, ?_⟩
      refine thenA_n ?_
      refine AWP.ret ?_
      refine endF.many (.inr rfl) (rs := [.tmp 4, .cell 5 31]) rfl (.cons (.tmp rfl) (.cons (.cellA rfl ((hG.at _ _).trans rfl) Tryz.underlying31 rfl sz31 rfl rfl) .nil)) (by simp) ?_ hN
      rw [do_2 h0 h1, kind_8 hk]; rfl
set_option maxHeartbeats 1000000 in
theorem do1_fn (l : Its) (c : Cl) (hl : l.length ≤ 100) (hc : c.lines.length ≤ 1000) (hk : checkP c = 0 → c.kind ≠ 6 ∧ c.kind ≠ 7 ∧ c.kind ≠ 8 ∧ 1 ≤ c.kind ∧ c.kind ≤ 5) : FnP Tryz.prog 9 [.sl (l.map Stk.aIt), aCl c] (.tup [.sl ((doP l c).1.map Stk.aIt), aRp (doP l c).2]) := by
  refine FnP.of Tryz.func9 rfl rfl (by simp) (by simp [AV.cells, aIn, aOut, aLn, aCl, aRp, Stk.aIt, Ssn.aSe, aSt]) (fun G hG => ?_)
  have hN : NoH G.length (.tup [.sl ((doP l c).1.map Stk.aIt), aRp (doP l c).2]) := (by simp [AV.cells, aIn, aOut, aLn, aCl, aRp, Stk.aIt, Ssn.aSe, aSt])
  refine AWP.seq ?_
  refine AWP.region (fun _ => ?_)
  refine ARun.boxPe rfl rfl rfl rfl (Ev.plain rfl) rfl rfl optN ?_
  refine ARun.move (.inr rfl) rfl rfl rfl (Ev.plain rfl) optN ?_
  refine ARun.alloc (j := 0) hG rfl rfl rfl rfl rfl zv31 rfl optN ?_
  refine ⟨_, _, rfl, hG, ?_⟩
  refine thenA_n ?_
  refine AWP.seq ?_
  refine AWP.seq ?_
  refine AWP.region (fun _ => ?_)
  refine ARun.move (.inl rfl) rfl rfl rfl (Ev.plain rfl) optN ?_
  refine ARun.call rfl rfl rfl rfl cf26 (Ev.plain rfl) (.cons (Ev.plain rfl) .nil) rfl (fun hg => Stk.check_fn l) optN ?_
  refine ARun.move (.inr rfl) rfl rfl rfl (Ev.plain rfl) optN ?_
  refine ⟨_, _, rfl, hG, ?_⟩
  refine thenA_n ?_
  refine AWP.seq ?_
  refine AWP.region (fun _ => ?_)
  refine ARun.move (.inl rfl) rfl rfl rfl (Ev.plain rfl) optN ?_
  refine ARun.cmp rfl rfl rfl rfl (Ev.plain rfl) (Ev.plain rfl) rfl optN ?_
  refine ⟨_, _, rfl, hG, ?_⟩
  refine thenA_n ?_
  refine AWP.cond rfl (fun h0 => ?_) (fun h0 => ?_)
  · skip
    simp at h0
    refine AWP.seq ?_
    refine AWP.region (fun _ => ?_)
    refine ARun.move (.inl rfl) rfl rfl rfl (Ev.plain rfl) optN ?_
    refine ARun.move (.inl rfl) rfl rfl rfl (Ev.plain rfl) optN ?_
    refine ARun.call rfl rfl rfl rfl cf27 (Ev.plain rfl) (.cons (Ev.plain rfl) (.cons (Ev.plain rfl) .nil)) rfl (fun hg => told_fn (Stk.okE l) [] (by simp)) optN ?_
    refine ARun.move (.inr rfl) rfl rfl rfl (Ev.plain rfl) optN ?_
    refine ARun.storeL hG rfl rfl rfl sz31 (Ev.plain rfl) (Ev.plain rfl) rfl rfl rfl rfl rfl (Nat.le_of_ble_eq_true rfl) rfl rfl ?_
    refine ⟨_, _, rfl, hG, ?_⟩
    refine thenA_n ?_
    refine AWP.ret ?_
    refine thenA_r ?_
    refine endF.many (.inr rfl) (rs := [.tmp 4, .cell 5 31]) rfl (.cons (.tmp rfl) (.cons (.cellA rfl ((hG.at _ _).trans rfl) Tryz.underlying31 rfl sz31 rfl rfl) .nil)) (by simp) ?_ hN
    rw [do_0 h0, okE_two h0]; rfl
  · skip
    simp at h0
    refine AWP.skip ?_
    refine thenA_n ?_
    refine AWP.seq ?_
    refine AWP.seq ?_
    refine AWP.region (fun _ => ?_)
    refine ARun.loadPeA rfl rfl rfl rfl Tryz.underlying25 rfl sz25 (Ev.plain rfl) rfl optN ?_
    refine ARun.call rfl rfl rfl rfl cf28 (Ev.plain rfl) (.cons (Ev.plain rfl) .nil) rfl (fun hg => check_fn c (by omega)) optN ?_
    refine ARun.move (.inr rfl) rfl rfl rfl (Ev.plain rfl) optN ?_
    refine ⟨_, _, rfl, hG, ?_⟩
    refine thenA_n ?_
    refine AWP.seq ?_
    refine AWP.region (fun _ => ?_)
    refine ARun.move (.inl rfl) rfl rfl rfl (Ev.plain rfl) optN ?_
    refine ARun.isNil rfl rfl rfl rfl Tryz.underlying53 (Ev.plain rfl) (fun hg => by first | rfl | exact nilA_aEr _) (.inr ⟨rfl, rfl⟩) optN ?_
    refine ⟨_, _, rfl, hG, ?_⟩
    refine thenA_n ?_
    refine AWP.cond rfl (fun h1 => ?_) (fun h1 => ?_)
    · skip
      simp only [new_none] at h1
      simp at h1
      refine AWP.seq ?_
      refine AWP.region (fun _ => ?_)
      refine ARun.move (.inl rfl) rfl rfl rfl (Ev.plain rfl) optN ?_
      refine ARun.move (.inl rfl) rfl rfl rfl (Ev.plain rfl) optN ?_
      refine ARun.call rfl rfl rfl rfl cf25 (Ev.plain rfl) (.cons (Ev.plain rfl) .nil) rfl (fun hg => code_fn (Er.new tCall (checkP c))) optN ?_
      refine ARun.call rfl rfl rfl rfl cf27 (Ev.plain rfl) (.cons (Ev.plain rfl) (.cons (Ev.plain rfl) .nil)) rfl (fun hg => told_fn (Er.new tCall (checkP c)).code [] (by simp)) optN ?_
      refine ARun.move (.inr rfl) rfl rfl rfl (Ev.plain rfl) optN ?_
      refine ARun.storeL hG rfl rfl rfl sz31 (Ev.plain rfl) (Ev.plain rfl) rfl rfl rfl rfl rfl (Nat.le_of_ble_eq_true rfl) rfl rfl ?_
      refine ⟨_, _, rfl, hG, ?_⟩
      refine thenA_n ?_
      refine AWP.ret ?_
      refine thenA_r ?_
      refine endF.many (.inr rfl) (rs := [.tmp 4, .cell 5 31]) rfl (.cons (.tmp rfl) (.cons (.cellA rfl ((hG.at _ _).trans rfl) Tryz.underlying31 rfl sz31 rfl rfl) .nil)) (by simp) ?_ hN
      rw [do_1 h0 h1, new_code]; rfl
    · skip
      simp only [new_none] at h1
      simp at h1
      refine AWP.skip ?_
      refine thenA_n ?_
      refine AWP.seq ?_
      refine AWP.region (fun _ => ?_)
      refine ARun.move (.inl rfl) rfl rfl rfl (Ev.plain rfl) optN ?_
      refine ARun.fieldPe rfl rfl rfl rfl Tryz.underlying25 rfl rfl sz3 (by decide) (Ev.plain rfl) rfl optN ?_
      refine ARun.loadPe rfl rfl rfl rfl Tryz.underlying3 rfl (Ev.plain rfl) rfl optN ?_
      refine ARun.call rfl rfl rfl rfl cf29 (Ev.plain rfl) (.cons (Ev.plain rfl) (.cons (Ev.plain rfl) .nil)) rfl (fun hg => of1_fn l c.kind ⟨(hk h1).1, (hk h1).2.1, (hk h1).2.2.1⟩) optN ?_
      refine ARun.move (.inr rfl) rfl rfl rfl (Ev.plain rfl) optN ?_
      refine ⟨_, _, rfl, hG, ?_⟩
      refine thenA_n ?_
      refine AWP.seq ?_
      refine AWP.region (fun _ => ?_)
      refine ARun.move (.inl rfl) rfl rfl rfl (Ev.plain rfl) optN ?_
      refine ARun.loadPeA rfl rfl rfl rfl Tryz.underlying25 rfl sz25 (Ev.plain rfl) rfl optN ?_
      refine ARun.call rfl rfl rfl rfl cf71 (Ev.plain rfl) (.cons (Ev.plain rfl) .nil) rfl (fun hg => one_fn l c hl (hk h1).2.2.2) optN ?_
      refine ARun.extract rfl rfl rfl rfl (Ev.plain rfl) rfl optN ?_
      refine ARun.extract rfl rfl rfl rfl (Ev.plain rfl) rfl optN ?_
      refine ARun.move (.inr rfl) rfl rfl rfl (Ev.plain rfl) optN ?_
      refine ARun.storeL hG rfl rfl rfl sz31 (Ev.plain rfl) (Ev.plain rfl) rfl rfl rfl rfl rfl (Nat.le_of_ble_eq_true rfl) rfl rfl ?_
      refine ⟨_, _, rfl, hG, ?_⟩
      refine thenA_n ?_
      refine AWP.ret ?_
      refine endF.many (.inr rfl) (rs := [.tmp 4, .cell 5 31]) rfl (.cons (.tmp rfl) (.cons (.cellA rfl ((hG.at _ _).trans rfl) Tryz.underlying31 rfl sz31 rfl rfl) .nil)) (by simp) ?_ hN
      rw [do_2 h0 h1, kind_o ⟨(hk h1).1, (hk h1).2.1, (hk h1).2.2.1⟩]; rfl
theorem kind_rng {c : Cl} (h : checkP c = 0) : 1 ≤ c.kind ∧ c.kind ≤ 8 := (check_ok h).2.2.1
theorem do_fn (l : Its) (c : Cl) (hl : l.length ≤ 100) (hc : c.lines.length ≤ 1000) : FnP Tryz.prog 9 [.sl (l.map Stk.aIt), aCl c] (.tup [.sl ((doP l c).1.map Stk.aIt), aRp (doP l c).2]) := by
  by_cases h6 : c.kind = 6
  · exact do6_fn l c hl hc h6
  by_cases h7 : c.kind = 7
  · exact do7_fn l c hl hc h7
  by_cases h8 : c.kind = 8
  · exact do8_fn l c hl hc h8
  exact do1_fn l c hl hc fun h => by have := kind_rng h; exact ⟨h6, h7, h8, by omega, by omega⟩
set_option maxHeartbeats 1000000 in
theorem chkS_fn (s : St) : FnP Tryz.prog 18 [aSt s] (.int .i64 (chkP s)) := by
  refine FnP.of Tryz.func18 rfl rfl (by simp) (by simp [AV.cells, aIn, aOut, aLn, aCl, aRp, Stk.aIt, Ssn.aSe, aSt]) (fun G hG => ?_)
  have hN : NoH G.length (.int .i64 (chkP s)) := (by simp [AV.cells, aIn, aOut, aLn, aCl, aRp, Stk.aIt, Ssn.aSe, aSt])
  refine AWP.seq ?_
  refine AWP.region (fun _ => ?_)
  refine ARun.boxPe rfl rfl rfl rfl (Ev.plain rfl) rfl rfl optN ?_
  refine ARun.move (.inr rfl) rfl rfl rfl (Ev.plain rfl) optN ?_
  refine ⟨_, _, rfl, hG, ?_⟩
  refine thenA_n ?_
  refine AWP.seq ?_
  refine AWP.seq ?_
  refine AWP.region (fun _ => ?_)
  refine ARun.fieldPe rfl rfl rfl rfl Tryz.underlying39 rfl rfl sz22 (by decide) (Ev.plain rfl) rfl optN ?_
  refine ARun.loadPe rfl rfl rfl rfl Tryz.underlying22 rfl (Ev.plain rfl) rfl optN ?_
  refine ARun.call rfl rfl rfl rfl cf26 (Ev.plain rfl) (.cons (Ev.plain rfl) .nil) rfl (fun hg => Stk.check_fn s.1) optN ?_
  refine ARun.cmp rfl rfl rfl rfl (Ev.plain rfl) (Ev.plain rfl) rfl optN ?_
  refine ARun.move (.inl rfl) rfl rfl rfl (Ev.plain rfl) optN ?_
  refine ARun.fieldPe rfl rfl rfl rfl Tryz.underlying39 rfl rfl sz37 (by decide) (Ev.plain rfl) rfl optS ?_
  refine ARun.loadPe rfl rfl rfl rfl Tryz.underlying37 rfl (Ev.opt rfl (fun h => h)) rfl optS ?_
  refine ARun.call rfl rfl rfl rfl cf44 (Ev.plain rfl) (.cons (Ev.opt rfl (fun h => h)) .nil) rfl (fun hg => Ssn.check_fn s.2) optS ?_
  refine ARun.cmp rfl rfl rfl rfl (Ev.opt rfl (fun h => h)) (Ev.plain rfl) rfl optS ?_
  refine ARun.pick rfl rfl rfl rfl (Ev.plain rfl) (Ev.plain rfl) (Ev.opt rfl (by first | exact pkF | exact pkF2 | simp +contextual)) (orB _ _) optN ?_
  refine ⟨_, _, rfl, hG, ?_⟩
  refine thenA_n ?_
  refine AWP.cond rfl (fun h0 => ?_) (fun h0 => ?_)
  · skip
    simp at h0
    refine AWP.seq ?_
    refine AWP.region (fun _ => ?_)
    refine ARun.move (.inr rfl) rfl rfl rfl (Ev.plain rfl) optN ?_
    refine ⟨_, _, rfl, hG, ?_⟩
    refine thenA_n ?_
    refine AWP.ret ?_
    refine thenA_r ?_
    refine endF.one (.inr rfl) rfl (.tmp rfl) ?_ hN
    rw [chkP, if_neg (by rintro ⟨a, b⟩; rcases h0 with h0 | h0 <;> contradiction)]; rfl
  · skip
    simp at h0
    refine AWP.skip ?_
    refine thenA_n ?_
    refine AWP.seq ?_
    refine AWP.region (fun _ => ?_)
    refine ARun.move (.inr rfl) rfl rfl rfl (Ev.plain rfl) optN ?_
    refine ⟨_, _, rfl, hG, ?_⟩
    refine thenA_n ?_
    refine AWP.ret ?_
    refine endF.one (.inr rfl) rfl (.tmp rfl) ?_ hN
    rw [chkP, if_pos h0]; rfl
set_option maxHeartbeats 1000000 in
theorem bytes_fn (r : Rp) (hn : r.nums.length ≤ 1000) (hf : ∀ x, x ∈ r.nums → -9223372036854775808 ≤ x ∧ x ≤ 9223372036854775807) : FnP Tryz.prog 48 [aRp r] (.str (putR r)) := by
  refine FnP.of Tryz.func48 rfl rfl (by simp) (by simp [AV.cells, aIn, aOut, aLn, aCl, aRp, Stk.aIt, Ssn.aSe, aSt]) (fun G hG => ?_)
  have hN : NoH G.length (.str (putR r)) := (by simp [AV.cells, aIn, aOut, aLn, aCl, aRp, Stk.aIt, Ssn.aSe, aSt])
  refine AWP.seq ?_
  refine AWP.region (fun _ => ?_)
  refine ARun.boxPe rfl rfl rfl rfl (Ev.plain rfl) rfl rfl optN ?_
  refine ARun.move (.inr rfl) rfl rfl rfl (Ev.plain rfl) optN ?_
  refine ⟨_, _, rfl, hG, ?_⟩
  refine thenA_n ?_
  refine AWP.seq ?_
  refine AWP.region (fun _ => ?_)
  refine ARun.loadPeA rfl rfl rfl rfl Tryz.underlying31 rfl sz31 (Ev.plain rfl) rfl optN ?_
  refine ARun.call rfl rfl rfl rfl cf80 (Ev.plain rfl) (.cons (Ev.plain rfl) .nil) rfl (fun hg => putR_c r (by omega) hf) optN ?_
  refine ARun.move (.inl rfl) rfl rfl rfl (Ev.plain rfl) optN ?_
  refine ARun.extract rfl rfl rfl rfl (Ev.plain rfl) rfl optN ?_
  refine ARun.extract rfl rfl rfl rfl (Ev.plain rfl) rfl optN ?_
  refine ARun.move (.inr rfl) rfl rfl rfl (Ev.plain rfl) optN ?_
  refine ARun.move (.inr rfl) rfl rfl rfl (Ev.plain rfl) optN ?_
  refine ⟨_, _, rfl, hG, ?_⟩
  refine thenA_n ?_
  refine AWP.seq ?_
  refine AWP.region (fun _ => ?_)
  refine ARun.move (.inl rfl) rfl rfl rfl (Ev.plain rfl) optN ?_
  refine ARun.move (.inr rfl) rfl rfl rfl (Ev.plain rfl) optN ?_
  refine ⟨_, _, rfl, hG, ?_⟩
  refine thenA_n ?_
  refine AWP.ret ?_
  refine endF.one (.inr rfl) rfl (.tmp rfl) ?_ hN
  rfl
set_option maxHeartbeats 1000000 in
theorem apply_fn (s : St) (p : ByteArray) (hp : p.size ≤ 2000) (h1s : s.1.length ≤ 60) (h2s : s.2.length ≤ 60) : FnP Tryz.prog 21 [aSt s, .str p] (.tup [aSt (applyP s p).1, .str (applyP s p).2]) := by
  have hdl := do_len s.1 (takeC p) h1s
  have htl := takeC_len p
  have hrl := putR_len (doP s.1 (takeC p)).2
  refine FnP.of Tryz.func21 rfl rfl (by simp) (by simp [AV.cells, aIn, aOut, aLn, aCl, aRp, Stk.aIt, Ssn.aSe, aSt]) (fun G hG => ?_)
  have hN : NoH G.length (.tup [aSt (applyP s p).1, .str (applyP s p).2]) := (by simp [AV.cells, aIn, aOut, aLn, aCl, aRp, Stk.aIt, Ssn.aSe, aSt])
  refine AWP.seq ?_
  refine AWP.region (fun _ => ?_)
  refine ARun.boxPe rfl rfl rfl rfl (Ev.plain rfl) rfl rfl optN ?_
  refine ARun.alloc (j := 0) hG rfl rfl rfl rfl rfl zv39 rfl optN ?_
  refine ARun.move (.inr rfl) rfl rfl rfl (Ev.plain rfl) optN ?_
  refine ⟨_, _, rfl, hG, ?_⟩
  refine thenA_n ?_
  refine AWP.seq ?_
  refine AWP.seq ?_
  refine AWP.region (fun _ => ?_)
  refine ARun.loadPeA rfl rfl rfl rfl Tryz.underlying39 rfl sz39 (Ev.plain rfl) rfl optN ?_
  refine ARun.call rfl rfl rfl rfl cf18 (Ev.plain rfl) (.cons (Ev.plain rfl) .nil) rfl (fun hg => chkS_fn s) optN ?_
  refine ARun.move (.inr rfl) rfl rfl rfl (Ev.plain rfl) optN ?_
  refine ⟨_, _, rfl, hG, ?_⟩
  refine thenA_n ?_
  refine AWP.seq ?_
  refine AWP.region (fun _ => ?_)
  refine ARun.move (.inl rfl) rfl rfl rfl (Ev.plain rfl) optN ?_
  refine ARun.cmp rfl rfl rfl rfl (Ev.plain rfl) (Ev.plain rfl) rfl optN ?_
  refine ⟨_, _, rfl, hG, ?_⟩
  refine thenA_n ?_
  refine AWP.cond rfl (fun h0 => ?_) (fun h0 => ?_)
  · skip
    simp at h0
    refine AWP.seq ?_
    refine AWP.draw mixed (by kernel_rfl) (fun _ => ?_)
    refine ARun.loadPeA rfl rfl rfl rfl Tryz.underlying39 rfl sz39 (Ev.plain rfl) rfl optN ?_
    refine ARun.move (.inl rfl) rfl rfl rfl (Ev.plain rfl) optN ?_
    refine ARun.call rfl rfl rfl rfl cf27 (Ev.plain rfl) (.cons (Ev.plain rfl) (.cons (Ev.plain rfl) .nil)) rfl (fun hg => told_fn (chkP s) [] (by simp)) optN ?_
    refine ARun.call rfl rfl rfl rfl cf48 (Ev.plain rfl) (.cons (Ev.plain rfl) .nil) rfl (fun hg => bytes_fn ⟨chkP s, []⟩ (by simp) (by simp)) optN ?_
    refine ARun.storeL hG rfl rfl rfl sz39 (Ev.plain rfl) (Ev.plain rfl) rfl rfl rfl rfl rfl (Nat.le_of_ble_eq_true rfl) rfl rfl ?_
    refine ARun.move (.inr rfl) rfl rfl rfl (Ev.plain rfl) optN ?_
    refine ⟨by kernel_rfl, _, _, rfl, hG, ?_⟩
    refine thenA_n ?_
    refine AWP.ret ?_
    refine thenA_r ?_
    refine endF.many (.inr rfl) (rs := [.cell 4 39, .tmp 5]) rfl (.cons (.cellA rfl ((hG.at _ _).trans rfl) Tryz.underlying39 rfl sz39 rfl rfl) (.cons (.tmp rfl) .nil)) (by simp) ?_ hN
    rw [applyP, if_neg h0, chk_two h0]; rfl
  · skip
    simp at h0
    refine AWP.skip ?_
    refine thenA_n ?_
    refine AWP.seq ?_
    refine AWP.region (fun _ => ?_)
    refine ARun.move (.inl rfl) rfl rfl rfl (Ev.plain rfl) optN ?_
    refine ARun.call rfl rfl rfl rfl cf23 (Ev.plain rfl) (.cons (Ev.plain rfl) .nil) rfl (fun hg => take_c p (by omega)) optN ?_
    refine ARun.move (.inl rfl) rfl rfl rfl (Ev.plain rfl) optN ?_
    refine ARun.extract rfl rfl rfl rfl (Ev.plain rfl) rfl optN ?_
    refine ARun.extract rfl rfl rfl rfl (Ev.plain rfl) rfl optN ?_
    refine ARun.alloc (j := 1) hG rfl rfl rfl rfl rfl zv25 rfl optN ?_
    refine ARun.storeL hG rfl rfl rfl sz25 (Ev.plain rfl) (Ev.plain rfl) rfl rfl rfl rfl rfl (Nat.le_of_ble_eq_true rfl) rfl rfl ?_
    refine ARun.move (.inr rfl) rfl rfl rfl (Ev.plain rfl) optN ?_
    refine ⟨_, _, rfl, hG, ?_⟩
    refine thenA_n ?_
    refine AWP.seq ?_
    refine AWP.seq ?_
    refine AWP.region (fun _ => ?_)
    refine ARun.move (.inl rfl) rfl rfl rfl (Ev.plain rfl) optN ?_
    refine ARun.isNil rfl rfl rfl rfl Tryz.underlying53 (Ev.plain rfl) (fun hg => by first | rfl | exact nilA_aEr _) (.inr ⟨rfl, rfl⟩) optN ?_
    refine ⟨_, _, rfl, hG, ?_⟩
    refine thenA_n ?_
    refine AWP.cond rfl (fun h1 => ?_) (fun h1 => ?_)
    · skip
      simp only [takeErr_none] at h1
      simp at h1
      refine AWP.seq ?_
      refine AWP.draw mixed (by kernel_rfl) (fun _ => ?_)
      refine ARun.loadPeA rfl rfl rfl rfl Tryz.underlying39 rfl sz39 (Ev.plain rfl) rfl optN ?_
      refine ARun.move (.inl rfl) rfl rfl rfl (Ev.plain rfl) optN ?_
      refine ARun.call rfl rfl rfl rfl cf25 (Ev.plain rfl) (.cons (Ev.plain rfl) .nil) rfl (fun hg => code_fn (takeErr p)) optN ?_
      refine ARun.call rfl rfl rfl rfl cf27 (Ev.plain rfl) (.cons (Ev.plain rfl) (.cons (Ev.plain rfl) .nil)) rfl (fun hg => told_fn (takeErr p).code [] (by simp)) optN ?_
      refine ARun.call rfl rfl rfl rfl cf48 (Ev.plain rfl) (.cons (Ev.plain rfl) .nil) rfl (fun hg => bytes_fn ⟨(takeErr p).code, []⟩ (by simp) (by simp)) optN ?_
      refine ARun.storeL hG rfl rfl rfl sz39 (Ev.plain rfl) (Ev.plain rfl) rfl rfl rfl rfl rfl (Nat.le_of_ble_eq_true rfl) rfl rfl ?_
      refine ARun.move (.inr rfl) rfl rfl rfl (Ev.plain rfl) optN ?_
      refine ⟨by kernel_rfl, _, _, rfl, hG, ?_⟩
      refine thenA_n ?_
      refine AWP.ret ?_
      refine thenA_r ?_
      refine endF.many (.inr rfl) (rs := [.cell 4 39, .tmp 5]) rfl (.cons (.cellA rfl ((hG.at _ _).trans rfl) Tryz.underlying39 rfl sz39 rfl rfl) (.cons (.tmp rfl) .nil)) (by simp) ?_ hN
      rw [applyP, if_pos h0, if_neg h1, takeErr_code]; rfl
    · skip
      simp only [takeErr_none] at h1
      simp at h1
      refine AWP.skip ?_
      refine thenA_n ?_
      refine AWP.seq ?_
      refine AWP.region (fun _ => ?_)
      refine ARun.fieldPe rfl rfl rfl rfl Tryz.underlying39 rfl rfl sz37 (by decide) (Ev.plain rfl) rfl optN ?_
      refine ARun.loadPe rfl rfl rfl rfl Tryz.underlying37 rfl (Ev.plain rfl) rfl optN ?_
      refine ARun.fieldBox (fo := 0) rfl rfl rfl rfl Tryz.underlying25 rfl rfl sz3 (by decide) (Ev.plain rfl) ((hG.at _ _).trans rfl) optN ?_
      refine ARun.loadBox rfl rfl rfl rfl Tryz.underlying3 rfl (Ev.plain rfl) ((hG.at _ _).trans rfl) rfl optN ?_
      refine ARun.fieldBox (fo := 1) rfl rfl rfl rfl Tryz.underlying25 rfl rfl sz3 (by decide) (Ev.plain rfl) ((hG.at _ _).trans rfl) optN ?_
      refine ARun.loadBox rfl rfl rfl rfl Tryz.underlying3 rfl (Ev.plain rfl) ((hG.at _ _).trans rfl) rfl optN ?_
      refine ARun.call rfl rfl rfl rfl cf49 (Ev.plain rfl) (.cons (Ev.plain rfl) (.cons (Ev.plain rfl) (.cons (Ev.plain rfl) .nil))) rfl (fun hg => Ssn.ask_fn s.2 (takeC p).client (takeC p).seq (by omega)) optN ?_
      refine ARun.move (.inl rfl) rfl rfl rfl (Ev.plain rfl) optN ?_
      refine ARun.extract rfl rfl rfl rfl (Ev.plain rfl) rfl optN ?_
      refine ARun.extract rfl rfl rfl rfl (Ev.plain rfl) rfl optN ?_
      refine ARun.extract rfl rfl rfl rfl (Ev.plain rfl) rfl optN ?_
      refine ARun.move (.inr rfl) rfl rfl rfl (Ev.plain rfl) optN ?_
      refine ARun.move (.inr rfl) rfl rfl rfl (Ev.plain rfl) optN ?_
      refine ARun.move (.inr rfl) rfl rfl rfl (Ev.plain rfl) optN ?_
      refine ⟨_, _, rfl, hG, ?_⟩
      refine thenA_n ?_
      refine AWP.seq ?_
      refine AWP.block ?_
      refine AWP.seq ?_
      refine AWP.region (fun _ => ?_)
      refine ARun.move (.inl rfl) rfl rfl rfl (Ev.plain rfl) optN ?_
      refine ARun.cmp rfl rfl rfl rfl (Ev.plain rfl) (Ev.plain rfl) rfl optN ?_
      refine ARun.move (.inr rfl) rfl rfl rfl (Ev.plain rfl) optN ?_
      refine ⟨_, _, rfl, hG, ?_⟩
      refine thenA_n ?_
      refine AWP.cond rfl (fun h2 => ?_) (fun h2 => ?_)
      · skip
        simp at h2
        refine AWP.seq ?_
        refine AWP.draw mixed (by kernel_rfl) (fun _ => ?_)
        refine ARun.loadPeA rfl rfl rfl rfl Tryz.underlying39 rfl sz39 (Ev.plain rfl) rfl optN ?_
        refine ARun.move (.inl rfl) rfl rfl rfl (Ev.plain rfl) optN ?_
        refine ARun.call rfl rfl rfl rfl cf27 (Ev.plain rfl) (.cons (Ev.plain rfl) (.cons (Ev.plain rfl) .nil)) rfl (fun hg => told_fn (asP s p).2.2 [] (by simp)) optN ?_
        refine ARun.call rfl rfl rfl rfl cf48 (Ev.plain rfl) (.cons (Ev.plain rfl) .nil) rfl (fun hg => bytes_fn ⟨(asP s p).2.2, []⟩ (by simp) (by simp)) optN ?_
        refine ARun.storeL hG rfl rfl rfl sz39 (Ev.plain rfl) (Ev.plain rfl) rfl rfl rfl rfl rfl (Nat.le_of_ble_eq_true rfl) rfl rfl ?_
        refine ARun.move (.inr rfl) rfl rfl rfl (Ev.plain rfl) optN ?_
        refine ⟨by kernel_rfl, _, _, rfl, hG, ?_⟩
        refine thenA_n ?_
        refine AWP.ret ?_
        refine blockA_r ?_
        refine thenA_r ?_
        refine endF.many (.inr rfl) (rs := [.cell 4 39, .tmp 5]) rfl (.cons (.cellA rfl ((hG.at _ _).trans rfl) Tryz.underlying39 rfl sz39 rfl rfl) (.cons (.tmp rfl) .nil)) (by simp) ?_ hN
        rw [applyP, if_pos h0, if_pos h1, if_neg h2]; rfl
      · skip
        simp at h2
        refine AWP.seq ?_
        refine AWP.region (fun _ => ?_)
        refine ARun.move (.inl rfl) rfl rfl rfl (Ev.plain rfl) optN ?_
        refine ARun.move (.inr rfl) rfl rfl rfl (Ev.plain rfl) optN ?_
        refine ⟨_, _, rfl, hG, ?_⟩
        refine thenA_n ?_
        refine AWP.cond rfl (fun h3 => ?_) (fun h3 => ?_)
        · skip
          skip
          refine AWP.seq ?_
          refine AWP.region (fun _ => ?_)
          refine ARun.loadPeA rfl rfl rfl rfl Tryz.underlying39 rfl sz39 (Ev.plain rfl) rfl optN ?_
          refine ARun.move (.inl rfl) rfl rfl rfl (Ev.plain rfl) optN ?_
          refine ARun.storeL hG rfl rfl rfl sz39 (Ev.plain rfl) (Ev.plain rfl) rfl rfl rfl rfl rfl (Nat.le_of_ble_eq_true rfl) rfl rfl ?_
          refine ARun.move (.inr rfl) rfl rfl rfl (Ev.plain rfl) optN ?_
          refine ⟨_, _, rfl, hG, ?_⟩
          refine thenA_n ?_
          refine AWP.ret ?_
          refine blockA_r ?_
          refine thenA_r ?_
          refine endF.many (.inr rfl) (rs := [.cell 4 39, .tmp 5]) rfl (.cons (.cellA rfl ((hG.at _ _).trans rfl) Tryz.underlying39 rfl sz39 rfl rfl) (.cons (.tmp rfl) .nil)) (by simp) ?_ hN
          rw [applyP, if_pos h0, if_pos h1, if_pos h2, if_pos h3]; rfl
        · skip
          try simp at h3
          have hnz := note_zero h1 (by omega) h2 h3
          refine AWP.skip ?_
          refine blockA_n ?_
          refine thenA_n ?_
          refine AWP.seq ?_
          refine AWP.region (fun _ => ?_)
          refine ARun.fieldPe rfl rfl rfl rfl Tryz.underlying39 rfl rfl sz22 (by decide) (Ev.plain rfl) rfl optN ?_
          refine ARun.loadPe rfl rfl rfl rfl Tryz.underlying22 rfl (Ev.plain rfl) rfl optN ?_
          refine ARun.loadBoxA rfl rfl rfl rfl Tryz.underlying25 rfl sz25 (Ev.plain rfl) ((hG.at _ _).trans rfl) rfl rfl optN ?_
          refine ARun.call rfl rfl rfl rfl cf9 (Ev.plain rfl) (.cons (Ev.plain rfl) (.cons (Ev.plain rfl) .nil)) rfl (fun hg => do_fn s.1 (takeC p) (by omega) (by omega)) optN ?_
          refine ARun.move (.inl rfl) rfl rfl rfl (Ev.plain rfl) optN ?_
          refine ARun.extract rfl rfl rfl rfl (Ev.plain rfl) rfl optN ?_
          refine ARun.extract rfl rfl rfl rfl (Ev.plain rfl) rfl optN ?_
          refine ARun.alloc (j := 2) hG rfl rfl rfl rfl rfl zv31 rfl optN ?_
          refine ARun.move (.inr rfl) rfl rfl rfl (Ev.plain rfl) optN ?_
          refine ARun.storeL hG rfl rfl rfl sz31 (Ev.plain rfl) (Ev.plain rfl) rfl rfl rfl rfl rfl (Nat.le_of_ble_eq_true rfl) rfl rfl ?_
          refine ⟨_, _, rfl, hG, ?_⟩
          refine thenA_n ?_
          refine AWP.seq ?_
          refine AWP.region (fun _ => ?_)
          refine ARun.loadBoxA rfl rfl rfl rfl Tryz.underlying31 rfl sz31 (Ev.plain rfl) ((hG.at _ _).trans rfl) rfl rfl optN ?_
          refine ARun.call rfl rfl rfl rfl cf48 (Ev.plain rfl) (.cons (Ev.plain rfl) .nil) rfl (fun hg => bytes_fn (doP s.1 (takeC p)).2 (by have := (do_fine s.1 (takeC p)).len; omega) (do_fine s.1 (takeC p)).num) optN ?_
          refine ARun.move (.inr rfl) rfl rfl rfl (Ev.plain rfl) optN ?_
          refine ⟨_, _, rfl, hG, ?_⟩
          refine thenA_n ?_
          refine AWP.seq ?_
          refine AWP.region (fun _ => ?_)
          refine ARun.fieldPe rfl rfl rfl rfl Tryz.underlying39 rfl rfl sz37 (by decide) (Ev.plain rfl) rfl optN ?_
          refine ARun.loadPe rfl rfl rfl rfl Tryz.underlying37 rfl (Ev.plain rfl) rfl optN ?_
          refine ARun.fieldBox (fo := 0) rfl rfl rfl rfl Tryz.underlying25 rfl rfl sz3 (by decide) (Ev.plain rfl) ((hG.at _ _).trans rfl) optN ?_
          refine ARun.loadBox rfl rfl rfl rfl Tryz.underlying3 rfl (Ev.plain rfl) ((hG.at _ _).trans rfl) rfl optN ?_
          refine ARun.fieldBox (fo := 1) rfl rfl rfl rfl Tryz.underlying25 rfl rfl sz3 (by decide) (Ev.plain rfl) ((hG.at _ _).trans rfl) optN ?_
          refine ARun.loadBox rfl rfl rfl rfl Tryz.underlying3 rfl (Ev.plain rfl) ((hG.at _ _).trans rfl) rfl optN ?_
          refine ARun.move (.inl rfl) rfl rfl rfl (Ev.plain rfl) optN ?_
          refine ARun.build rfl rfl rfl rfl so60 (.cons (Ev.plain rfl) (.cons (Ev.plain rfl) (.cons (Ev.plain rfl) .nil))) rfl rfl optN ?_
          refine ARun.call rfl rfl rfl rfl cf50 (Ev.plain rfl) (.cons (Ev.plain rfl) (.cons (Ev.plain rfl) .nil)) rfl (fun hg => Ssn.note_fn s.2 (nwP s p) (by omega) (by show (putR _).size ≤ _; omega)) optN ?_
          refine ARun.move (.inl rfl) rfl rfl rfl (Ev.plain rfl) optN ?_
          refine ARun.extract rfl rfl rfl rfl (Ev.plain rfl) rfl optN ?_
          refine ARun.extract rfl rfl rfl rfl (Ev.plain rfl) rfl optN ?_
          refine ARun.move (.inr rfl) rfl rfl rfl (Ev.plain rfl) optN ?_
          refine ARun.move (.inr rfl) rfl rfl rfl (Ev.plain rfl) optN ?_
          refine ⟨_, _, rfl, hG, ?_⟩
          refine thenA_n ?_
          refine AWP.seq ?_
          refine AWP.seq ?_
          refine AWP.region (fun _ => ?_)
          refine ARun.move (.inl rfl) rfl rfl rfl (Ev.plain rfl) optN ?_
          refine ARun.cmp rfl rfl rfl rfl (Ev.plain rfl) (Ev.plain rfl) rfl optN ?_
          refine ⟨_, _, rfl, hG, ?_⟩
          refine thenA_n ?_
          refine AWP.cond rfl (fun h4 => ?_) (fun h4 => ?_)
          · skip
            simp [hnz] at h4
          · skip
            skip
            refine AWP.skip ?_
            refine thenA_n ?_
            refine AWP.seq ?_
            refine AWP.region (fun _ => ?_)
            refine ARun.move (.inl rfl) rfl rfl rfl (Ev.plain rfl) optN ?_
            refine ARun.call rfl rfl rfl rfl cf51 (Ev.plain rfl) (.cons (Ev.plain rfl) .nil) rfl (fun hg => cloneIt_fn (doP s.1 (takeC p)).1 (by omega)) optN ?_
            refine ARun.move (.inl rfl) rfl rfl rfl (Ev.plain rfl) optN ?_
            refine ARun.build rfl rfl rfl rfl so39 (.cons (Ev.plain rfl) (.cons (Ev.plain rfl) .nil)) rfl rfl optN ?_
            refine ARun.move (.inl rfl) rfl rfl rfl (Ev.plain rfl) optN ?_
            refine ARun.storeL hG rfl rfl rfl sz39 (Ev.plain rfl) (Ev.plain rfl) rfl rfl rfl rfl rfl (Nat.le_of_ble_eq_true rfl) rfl rfl ?_
            refine ARun.move (.inr rfl) rfl rfl rfl (Ev.plain rfl) optN ?_
            refine ⟨_, _, rfl, hG, ?_⟩
            refine thenA_n ?_
            refine AWP.ret ?_
            refine endF.many (.inr rfl) (rs := [.cell 4 39, .tmp 5]) rfl (.cons (.cellA rfl ((hG.at _ _).trans rfl) Tryz.underlying39 rfl sz39 rfl rfl) (.cons (.tmp rfl) .nil)) (by simp) ?_ hN
            rw [applyP, if_pos h0, if_pos h1, if_pos h2, if_neg (by simp [h3])]; rfl
end Go.Proofs.YtgebpndhnkkbgaaGreatDoor
namespace Go.Proofs.YtgebpndhnkkbgaaGreatDoor
set_option linter.unusedVariables false
set_option linter.unusedSimpArgs false
open NumP
set_option linter.unusedVariables false
set_option linter.unusedSimpArgs false
set_option maxRecDepth 100000
/-! ### what a payload does -/
theorem apply_cases {s : St} {p : ByteArray} (hp : p.size ≤ 1000000) (hc : chkP s = 0) :
    (takeE p ≠ 0 ∧ applyP s p = (s, putR ⟨takeE p, []⟩)) ∨ (takeE p = 0 ∧ (asP s p).2.2 ≠ 0 ∧ applyP s p = (s, putR ⟨(asP s p).2.2, []⟩)) ∨
    (takeE p = 0 ∧ (asP s p).2.2 = 0 ∧ (asP s p).2.1 = true ∧ applyP s p = (s, (asP s p).1)) ∨
    (takeE p = 0 ∧ (asP s p).2.2 = 0 ∧ (asP s p).2.1 = false ∧ (ntP s p).2 = 0 ∧ applyP s p = (((doP s.1 (takeC p)).1, (ntP s p).1), putR (doP s.1 (takeC p)).2)) := by
  unfold applyP
  rw [if_pos hc]
  by_cases h1 : takeE p = 0
  · rw [if_pos h1]
    by_cases h2 : (asP s p).2.2 = 0
    · rw [if_pos h2]
      cases h3 : (asP s p).2.1 with
      | true => exact .inr (.inr (.inl ⟨h1, h2, rfl, if_pos rfl⟩))
      | false => exact .inr (.inr (.inr ⟨h1, h2, rfl, note_zero h1 hp h2 h3, if_neg (by decide)⟩))
    · rw [if_neg h2]; exact .inr (.inl ⟨h1, h2, rfl⟩)
  · rw [if_neg h1]; exact .inl ⟨h1, rfl⟩
theorem apply_bad {s : St} {p : ByteArray} (hc : ¬ chkP s = 0) : (applyP s p).1 = s := by unfold applyP; rw [if_neg hc]
theorem apply_ok {s : St} {p : ByteArray} (hp : p.size ≤ 1000000) (hc : chkP s = 0) : chkP (applyP s p).1 = 0 := by
  obtain ⟨c1, c2⟩ := chk_zero hc
  rcases apply_cases hp hc with ⟨_, h⟩ | ⟨_, _, h⟩ | ⟨_, _, _, h⟩ | ⟨_, _, _, hn, h⟩ <;> rw [h]
  · exact hc
  · exact hc
  · exact hc
  · exact chk_mk (Stk.okE_ok.2 (do_ok (Stk.okE_ok.1 c1))) (Ssn.note_ok hn)
theorem back_do (l : Its) (c : Cl) : (rdReply (putR (doP l c).2)).1.e = 0 ∧ takeR (putR (doP l c).2) = (doP l c).2 :=
  rep_back (do_fine l c).rep fun x hx => by have := (do_fine l c).fit x hx; omega
/-- where it was found -/
theorem again_found {l : Ses} {c q : Int} (h : (Ssn.askP l c q).2.1 = true) : (Ssn.findP l c).2 = true ∧ (Ssn.findP l c).1.seq = q ∧ (Ssn.askP l c q).1 = (Ssn.findP l c).1.reply := by
  unfold Ssn.askP at h ⊢
  split
  · rename_i h1
    rw [if_pos h1] at h
    split
    · rename_i h2
      rw [if_pos h2] at h
      split
      · rename_i h3; exact ⟨h2, h3, rfl⟩
      · rename_i h3
        rw [if_neg h3] at h
        split at h <;> cases h
    · rename_i h2
      rw [if_neg h2] at h
      split at h <;> cases h
  · rename_i h1
    rw [if_neg h1] at h; cases h
theorem found_at {l : Ses} {c : Int} (h : (Ssn.findP l c).2 = true) : ∃ k, k < l.length ∧ l.getD k default = (Ssn.findP l c).1 ∧ (l.getD k default).client = c := by
  have hid := Ssn.findP_id h
  unfold Ssn.findP at h hid ⊢
  split at h
  · rename_i h1
    rw [if_pos h1] at hid ⊢
    have hr := Ssn.idx_range (fun x : SessP.Se => decide (x.client = c)) l
    exact ⟨_, by omega, rfl, hid⟩
  · cases h
theorem reply_len {s : St} {p : ByteArray} (hp : p.size ≤ 1000000) (hc : chkP s = 0) (hf : ∀ x, x ∈ s.2 → x.reply.size ≤ 1000) : (applyP s p).2.size ≤ 1000 := by
  rcases apply_cases hp hc with ⟨_, h⟩ | ⟨_, _, h⟩ | ⟨_, _, hg, h⟩ | ⟨_, _, _, _, h⟩ <;> rw [h]
  · exact putR_len _
  · exact putR_len _
  · obtain ⟨f1, f2, f3⟩ := again_found hg
    obtain ⟨k, hk, e, _⟩ := found_at f1
    show (asP s p).1.size ≤ 1000
    rw [f3, ← e]
    exact hf _ (by rw [show s.2.getD k default = s.2[k] from by simp [List.getD, hk]]; exact List.getElem_mem hk)
  · exact putR_len _
/-- is it noted among the first k? -/
def noted (l : Ses) (c q : Int) (r : ByteArray) (k : Nat) : Bool := (l.take k).any fun x => decide (x.client = c) && decide (x.seq = q) && decide (x.reply = r)
theorem apply_refused {s : St} {p : ByteArray} (hp : p.size ≤ 1000000) (hc : chkP s = 0) (h1 : (takeR (applyP s p).2).code ≠ 0) : (applyP s p).1.1 = s.1 := by
  rcases apply_cases hp hc with ⟨_, h⟩ | ⟨_, _, h⟩ | ⟨_, _, _, h⟩ | ⟨_, _, _, _, h⟩
  · rw [h]
  · rw [h]
  · rw [h]
  · rw [h] at h1 ⊢
    rw [show takeR (((doP s.1 (takeC p)).1, (ntP s p).1), putR (doP s.1 (takeC p)).2).2 = (doP s.1 (takeC p)).2 from (back_do _ _).2] at h1
    exact do_same h1
def fewS (s : St) : Bool := decide (s.1.length ≤ 60) && Ssn.fewB s.2
theorem fewS_facts {s : St} (h : fewS s = true) : s.1.length ≤ 60 ∧ s.2.length ≤ 60 ∧ ∀ x, x ∈ s.2 → x.reply.size ≤ 1000 := by
  unfold fewS at h
  rw [Bool.and_eq_true, decide_eq_true_eq] at h
  have h2 := h.2
  unfold Ssn.fewB at h2
  simp only [Bool.and_eq_true, decide_eq_true_eq, List.all_eq_true] at h2
  exact ⟨h.1, h2.1, h2.2⟩
end Go.Proofs.YtgebpndhnkkbgaaGreatDoor
namespace Go.Proofs.YtgebpndhnkkbgaaGreatDoor
set_option linter.unusedVariables false
set_option linter.unusedSimpArgs false
open Go.RowKit
open NumP
set_option maxRecDepth 100000
set_option maxHeartbeats 1000000 in
theorem few10_fn (c : Cl) : FnP Tryz.prog 7 [aCl c] (.bool (decide (c.lines.length ≤ 50))) := by
  refine FnP.of Tryz.func7 rfl rfl (by simp) (by simp [AV.cells, aIn, aOut, aLn, aCl, aRp, Stk.aIt, Ssn.aSe, aSt]) (fun G hG => ?_)
  have hN : NoH G.length (.bool (decide (c.lines.length ≤ 50))) := (by simp [AV.cells, aIn, aOut, aLn, aCl, aRp, Stk.aIt, Ssn.aSe, aSt])
  refine AWP.seq ?_
  refine AWP.region (fun _ => ?_)
  refine ARun.boxPe rfl rfl rfl rfl (Ev.plain rfl) rfl rfl optN ?_
  refine ARun.move (.inr rfl) rfl rfl rfl (Ev.plain rfl) optN ?_
  refine ⟨_, _, rfl, hG, ?_⟩
  refine thenA_n ?_
  refine AWP.seq ?_
  refine AWP.region (fun _ => ?_)
  refine ARun.fieldPe rfl rfl rfl rfl Tryz.underlying25 rfl rfl sz23 (by decide) (Ev.plain rfl) rfl optN ?_
  refine ARun.loadPe rfl rfl rfl rfl Tryz.underlying23 rfl (Ev.plain rfl) rfl optN ?_
  refine ARun.lenSl rfl rfl rfl rfl Tryz.underlying23 (Ev.plain rfl) optN ?_
  refine ARun.cmp rfl rfl rfl rfl (Ev.plain rfl) (Ev.plain rfl) rfl optN ?_
  refine ARun.move (.inr rfl) rfl rfl rfl (Ev.plain rfl) optN ?_
  refine ⟨_, _, rfl, hG, ?_⟩
  refine thenA_n ?_
  refine AWP.ret ?_
  refine endF.one (.inr rfl) rfl (.tmp rfl) ?_ hN
  simp; omega
set_option maxHeartbeats 1000000 in
theorem fewS_fn (s : St) : FnP Tryz.prog 13 [aSt s] (.bool (fewS s)) := by
  refine FnP.of Tryz.func13 rfl rfl (by simp) (by simp [AV.cells, aIn, aOut, aLn, aCl, aRp, Stk.aIt, Ssn.aSe, aSt]) (fun G hG => ?_)
  have hN : NoH G.length (.bool (fewS s)) := (by simp [AV.cells, aIn, aOut, aLn, aCl, aRp, Stk.aIt, Ssn.aSe, aSt])
  refine AWP.seq ?_
  refine AWP.region (fun _ => ?_)
  refine ARun.boxPe rfl rfl rfl rfl (Ev.plain rfl) rfl rfl optN ?_
  refine ARun.move (.inr rfl) rfl rfl rfl (Ev.plain rfl) optN ?_
  refine ⟨_, _, rfl, hG, ?_⟩
  refine thenA_n ?_
  refine AWP.seq ?_
  refine AWP.region (fun _ => ?_)
  refine ARun.fieldPe rfl rfl rfl rfl Tryz.underlying39 rfl rfl sz22 (by decide) (Ev.plain rfl) rfl optN ?_
  refine ARun.loadPe rfl rfl rfl rfl Tryz.underlying22 rfl (Ev.plain rfl) rfl optN ?_
  refine ARun.lenSl rfl rfl rfl rfl Tryz.underlying22 (Ev.plain rfl) optN ?_
  refine ARun.cmp rfl rfl rfl rfl (Ev.plain rfl) (Ev.plain rfl) rfl optN ?_
  refine ARun.move (.inl rfl) rfl rfl rfl (Ev.plain rfl) optN ?_
  refine ARun.fieldPe rfl rfl rfl rfl Tryz.underlying39 rfl rfl sz37 (by decide) (Ev.plain rfl) rfl optS ?_
  refine ARun.loadPe rfl rfl rfl rfl Tryz.underlying37 rfl (Ev.opt rfl (fun h => h)) rfl optS ?_
  refine ARun.call rfl rfl rfl rfl cf42 (Ev.plain rfl) (.cons (Ev.opt rfl (fun h => h)) .nil) rfl (fun hg => Ssn.few_fn s.2) optS ?_
  refine ARun.pick rfl rfl rfl rfl (Ev.plain rfl) (Ev.opt rfl (by first | exact pkT | exact pkT2 | simp +contextual)) (Ev.plain rfl) (andB _ _) optN ?_
  refine ARun.move (.inr rfl) rfl rfl rfl (Ev.plain rfl) optN ?_
  refine ⟨_, _, rfl, hG, ?_⟩
  refine thenA_n ?_
  refine AWP.ret ?_
  refine endF.one (.inr rfl) rfl (.tmp rfl) ?_ hN
  rw [show fewS s = (decide ((((s.1.map Stk.aIt).length : Nat) : Int) ≤ 60) && Ssn.fewB s.2) from by unfold fewS; rw [List.length_map]; congr 1; exact decide_eq_decide.2 (by omega)]
set_option maxHeartbeats 1000000 in
theorem sameS_fn (a b : St) (h1 : a.1.length ≤ 1000) (h2 : a.2.length ≤ 1000) : FnP Tryz.prog 16 [aSt a, aSt b] (.bool (decide (a = b))) := by
  refine FnP.of Tryz.func16 rfl rfl (by simp) (by simp [AV.cells, aIn, aOut, aLn, aCl, aRp, Stk.aIt, Ssn.aSe, aSt]) (fun G hG => ?_)
  have hN : NoH G.length (.bool (decide (a = b))) := (by simp [AV.cells, aIn, aOut, aLn, aCl, aRp, Stk.aIt, Ssn.aSe, aSt])
  refine AWP.seq ?_
  refine AWP.region (fun _ => ?_)
  refine ARun.boxPe rfl rfl rfl rfl (Ev.plain rfl) rfl rfl optN ?_
  refine ARun.boxPe rfl rfl rfl rfl (Ev.plain rfl) rfl rfl optN ?_
  refine ARun.move (.inr rfl) rfl rfl rfl (Ev.plain rfl) optN ?_
  refine ⟨_, _, rfl, hG, ?_⟩
  refine thenA_n ?_
  refine AWP.seq ?_
  refine AWP.region (fun _ => ?_)
  refine ARun.fieldPe rfl rfl rfl rfl Tryz.underlying39 rfl rfl sz22 (by decide) (Ev.plain rfl) rfl optN ?_
  refine ARun.loadPe rfl rfl rfl rfl Tryz.underlying22 rfl (Ev.plain rfl) rfl optN ?_
  refine ARun.fieldPe rfl rfl rfl rfl Tryz.underlying39 rfl rfl sz22 (by decide) (Ev.plain rfl) rfl optN ?_
  refine ARun.loadPe rfl rfl rfl rfl Tryz.underlying22 rfl (Ev.plain rfl) rfl optN ?_
  refine ARun.call rfl rfl rfl rfl cf11 (Ev.plain rfl) (.cons (Ev.plain rfl) (.cons (Ev.plain rfl) .nil)) rfl (fun hg => Stk.same_fn a.1 b.1 (by omega)) optN ?_
  refine ARun.move (.inl rfl) rfl rfl rfl (Ev.plain rfl) optN ?_
  refine ARun.fieldPe rfl rfl rfl rfl Tryz.underlying39 rfl rfl sz37 (by decide) (Ev.plain rfl) rfl optS ?_
  refine ARun.loadPe rfl rfl rfl rfl Tryz.underlying37 rfl (Ev.opt rfl (fun h => h)) rfl optS ?_
  refine ARun.fieldPe rfl rfl rfl rfl Tryz.underlying39 rfl rfl sz37 (by decide) (Ev.plain rfl) rfl optS ?_
  refine ARun.loadPe rfl rfl rfl rfl Tryz.underlying37 rfl (Ev.opt rfl (fun h => h)) rfl optS ?_
  refine ARun.call rfl rfl rfl rfl cf43 (Ev.plain rfl) (.cons (Ev.opt rfl (fun h => h)) (.cons (Ev.opt rfl (fun h => h)) .nil)) rfl (fun hg => Ssn.same_fn a.2 b.2 (by omega)) optS ?_
  refine ARun.pick rfl rfl rfl rfl (Ev.plain rfl) (Ev.opt rfl (by first | exact pkT | exact pkT2 | simp +contextual)) (Ev.plain rfl) (andB _ _) optN ?_
  refine ARun.move (.inr rfl) rfl rfl rfl (Ev.plain rfl) optN ?_
  refine ⟨_, _, rfl, hG, ?_⟩
  refine thenA_n ?_
  refine AWP.ret ?_
  refine endF.one (.inr rfl) rfl (.tmp rfl) ?_ hN
  refine congrArg AV.bool ?_
  rw [← Bool.decide_and]; exact decide_eq_decide.2 (by rw [Prod.ext_iff])
set_option maxHeartbeats 1000000 in
theorem sameV_fn (a b : St) (h1 : a.1.length ≤ 1000) (h2 : a.2.length ≤ 1000) : FnP Tryz.prog 20 [aSt a, aSt b] (.bool (decide (a = b))) := by
  refine FnP.of Tryz.func20 rfl rfl (by simp) (by simp [AV.cells, aIn, aOut, aLn, aCl, aRp, Stk.aIt, Ssn.aSe, aSt]) (fun G hG => ?_)
  have hN : NoH G.length (.bool (decide (a = b))) := (by simp [AV.cells, aIn, aOut, aLn, aCl, aRp, Stk.aIt, Ssn.aSe, aSt])
  refine AWP.seq ?_
  refine AWP.region (fun _ => ?_)
  refine ARun.boxPe rfl rfl rfl rfl (Ev.plain rfl) rfl rfl optN ?_
  refine ARun.boxPe rfl rfl rfl rfl (Ev.plain rfl) rfl rfl optN ?_
  refine ARun.move (.inr rfl) rfl rfl rfl (Ev.plain rfl) optN ?_
  refine ⟨_, _, rfl, hG, ?_⟩
  refine thenA_n ?_
  refine AWP.seq ?_
  refine AWP.region (fun _ => ?_)
  refine ARun.fieldPe rfl rfl rfl rfl Tryz.underlying39 rfl rfl sz22 (by decide) (Ev.plain rfl) rfl optN ?_
  refine ARun.loadPe rfl rfl rfl rfl Tryz.underlying22 rfl (Ev.plain rfl) rfl optN ?_
  refine ARun.fieldPe rfl rfl rfl rfl Tryz.underlying39 rfl rfl sz22 (by decide) (Ev.plain rfl) rfl optN ?_
  refine ARun.loadPe rfl rfl rfl rfl Tryz.underlying22 rfl (Ev.plain rfl) rfl optN ?_
  refine ARun.call rfl rfl rfl rfl cf46 (Ev.plain rfl) (.cons (Ev.plain rfl) (.cons (Ev.plain rfl) .nil)) rfl (fun hg => Stk.eq_fn a.1 b.1 (by omega)) optN ?_
  refine ARun.move (.inl rfl) rfl rfl rfl (Ev.plain rfl) optN ?_
  refine ARun.fieldPe rfl rfl rfl rfl Tryz.underlying39 rfl rfl sz37 (by decide) (Ev.plain rfl) rfl optS ?_
  refine ARun.loadPe rfl rfl rfl rfl Tryz.underlying37 rfl (Ev.opt rfl (fun h => h)) rfl optS ?_
  refine ARun.fieldPe rfl rfl rfl rfl Tryz.underlying39 rfl rfl sz37 (by decide) (Ev.plain rfl) rfl optS ?_
  refine ARun.loadPe rfl rfl rfl rfl Tryz.underlying37 rfl (Ev.opt rfl (fun h => h)) rfl optS ?_
  refine ARun.call rfl rfl rfl rfl cf47 (Ev.plain rfl) (.cons (Ev.opt rfl (fun h => h)) (.cons (Ev.opt rfl (fun h => h)) .nil)) rfl (fun hg => Ssn.sameP_fn a.2 b.2 (by omega)) optS ?_
  refine ARun.pick rfl rfl rfl rfl (Ev.plain rfl) (Ev.opt rfl (by first | exact pkT | exact pkT2 | simp +contextual)) (Ev.plain rfl) (andB _ _) optN ?_
  refine ARun.move (.inr rfl) rfl rfl rfl (Ev.plain rfl) optN ?_
  refine ⟨_, _, rfl, hG, ?_⟩
  refine thenA_n ?_
  refine AWP.ret ?_
  refine endF.one (.inr rfl) rfl (.tmp rfl) ?_ hN
  refine congrArg AV.bool ?_
  rw [← Bool.decide_and]; exact decide_eq_decide.2 (by rw [Prod.ext_iff])
theorem str_snoc (l : List ByteArray) (x : ByteArray) : l.map AV.str ++ [AV.str x] = (l ++ [x]).map AV.str := by simp
set_option maxHeartbeats 1000000 in
theorem fold_fn (s : St) (l : List ByteArray) (hl : l.length ≤ 30) (hs : ∀ x, x ∈ l → x.size ≤ 2000) (h1s : s.1.length ≤ 60) (h2s : s.2.length ≤ 60) : FnP Tryz.prog 14 [aSt s, .sl (l.map AV.str)] (.tup [aSt (foldP s l).1, .sl ((foldP s l).2.map AV.str)]) := by
  have hfl := fold_len s l (fun x hx => by have := hs x hx; omega) h1s h2s
  have hxs : ∀ k, k < l.length → (l.getD k default).size ≤ 2000 := fun k hk => by rw [show l.getD k default = l[k] from by simp [List.getD, hk]]; exact hs _ (List.getElem_mem hk)
  refine FnP.of Tryz.func14 rfl rfl (by simp) (by simp [AV.cells, aIn, aOut, aLn, aCl, aRp, Stk.aIt, Ssn.aSe, aSt]) (fun G hG => ?_)
  have hN : NoH G.length (.tup [aSt (foldP s l).1, .sl ((foldP s l).2.map AV.str)]) := (by simp [AV.cells, aIn, aOut, aLn, aCl, aRp, Stk.aIt, Ssn.aSe, aSt])
  refine AWP.seq ?_
  refine AWP.region (fun _ => ?_)
  refine ARun.box (j := 0) hG rfl rfl rfl rfl rfl (Ev.plain rfl) rfl rfl optN ?_
  refine ARun.alloc (j := 1) hG rfl rfl rfl rfl rfl zv39 rfl optN ?_
  refine ARun.move (.inr rfl) rfl rfl rfl (Ev.plain rfl) optN ?_
  refine ⟨_, _, rfl, hG, ?_⟩
  refine thenA_n ?_
  refine AWP.seq ?_
  refine AWP.region (fun _ => ?_)
  refine ARun.nilOwn (e := 9) (z := 1) (j := 2) hG rfl ⟨.inl rfl, rfl⟩ (fun _ => rfl) rfl rfl rfl optN ?_
  refine ⟨_, _, rfl, hG, ?_⟩
  refine thenA_n ?_
  refine AWP.seq ?_
  refine AWP.seq ?_
  refine AWP.region (fun _ => ?_)
  refine ARun.move (.inl rfl) rfl rfl rfl (Ev.plain rfl) optN ?_
  refine ARun.lenSl rfl rfl rfl rfl Tryz.underlying40 (Ev.plain rfl) optN ?_
  refine ARun.move (.inl rfl) rfl rfl rfl (Ev.plain rfl) optN ?_
  refine ⟨_, _, rfl, hG, ?_⟩
  refine thenA_n ?_
  refine AWP.block ?_
  refine AWP.rounds (fun st => st.1 ≤ l.length ∧ foldP s (l.take st.1) = (st.2.2.1, st.2.2.2)) (fun st => [(2, .box (G.length + 0) 0), (4, .box (G.length + 1) 0), (6, .own (G.length + 2) st.2.1), (11, .sl (l.map AV.str)), (12, .int .i64 ((l.map AV.str).length : Int)), (13, .int .i64 (st.1 : Int))]) (fun st => [.box [.sl ((st.2.2.1).1.map Stk.aIt), .sl ((st.2.2.1).2.map Ssn.aSe)], .box [.sl [], .sl []], .row st.2.1 9 1 (st.2.2.2.map AV.str)]) (fun st => l.length - st.1) 3 ((0, 0, s, []) : Nat × Nat × St × List ByteArray) ⟨Nat.zero_le _, rfl⟩ (by repeat (first | exact .nil | refine .cons rfl ?_)) rfl (fun _ => rfl) (fun _ => ⟨by simp [AV.cells], by simp [AO.conts, AV.cells, Stk.aIt, Ssn.aSe]; intro x a _ e; subst e; simp⟩) (fun st hI => ?_)
  obtain ⟨k, g, cur, out⟩ := st
  dsimp only at hI
  show AWP _ _ _ _ _ [(2, .box (G.length + 0) 0), (4, .box (G.length + 1) 0), (6, .own (G.length + 2) g), (11, .sl (l.map AV.str)), (12, .int .i64 ((l.map AV.str).length : Int)), (13, .int .i64 (k : Int))] _ [.box [.sl ((cur).1.map Stk.aIt), .sl ((cur).2.map Ssn.aSe)], .box [.sl [], .sl []], .row g 9 1 (out.map AV.str)]
  obtain ⟨hk, hcur⟩ := hI
  have hfk := hfl k hk
  rw [hcur] at hfk
  obtain ⟨⟨hc1, hc2⟩, hc3⟩ := hfk
  dsimp only at hc1 hc2 hc3
  refine AWP.seq ?_
  refine AWP.region (fun _ => ?_)
  refine ARun.cmp rfl rfl rfl rfl (Ev.plain rfl) (Ev.plain rfl) rfl optN ?_
  refine ⟨_, _, rfl, hG, ?_⟩
  refine thenA_n ?_
  refine AWP.seq ?_
  refine AWP.cond rfl (fun h0 => ?_) (fun h0 => ?_)
  · skip
    try simp [-List.getD_eq_getElem?_getD] at h0
    refine AWP.skip ?_
    refine thenA_n ?_
    refine AWP.seq ?_
    refine AWP.block ?_
    refine AWP.seq ?_
    refine AWP.region (fun _ => ?_)
    first | refine ARun.indexSl rfl rfl rfl rfl Tryz.underlying40 sz9 (Ev.plain rfl) (Ev.plain rfl) (fun _ => rfl) (fun hg => getMap _ _ _ (by (try simp at hg); omega)) rfl rfl optN ?_ | refine ARun.indexSl rfl rfl rfl rfl Tryz.underlying40 sz9 (Ev.plain rfl) (Ev.plain rfl) (fun hg => ofNonneg (by (try simp at hg); omega)) (fun hg => getMap _ _ _ (by (try simp at hg); omega)) rfl rfl optN ?_
    refine ARun.loadPe rfl rfl rfl rfl Tryz.underlying9 rfl (Ev.plain rfl) rfl optN ?_
    refine ARun.move (.inr rfl) rfl rfl rfl (Ev.plain rfl) optN ?_
    refine ⟨_, _, rfl, hG, ?_⟩
    refine thenA_n ?_
    refine AWP.seq ?_
    refine AWP.region (fun _ => ?_)
    refine ARun.loadBoxA rfl rfl rfl rfl Tryz.underlying39 rfl sz39 (Ev.plain rfl) ((hG.at _ _).trans rfl) rfl rfl optN ?_
    refine ARun.move (.inl rfl) rfl rfl rfl (Ev.plain rfl) optN ?_
    refine ARun.call rfl rfl rfl rfl cf21 (Ev.plain rfl) (.cons (Ev.plain rfl) (.cons (Ev.plain rfl) .nil)) rfl (fun hg => apply_fn cur (l.getD k default) (hxs k (by omega)) hc1 hc2) optN ?_
    refine ARun.move (.inl rfl) rfl rfl rfl (Ev.plain rfl) optN ?_
    refine ARun.extract rfl rfl rfl rfl (Ev.plain rfl) rfl optN ?_
    refine ARun.extract rfl rfl rfl rfl (Ev.plain rfl) rfl optN ?_
    refine ARun.alloc (j := 3) hG rfl rfl rfl rfl rfl zv39 rfl optN ?_
    refine ARun.storeL hG rfl rfl rfl sz39 (Ev.plain rfl) (Ev.plain rfl) rfl rfl rfl rfl rfl (Nat.le_of_ble_eq_true rfl) rfl rfl ?_
    refine ARun.move (.inr rfl) rfl rfl rfl (Ev.plain rfl) optN ?_
    refine ⟨_, _, rfl, hG, ?_⟩
    refine thenA_n ?_
    refine AWP.frzBox 9 hG rfl rfl rfl ?_
    refine AWP.draw mixed (by kernel_rfl) (fun _ => ?_)
    refine ARun.loadPeA rfl rfl rfl rfl Tryz.underlying39 rfl sz39 (Ev.plain rfl) rfl optN ?_
    refine ARun.move (.inl rfl) rfl rfl rfl (Ev.plain rfl) optN ?_
    refine ARun.move (.inl rfl) rfl rfl rfl (Ev.plain rfl) optN ?_
    refine ARun.buildSl rfl rfl rfl rfl Tryz.underlying40 sz9 zv9 rfl (by decide) (.cons (Ev.plain rfl) .nil) rfl rfl rfl rfl (by decide) rfl rfl optN ?_
    refine ARun.appendL hG rfl rfl rfl rfl Tryz.underlying40 ti9 rfl (by decide) (Ev.plain rfl) (Ev.plain rfl) rfl rfl (by simp [maxLen]; omega) (by simp; omega) (str_snoc out (applyP cur (l.getD k default)).2) optN rfl ?_
    refine ARun.storeL hG rfl rfl rfl sz39 (Ev.plain rfl) (Ev.plain rfl) rfl rfl rfl rfl rfl (Nat.le_of_ble_eq_true rfl) rfl rfl ?_
    refine ARun.move (.inr rfl) rfl rfl rfl (Ev.plain rfl) optN ?_
    refine ⟨by kernel_rfl, _, _, rfl, hG, ?_⟩
    refine blockA_n ?_
    refine thenA_n ?_
    refine AWP.region (fun _ => ?_)
    first | refine ARun.arith rfl rfl rfl rfl (Ev.plain rfl) (Ev.plain rfl) rfl (fun hg => i64w (by (try simp at hg); omega)) optN ?_ | refine ARun.arith rfl rfl rfl rfl (Ev.plain rfl) (Ev.plain rfl) rfl (fun _ => rfl) optN ?_
    refine ARun.move (.inl rfl) rfl rfl rfl (Ev.plain rfl) optN ?_
    refine ⟨_, _, rfl, hG, ?_⟩
    refine thenA_n ⟨rfl, (k + 1, g + 1, (applyP cur (l.getD k default)).1, out ++ [(applyP cur (l.getD k default)).2]), _, ?_, ?_, rfl, ?_⟩
    · refine ⟨by dsimp only; omega, ?_⟩
      rw [fold_at s l k (by omega), hcur]; rfl
    · repeat (first | exact .nil | refine .cons rfl ?_)
    · dsimp only; omega
  · skip
    simp at h0
    obtain rfl : k = l.length := by omega
    rw [List.take_length] at hcur
    refine AWP.exit ?_
    refine thenA_x ?_
    refine thenA_x ?_
    refine blockA_h ?_
    refine thenA_n ?_
    refine AWP.seq ?_
    refine AWP.region (fun _ => ?_)
    refine ARun.loadBoxA rfl rfl rfl rfl Tryz.underlying39 rfl sz39 (Ev.plain rfl) ((hG.at _ _).trans rfl) rfl rfl optN ?_
    refine ARun.move (.inl rfl) rfl rfl rfl (Ev.plain rfl) optN ?_
    refine ARun.storeL hG rfl rfl rfl sz39 (Ev.plain rfl) (Ev.plain rfl) rfl rfl rfl rfl rfl (Nat.le_of_ble_eq_true rfl) rfl rfl ?_
    refine ARun.move (.inr rfl) rfl rfl rfl (Ev.plain rfl) optN ?_
    refine ⟨_, _, rfl, hG, ?_⟩
    refine thenA_n ?_
    refine AWP.frzOwn 5 hG rfl rfl (by decide) (by simp [maxLen]; omega) rfl ?_
    refine AWP.ret ?_
    refine endF.many (.inr rfl) (rs := [.cell 4 39, .tmp 5]) rfl (.cons (.cellA rfl ((hG.at _ _).trans rfl) Tryz.underlying39 rfl sz39 rfl rfl) (.cons (.tmp rfl) .nil)) (by simp) ?_ hN
    rw [hcur]; rfl
end Go.Proofs.YtgebpndhnkkbgaaGreatDoor
namespace Go.Proofs.YtgebpndhnkkbgaaGreatDoor
set_option linter.unusedVariables false
set_option linter.unusedSimpArgs false
open Go.RowKit
open NumP
set_option maxRecDepth 100000
def sS1 : St := (applyP (([], []) : St) (⟨#[1, 1, 1, 7, 0, 5, 0]⟩ : ByteArray)).1
theorem s1_len : sS1.1.length = 1 ∧ sS1.2.length = 1 := by decide +kernel
theorem f2_len : (foldP sS1 [(⟨#[1, 1, 1, 7, 0, 5, 0]⟩ : ByteArray), (⟨#[120]⟩ : ByteArray)]).2.length = 2 := by decide +kernel
theorem a2_len : (applyP sS1 (⟨#[1, 1, 1, 7, 0, 5, 0]⟩ : ByteArray)).1.1.length = 1 ∧ (applyP sS1 (⟨#[1, 1, 1, 7, 0, 5, 0]⟩ : ByteArray)).1.2.length = 1 := by decide +kernel
set_option maxHeartbeats 1000000 in
theorem awake_fn  : FnP Tryz.prog 8 [] (.bool true) := by
  obtain ⟨l1, l2⟩ := s1_len
  obtain ⟨a1, a2⟩ := a2_len
  have f2 := f2_len
  refine FnP.of Tryz.func8 rfl rfl (by simp) (by simp [AV.cells, aIn, aOut, aLn, aCl, aRp, Stk.aIt, Ssn.aSe, aSt]) (fun G hG => ?_)
  have hN : NoH G.length (.bool true) := (by simp [AV.cells, aIn, aOut, aLn, aCl, aRp, Stk.aIt, Ssn.aSe, aSt])
  refine AWP.seq ?_
  refine AWP.region (fun _ => ?_)
  refine ARun.move (.inr rfl) rfl rfl rfl (Ev.plain rfl) optN ?_
  refine ⟨_, _, rfl, hG, ?_⟩
  refine thenA_n ?_
  refine AWP.seq ?_
  refine AWP.region (fun _ => ?_)
  refine ARun.build rfl rfl rfl rfl so39 .nil rfl rfl optN ?_
  refine ARun.call rfl rfl rfl rfl cf21 (Ev.plain rfl) (.cons (Ev.plain rfl) (.cons (Ev.plain rfl) .nil)) rfl (fun hg => (show FnP Tryz.prog 21 [aSt (([], []) : St), .str (⟨#[1, 1, 1, 7, 0, 5, 0]⟩ : ByteArray)] (.tup [aSt sS1, .str (applyP (([], []) : St) (⟨#[1, 1, 1, 7, 0, 5, 0]⟩ : ByteArray)).2]) from apply_fn (([], []) : St) (⟨#[1, 1, 1, 7, 0, 5, 0]⟩ : ByteArray) (by decide) (by decide) (by decide))) optN ?_
  refine ARun.move (.inl rfl) rfl rfl rfl (Ev.plain rfl) optN ?_
  refine ARun.extract rfl rfl rfl rfl (Ev.plain rfl) rfl optN ?_
  refine ARun.extract rfl rfl rfl rfl (Ev.plain rfl) rfl optN ?_
  refine ARun.alloc (j := 0) hG rfl rfl rfl rfl rfl zv39 rfl optN ?_
  refine ARun.storeL hG rfl rfl rfl sz39 (Ev.plain rfl) (Ev.plain rfl) rfl rfl rfl rfl rfl (Nat.le_of_ble_eq_true rfl) rfl rfl ?_
  refine ARun.move (.inr rfl) rfl rfl rfl (Ev.plain rfl) optN ?_
  refine ⟨_, _, rfl, hG, ?_⟩
  refine thenA_n ?_
  refine AWP.seq ?_
  refine AWP.region (fun _ => ?_)
  refine ARun.loadBoxA rfl rfl rfl rfl Tryz.underlying39 rfl sz39 (Ev.plain rfl) ((hG.at _ _).trans rfl) rfl rfl optN ?_
  refine ARun.call rfl rfl rfl rfl cf21 (Ev.plain rfl) (.cons (Ev.plain rfl) (.cons (Ev.plain rfl) .nil)) rfl (fun hg => apply_fn sS1 (⟨#[1, 1, 1, 7, 0, 5, 0]⟩ : ByteArray) (by decide) (by omega) (by omega)) optN ?_
  refine ARun.move (.inl rfl) rfl rfl rfl (Ev.plain rfl) optN ?_
  refine ARun.extract rfl rfl rfl rfl (Ev.plain rfl) rfl optN ?_
  refine ARun.extract rfl rfl rfl rfl (Ev.plain rfl) rfl optN ?_
  refine ARun.alloc (j := 1) hG rfl rfl rfl rfl rfl zv39 rfl optN ?_
  refine ARun.storeL hG rfl rfl rfl sz39 (Ev.plain rfl) (Ev.plain rfl) rfl rfl rfl rfl rfl (Nat.le_of_ble_eq_true rfl) rfl rfl ?_
  refine ARun.move (.inr rfl) rfl rfl rfl (Ev.plain rfl) optN ?_
  refine ⟨_, _, rfl, hG, ?_⟩
  refine thenA_n ?_
  refine AWP.seq ?_
  refine AWP.region (fun _ => ?_)
  refine ARun.loadBoxA rfl rfl rfl rfl Tryz.underlying39 rfl sz39 (Ev.plain rfl) ((hG.at _ _).trans rfl) rfl rfl optN ?_
  refine ARun.buildSl rfl rfl rfl rfl Tryz.underlying40 sz9 zv9 rfl (by decide) (.cons (Ev.plain rfl) (.cons (Ev.plain rfl) .nil)) rfl rfl rfl rfl (by decide) rfl rfl optN ?_
  refine ARun.call rfl rfl rfl rfl cf14 (Ev.plain rfl) (.cons (Ev.plain rfl) (.cons (Ev.plain rfl) .nil)) rfl (fun hg => fold_fn sS1 [(⟨#[1, 1, 1, 7, 0, 5, 0]⟩ : ByteArray), (⟨#[120]⟩ : ByteArray)] (by decide) (by simp; decide) (by omega) (by omega)) optN ?_
  refine ARun.move (.inl rfl) rfl rfl rfl (Ev.plain rfl) optN ?_
  refine ARun.extract rfl rfl rfl rfl (Ev.plain rfl) rfl optN ?_
  refine ARun.extract rfl rfl rfl rfl (Ev.plain rfl) rfl optN ?_
  refine ARun.alloc (j := 2) hG rfl rfl rfl rfl rfl zv39 rfl optN ?_
  refine ARun.storeL hG rfl rfl rfl sz39 (Ev.plain rfl) (Ev.plain rfl) rfl rfl rfl rfl rfl (Nat.le_of_ble_eq_true rfl) rfl rfl ?_
  refine ARun.move (.inr rfl) rfl rfl rfl (Ev.plain rfl) optN ?_
  refine ⟨_, _, rfl, hG, ?_⟩
  refine thenA_n ?_
  refine AWP.seq ?_
  refine AWP.region (fun _ => ?_)
  refine ARun.fieldBox (fo := 0) rfl rfl rfl rfl Tryz.underlying39 rfl rfl sz22 (by decide) (Ev.plain rfl) ((hG.at _ _).trans rfl) optN ?_
  refine ARun.loadBox rfl rfl rfl rfl Tryz.underlying22 rfl (Ev.plain rfl) ((hG.at _ _).trans rfl) rfl optN ?_
  refine ARun.build rfl rfl rfl rfl so25 (.cons (Ev.plain rfl) (.cons (Ev.plain rfl) (.cons (Ev.plain rfl) (.cons (Ev.plain rfl) (.cons (Ev.plain rfl) .nil))))) rfl rfl optN ?_
  refine ARun.call rfl rfl rfl rfl cf9 (Ev.plain rfl) (.cons (Ev.plain rfl) (.cons (Ev.plain rfl) .nil)) rfl (fun hg => do_fn sS1.1 (⟨1, 2, 3, 7, 0, 6, []⟩ : Cl) (by omega) (by decide)) optN ?_
  refine ARun.move (.inl rfl) rfl rfl rfl (Ev.plain rfl) optN ?_
  refine ARun.extract rfl rfl rfl rfl (Ev.plain rfl) rfl optN ?_
  refine ARun.extract rfl rfl rfl rfl (Ev.plain rfl) rfl optN ?_
  refine ARun.alloc (j := 3) hG rfl rfl rfl rfl rfl zv31 rfl optN ?_
  refine ARun.move (.inr rfl) rfl rfl rfl (Ev.plain rfl) optN ?_
  refine ARun.storeL hG rfl rfl rfl sz31 (Ev.plain rfl) (Ev.plain rfl) rfl rfl rfl rfl rfl (Nat.le_of_ble_eq_true rfl) rfl rfl ?_
  refine ⟨_, _, rfl, hG, ?_⟩
  refine thenA_n ?_
  refine AWP.seq ?_
  refine AWP.region (fun _ => ?_)
  refine ARun.move (.inl rfl) rfl rfl rfl (Ev.plain rfl) optN ?_
  refine ARun.cmpS rfl rfl rfl rfl (Ev.plain rfl) (Ev.plain rfl) rfl optN ?_
  refine ARun.move (.inl rfl) rfl rfl rfl (Ev.plain rfl) optN ?_
  refine ARun.fieldBox (fo := 0) rfl rfl rfl rfl Tryz.underlying39 rfl rfl sz22 (by decide) (Ev.plain rfl) ((hG.at _ _).trans rfl) optS ?_
  refine ARun.loadBox rfl rfl rfl rfl Tryz.underlying22 rfl (Ev.opt rfl (fun h => h)) ((hG.at _ _).trans rfl) rfl optS ?_
  refine ARun.lenSl rfl rfl rfl rfl Tryz.underlying22 (Ev.opt rfl (fun h => h)) optS ?_
  refine ARun.cmp rfl rfl rfl rfl (Ev.opt rfl (fun h => h)) (Ev.plain rfl) rfl optS ?_
  refine ARun.pick rfl rfl rfl rfl (Ev.plain rfl) (Ev.opt rfl (by first | exact pkT | exact pkT2 | simp +contextual)) (Ev.plain rfl) (andB _ _) optN ?_
  refine ARun.move (.inl rfl) rfl rfl rfl (Ev.plain rfl) optN ?_
  refine ARun.fieldBox (fo := 1) rfl rfl rfl rfl Tryz.underlying39 rfl rfl sz37 (by decide) (Ev.plain rfl) ((hG.at _ _).trans rfl) optS ?_
  refine ARun.loadBox rfl rfl rfl rfl Tryz.underlying37 rfl (Ev.opt rfl (fun h => h)) ((hG.at _ _).trans rfl) rfl optS ?_
  refine ARun.lenSl rfl rfl rfl rfl Tryz.underlying37 (Ev.opt rfl (fun h => h)) optS ?_
  refine ARun.cmp rfl rfl rfl rfl (Ev.opt rfl (fun h => h)) (Ev.plain rfl) rfl optS ?_
  refine ARun.pick rfl rfl rfl rfl (Ev.plain rfl) (Ev.opt rfl (by first | exact pkT | exact pkT2 | simp +contextual)) (Ev.plain rfl) (andB _ _) optN ?_
  refine ARun.move (.inl rfl) rfl rfl rfl (Ev.plain rfl) optN ?_
  refine ARun.move (.inl rfl) rfl rfl rfl (Ev.plain rfl) optS ?_
  refine ARun.move (.inl rfl) rfl rfl rfl (Ev.plain rfl) optS ?_
  refine ARun.cmpS rfl rfl rfl rfl (Ev.opt rfl (fun h => h)) (Ev.opt rfl (fun h => h)) rfl optS ?_
  refine ARun.pick rfl rfl rfl rfl (Ev.plain rfl) (Ev.opt rfl (by first | exact pkT | exact pkT2 | simp +contextual)) (Ev.plain rfl) (andB _ _) optN ?_
  refine ARun.move (.inl rfl) rfl rfl rfl (Ev.plain rfl) optN ?_
  refine ARun.loadBoxA rfl rfl rfl rfl Tryz.underlying39 rfl sz39 (Ev.plain rfl) ((hG.at _ _).trans rfl) rfl rfl optS ?_
  refine ARun.loadBoxA rfl rfl rfl rfl Tryz.underlying39 rfl sz39 (Ev.plain rfl) ((hG.at _ _).trans rfl) rfl rfl optS ?_
  refine ARun.call rfl rfl rfl rfl cf16 (Ev.plain rfl) (.cons (Ev.opt rfl (fun h => h)) (.cons (Ev.opt rfl (fun h => h)) .nil)) rfl (fun hg => sameS_fn sS1 (applyP sS1 (⟨#[1, 1, 1, 7, 0, 5, 0]⟩ : ByteArray)).1 (by omega) (by omega)) optS ?_
  refine ARun.pick rfl rfl rfl rfl (Ev.plain rfl) (Ev.opt rfl (by first | exact pkT | exact pkT2 | simp +contextual)) (Ev.plain rfl) (andB _ _) optN ?_
  refine ARun.move (.inl rfl) rfl rfl rfl (Ev.plain rfl) optN ?_
  refine ARun.move (.inl rfl) rfl rfl rfl (Ev.plain rfl) optS ?_
  refine ARun.lenSl rfl rfl rfl rfl Tryz.underlying40 (Ev.opt rfl (fun h => h)) optS ?_
  refine ARun.cmp rfl rfl rfl rfl (Ev.opt rfl (fun h => h)) (Ev.plain rfl) rfl optS ?_
  refine ARun.pick rfl rfl rfl rfl (Ev.plain rfl) (Ev.opt rfl (by first | exact pkT | exact pkT2 | simp +contextual)) (Ev.plain rfl) (andB _ _) optN ?_
  refine ARun.move (.inl rfl) rfl rfl rfl (Ev.plain rfl) optN ?_
  refine ARun.move (.inl rfl) rfl rfl rfl (Ev.plain rfl) optS ?_
  first | refine ARun.indexSl rfl rfl rfl rfl Tryz.underlying40 sz9 (Ev.opt rfl (fun h => h)) (Ev.plain rfl) (fun _ => rfl) (fun hg => getMap _ _ _ (by (try simp at hg); omega)) rfl rfl optS ?_ | refine ARun.indexSl rfl rfl rfl rfl Tryz.underlying40 sz9 (Ev.opt rfl (fun h => h)) (Ev.plain rfl) (fun hg => ofNonneg (by (try simp at hg); omega)) (fun hg => getMap _ _ _ (by (try simp at hg); omega)) rfl rfl optS ?_
  refine ARun.loadPe rfl rfl rfl rfl Tryz.underlying9 rfl (Ev.opt rfl (fun h => h)) rfl optS ?_
  refine ARun.move (.inl rfl) rfl rfl rfl (Ev.plain rfl) optS ?_
  refine ARun.cmpS rfl rfl rfl rfl (Ev.opt rfl (fun h => h)) (Ev.opt rfl (fun h => h)) rfl optS ?_
  refine ARun.pick rfl rfl rfl rfl (Ev.plain rfl) (Ev.opt rfl (by first | exact pkT | exact pkT2 | simp +contextual)) (Ev.plain rfl) (andB _ _) optN ?_
  refine ARun.move (.inl rfl) rfl rfl rfl (Ev.plain rfl) optN ?_
  refine ARun.move (.inl rfl) rfl rfl rfl (Ev.plain rfl) optS ?_
  first | refine ARun.indexSl rfl rfl rfl rfl Tryz.underlying40 sz9 (Ev.opt rfl (fun h => h)) (Ev.plain rfl) (fun _ => rfl) (fun hg => getMap _ _ _ (by (try simp at hg); omega)) rfl rfl optS ?_ | refine ARun.indexSl rfl rfl rfl rfl Tryz.underlying40 sz9 (Ev.opt rfl (fun h => h)) (Ev.plain rfl) (fun hg => ofNonneg (by (try simp at hg); omega)) (fun hg => getMap _ _ _ (by (try simp at hg); omega)) rfl rfl optS ?_
  refine ARun.loadPe rfl rfl rfl rfl Tryz.underlying9 rfl (Ev.opt rfl (fun h => h)) rfl optS ?_
  refine ARun.cmpS rfl rfl rfl rfl (Ev.opt rfl (fun h => h)) (Ev.plain rfl) rfl optS ?_
  refine ARun.pick rfl rfl rfl rfl (Ev.plain rfl) (Ev.opt rfl (by first | exact pkT | exact pkT2 | simp +contextual)) (Ev.plain rfl) (andB _ _) optN ?_
  refine ARun.move (.inl rfl) rfl rfl rfl (Ev.plain rfl) optN ?_
  refine ARun.fieldBox (fo := 0) rfl rfl rfl rfl Tryz.underlying31 rfl rfl sz28 (by decide) (Ev.plain rfl) ((hG.at _ _).trans rfl) optS ?_
  refine ARun.loadBox rfl rfl rfl rfl Tryz.underlying28 rfl (Ev.opt rfl (fun h => h)) ((hG.at _ _).trans rfl) rfl optS ?_
  refine ARun.cmp rfl rfl rfl rfl (Ev.opt rfl (fun h => h)) (Ev.plain rfl) rfl optS ?_
  refine ARun.pick rfl rfl rfl rfl (Ev.plain rfl) (Ev.opt rfl (by first | exact pkT | exact pkT2 | simp +contextual)) (Ev.plain rfl) (andB _ _) optN ?_
  refine ARun.move (.inl rfl) rfl rfl rfl (Ev.plain rfl) optN ?_
  refine ARun.move (.inl rfl) rfl rfl rfl (Ev.plain rfl) optS ?_
  refine ARun.lenSl rfl rfl rfl rfl Tryz.underlying22 (Ev.opt rfl (fun h => h)) optS ?_
  refine ARun.cmp rfl rfl rfl rfl (Ev.opt rfl (fun h => h)) (Ev.plain rfl) rfl optS ?_
  refine ARun.pick rfl rfl rfl rfl (Ev.plain rfl) (Ev.opt rfl (by first | exact pkT | exact pkT2 | simp +contextual)) (Ev.plain rfl) (andB _ _) optN ?_
  refine ARun.move (.inl rfl) rfl rfl rfl (Ev.plain rfl) optN ?_
  refine ARun.loadBoxA rfl rfl rfl rfl Tryz.underlying39 rfl sz39 (Ev.plain rfl) ((hG.at _ _).trans rfl) rfl rfl optS ?_
  refine ARun.call rfl rfl rfl rfl cf18 (Ev.plain rfl) (.cons (Ev.opt rfl (fun h => h)) .nil) rfl (fun hg => chkS_fn sS1) optS ?_
  refine ARun.cmp rfl rfl rfl rfl (Ev.opt rfl (fun h => h)) (Ev.plain rfl) rfl optS ?_
  refine ARun.pick rfl rfl rfl rfl (Ev.plain rfl) (Ev.opt rfl (by first | exact pkT | exact pkT2 | simp +contextual)) (Ev.plain rfl) (andB _ _) optN ?_
  refine ARun.move (.inl rfl) rfl rfl rfl (Ev.plain rfl) optN ?_
  refine ARun.build rfl rfl rfl rfl so64 .nil rfl rfl optS ?_
  refine ARun.buildSl rfl rfl rfl rfl Tryz.underlying22 sz64 zv64 rfl (by decide) (.cons (Ev.opt rfl (fun h => h)) .nil) rfl rfl rfl rfl (by decide) rfl rfl optS ?_
  refine ARun.build rfl rfl rfl rfl so39 (.cons (Ev.opt rfl (fun h => h)) .nil) rfl rfl optS ?_
  refine ARun.call rfl rfl rfl rfl cf18 (Ev.plain rfl) (.cons (Ev.opt rfl (fun h => h)) .nil) rfl (fun hg => chkS_fn ([default], [])) optS ?_
  refine ARun.cmp rfl rfl rfl rfl (Ev.opt rfl (fun h => h)) (Ev.plain rfl) rfl optS ?_
  refine ARun.pick rfl rfl rfl rfl (Ev.plain rfl) (Ev.opt rfl (by first | exact pkT | exact pkT2 | simp +contextual)) (Ev.plain rfl) (andB _ _) optN ?_
  refine ARun.move (.inl rfl) rfl rfl rfl (Ev.plain rfl) optN ?_
  refine ARun.loadBoxA rfl rfl rfl rfl Tryz.underlying39 rfl sz39 (Ev.plain rfl) ((hG.at _ _).trans rfl) rfl rfl optS ?_
  refine ARun.loadBoxA rfl rfl rfl rfl Tryz.underlying39 rfl sz39 (Ev.plain rfl) ((hG.at _ _).trans rfl) rfl rfl optS ?_
  refine ARun.call rfl rfl rfl rfl cf20 (Ev.plain rfl) (.cons (Ev.opt rfl (fun h => h)) (.cons (Ev.opt rfl (fun h => h)) .nil)) rfl (fun hg => sameV_fn sS1 (applyP sS1 (⟨#[1, 1, 1, 7, 0, 5, 0]⟩ : ByteArray)).1 (by omega) (by omega)) optS ?_
  refine ARun.pick rfl rfl rfl rfl (Ev.plain rfl) (Ev.opt rfl (by first | exact pkT | exact pkT2 | simp +contextual)) (Ev.plain rfl) (andB _ _) optN ?_
  refine ARun.move (.inl rfl) rfl rfl rfl (Ev.plain rfl) optN ?_
  refine ARun.loadBoxA rfl rfl rfl rfl Tryz.underlying39 rfl sz39 (Ev.plain rfl) ((hG.at _ _).trans rfl) rfl rfl optS ?_
  refine ARun.build rfl rfl rfl rfl so39 .nil rfl rfl optS ?_
  refine ARun.call rfl rfl rfl rfl cf20 (Ev.plain rfl) (.cons (Ev.opt rfl (fun h => h)) (.cons (Ev.opt rfl (fun h => h)) .nil)) rfl (fun hg => sameV_fn sS1 (([], []) : St) (by omega) (by omega)) optS ?_
  refine ARun.not rfl rfl rfl rfl (Ev.opt rfl (fun h => h)) optS ?_
  refine ARun.pick rfl rfl rfl rfl (Ev.plain rfl) (Ev.opt rfl (by first | exact pkT | exact pkT2 | simp +contextual)) (Ev.plain rfl) (andB _ _) optN ?_
  refine ARun.move (.inr rfl) rfl rfl rfl (Ev.plain rfl) optN ?_
  refine ⟨_, _, rfl, hG, ?_⟩
  refine thenA_n ?_
  refine AWP.ret ?_
  refine endF.one (.inr rfl) rfl (.tmp rfl) ?_ hN
  refine congrArg AV.bool ?_
  decide +kernel
set_option maxHeartbeats 1000000 in
theorem keeps_fn (s : St) (p : ByteArray) (c : Cl) : FnP Tryz.prog 6 [aSt s, .str p, aCl c] (.bool true) := by
  refine FnP.of Tryz.func6 rfl rfl (by simp) (by simp [AV.cells, aIn, aOut, aLn, aCl, aRp, Stk.aIt, Ssn.aSe, aSt]) (fun G hG => ?_)
  have hN : NoH G.length (.bool true) := (by simp [AV.cells, aIn, aOut, aLn, aCl, aRp, Stk.aIt, Ssn.aSe, aSt])
  refine AWP.seq ?_
  refine AWP.region (fun _ => ?_)
  refine ARun.boxPe rfl rfl rfl rfl (Ev.plain rfl) rfl rfl optN ?_
  refine ARun.boxPe rfl rfl rfl rfl (Ev.plain rfl) rfl rfl optN ?_
  refine ARun.move (.inr rfl) rfl rfl rfl (Ev.plain rfl) optN ?_
  refine ⟨_, _, rfl, hG, ?_⟩
  refine thenA_n ?_
  refine AWP.seq ?_
  refine AWP.seq ?_
  refine AWP.region (fun _ => ?_)
  refine ARun.loadPeA rfl rfl rfl rfl Tryz.underlying39 rfl sz39 (Ev.plain rfl) rfl optN ?_
  refine ARun.call rfl rfl rfl rfl cf13 (Ev.plain rfl) (.cons (Ev.plain rfl) .nil) rfl (fun hg => fewS_fn s) optN ?_
  refine ARun.not rfl rfl rfl rfl (Ev.plain rfl) optN ?_
  refine ARun.move (.inl rfl) rfl rfl rfl (Ev.plain rfl) optN ?_
  refine ARun.move (.inl rfl) rfl rfl rfl (Ev.plain rfl) optS ?_
  refine ARun.lenStr rfl rfl rfl rfl Tryz.underlying9 (Ev.opt rfl (fun h => h)) optS ?_
  refine ARun.cmp rfl rfl rfl rfl (Ev.opt rfl (fun h => h)) (Ev.plain rfl) rfl optS ?_
  refine ARun.pick rfl rfl rfl rfl (Ev.plain rfl) (Ev.plain rfl) (Ev.opt rfl (by first | exact pkF | exact pkF2 | simp +contextual)) (orB _ _) optN ?_
  refine ARun.move (.inl rfl) rfl rfl rfl (Ev.plain rfl) optN ?_
  refine ARun.loadPeA rfl rfl rfl rfl Tryz.underlying25 rfl sz25 (Ev.plain rfl) rfl optS ?_
  refine ARun.call rfl rfl rfl rfl cf7 (Ev.plain rfl) (.cons (Ev.opt rfl (fun h => h)) .nil) rfl (fun hg => few10_fn c) optS ?_
  refine ARun.not rfl rfl rfl rfl (Ev.opt rfl (fun h => h)) optS ?_
  refine ARun.pick rfl rfl rfl rfl (Ev.plain rfl) (Ev.plain rfl) (Ev.opt rfl (by first | exact pkF | exact pkF2 | simp +contextual)) (orB _ _) optN ?_
  refine ⟨_, _, rfl, hG, ?_⟩
  refine thenA_n ?_
  refine AWP.cond rfl (fun h0 => ?_) (fun h0 => ?_)
  · skip
    skip
    refine AWP.seq ?_
    refine AWP.region (fun _ => ?_)
    refine ARun.call rfl rfl rfl rfl cf8 (Ev.plain rfl) .nil rfl (fun hg => awake_fn) optN ?_
    refine ARun.move (.inr rfl) rfl rfl rfl (Ev.plain rfl) optN ?_
    refine ⟨_, _, rfl, hG, ?_⟩
    refine thenA_n ?_
    refine AWP.ret ?_
    refine thenA_r ?_
    refine endF.one (.inr rfl) rfl (.tmp rfl) ?_ hN
    rfl
  · skip
    simp only [Bool.or_eq_false_iff, Bool.not_eq_false', decide_eq_false_iff_not, Int.not_lt, decide_eq_true_eq] at h0
    obtain ⟨⟨hfw, hpz⟩, hln⟩ := h0
    obtain ⟨s1, s2, s3⟩ := fewS_facts hfw
    have hp6 : p.size ≤ 1000000 := by omega
    obtain ⟨al1, al2⟩ := apply_len s p hp6 s1 s2
    refine AWP.skip ?_
    refine thenA_n ?_
    refine AWP.seq ?_
    refine AWP.region (fun _ => ?_)
    refine ARun.buildOwn (j := 0) hG rfl rfl rfl rfl rfl Tryz.underlying22 sz64 zv64 rfl (by decide) .nil rfl rfl rfl rfl (by decide) rfl rfl optN ?_
    refine ARun.fieldPe rfl rfl rfl rfl Tryz.underlying39 rfl rfl sz22 (by decide) (Ev.plain rfl) rfl optN ?_
    refine ARun.loadPe rfl rfl rfl rfl Tryz.underlying22 rfl (Ev.plain rfl) rfl optN ?_
    refine ARun.appendL hG rfl rfl rfl rfl Tryz.underlying22 ti64 rfl (by decide) (Ev.plain rfl) (Ev.plain rfl) rfl (Stk.flat_ok s.1) (by simp [maxLen]; omega) (by simp; omega) rfl optN rfl ?_
    refine ARun.move (.inr rfl) rfl rfl rfl (Ev.plain rfl) optN ?_
    refine ⟨_, _, rfl, hG, ?_⟩
    refine thenA_n ?_
    refine AWP.seq ?_
    refine AWP.frzOwn 7 hG rfl rfl (by decide) (by simp [maxLen]; omega) rfl ?_
    refine AWP.region (fun _ => ?_)
    refine ARun.loadPeA rfl rfl rfl rfl Tryz.underlying39 rfl sz39 (Ev.plain rfl) rfl optN ?_
    refine ARun.move (.inl rfl) rfl rfl rfl (Ev.plain rfl) optN ?_
    refine ARun.call rfl rfl rfl rfl cf21 (Ev.plain rfl) (.cons (Ev.plain rfl) (.cons (Ev.plain rfl) .nil)) rfl (fun hg => apply_fn s p (by omega) (by omega) (by omega)) optN ?_
    refine ARun.move (.inl rfl) rfl rfl rfl (Ev.plain rfl) optN ?_
    refine ARun.extract rfl rfl rfl rfl (Ev.plain rfl) rfl optN ?_
    refine ARun.extract rfl rfl rfl rfl (Ev.plain rfl) rfl optN ?_
    refine ARun.alloc (j := 1) hG rfl rfl rfl rfl rfl zv39 rfl optN ?_
    refine ARun.storeL hG rfl rfl rfl sz39 (Ev.plain rfl) (Ev.plain rfl) rfl rfl rfl rfl rfl (Nat.le_of_ble_eq_true rfl) rfl rfl ?_
    refine ARun.move (.inr rfl) rfl rfl rfl (Ev.plain rfl) optN ?_
    refine ⟨_, _, rfl, hG, ?_⟩
    refine thenA_n ?_
    refine AWP.seq ?_
    refine AWP.region (fun _ => ?_)
    refine ARun.fieldPe rfl rfl rfl rfl Tryz.underlying39 rfl rfl sz22 (by decide) (Ev.plain rfl) rfl optN ?_
    refine ARun.loadPe rfl rfl rfl rfl Tryz.underlying22 rfl (Ev.plain rfl) rfl optN ?_
    refine ARun.loadPeA rfl rfl rfl rfl Tryz.underlying25 rfl sz25 (Ev.plain rfl) rfl optN ?_
    refine ARun.call rfl rfl rfl rfl cf9 (Ev.plain rfl) (.cons (Ev.plain rfl) (.cons (Ev.plain rfl) .nil)) rfl (fun hg => do_fn s.1 c (by omega) (by omega)) optN ?_
    refine ARun.move (.inl rfl) rfl rfl rfl (Ev.plain rfl) optN ?_
    refine ARun.extract rfl rfl rfl rfl (Ev.plain rfl) rfl optN ?_
    refine ARun.extract rfl rfl rfl rfl (Ev.plain rfl) rfl optN ?_
    refine ARun.alloc (j := 2) hG rfl rfl rfl rfl rfl zv31 rfl optN ?_
    refine ARun.move (.inr rfl) rfl rfl rfl (Ev.plain rfl) optN ?_
    refine ARun.storeL hG rfl rfl rfl sz31 (Ev.plain rfl) (Ev.plain rfl) rfl rfl rfl rfl rfl (Nat.le_of_ble_eq_true rfl) rfl rfl ?_
    refine ⟨_, _, rfl, hG, ?_⟩
    refine thenA_n ?_
    refine AWP.seq ?_
    refine AWP.seq ?_
    refine AWP.region (fun _ => ?_)
    refine ARun.fieldPe rfl rfl rfl rfl Tryz.underlying39 rfl rfl sz22 (by decide) (Ev.plain rfl) rfl optN ?_
    refine ARun.loadPe rfl rfl rfl rfl Tryz.underlying22 rfl (Ev.plain rfl) rfl optN ?_
    refine ARun.move (.inl rfl) rfl rfl rfl (Ev.plain rfl) optN ?_
    refine ARun.call rfl rfl rfl rfl cf11 (Ev.plain rfl) (.cons (Ev.plain rfl) (.cons (Ev.plain rfl) .nil)) rfl (fun hg => Stk.same_fn s.1 s.1 (by omega)) optN ?_
    refine ARun.not rfl rfl rfl rfl (Ev.plain rfl) optN ?_
    refine ARun.move (.inl rfl) rfl rfl rfl (Ev.plain rfl) optN ?_
    refine ARun.fieldBox (fo := 0) rfl rfl rfl rfl Tryz.underlying31 rfl rfl sz28 (by decide) (Ev.plain rfl) ((hG.at _ _).trans rfl) optS ?_
    refine ARun.loadBox rfl rfl rfl rfl Tryz.underlying28 rfl (Ev.opt rfl (fun h => h)) ((hG.at _ _).trans rfl) rfl optS ?_
    refine ARun.cmp rfl rfl rfl rfl (Ev.opt rfl (fun h => h)) (Ev.plain rfl) rfl optS ?_
    refine ARun.move (.inl rfl) rfl rfl rfl (Ev.opt rfl (fun h => h)) optS ?_
    refine ARun.move (.inl rfl) rfl rfl rfl (Ev.plain rfl) optS ?_
    refine ARun.move (.inl rfl) rfl rfl rfl (Ev.plain rfl) optS ?_
    refine ARun.call rfl rfl rfl rfl cf11 (Ev.plain rfl) (.cons (Ev.opt rfl (fun h => h)) (.cons (Ev.opt rfl (fun h => h)) .nil)) rfl (fun hg => Stk.same_fn (doP s.1 c).1 s.1 (by have := do_len s.1 c (by omega); omega)) optS ?_
    refine ARun.not rfl rfl rfl rfl (Ev.opt rfl (fun h => h)) optS ?_
    refine ARun.pick rfl rfl rfl rfl (Ev.opt rfl (fun h => h)) (Ev.opt rfl (by first | exact pkT | exact pkT2 | simp +contextual)) (Ev.plain rfl) (andB _ _) optS ?_
    refine ARun.pick rfl rfl rfl rfl (Ev.plain rfl) (Ev.plain rfl) (Ev.opt rfl (by first | exact pkF | exact pkF2 | simp +contextual)) (orB _ _) optN ?_
    refine ⟨_, _, rfl, hG, ?_⟩
    refine thenA_n ?_
    refine AWP.cond rfl (fun h1 => ?_) (fun h1 => ?_)
    · skip
      by_cases e : (doP s.1 c).2.code = 0
      · simp [e] at h1
      · simp [do_same e] at h1
    · skip
      skip
      refine AWP.skip ?_
      refine thenA_n ?_
      refine AWP.seq ?_
      refine AWP.seq ?_
      refine AWP.region (fun _ => ?_)
      refine ARun.loadPeA rfl rfl rfl rfl Tryz.underlying39 rfl sz39 (Ev.plain rfl) rfl optN ?_
      refine ARun.call rfl rfl rfl rfl cf18 (Ev.plain rfl) (.cons (Ev.plain rfl) .nil) rfl (fun hg => chkS_fn s) optN ?_
      refine ARun.cmp rfl rfl rfl rfl (Ev.plain rfl) (Ev.plain rfl) rfl optN ?_
      refine ⟨_, _, rfl, hG, ?_⟩
      refine thenA_n ?_
      refine AWP.cond rfl (fun h2 => ?_) (fun h2 => ?_)
      · skip
        simp at h2
        refine AWP.seq ?_
        refine AWP.region (fun _ => ?_)
        refine ARun.loadBoxA rfl rfl rfl rfl Tryz.underlying39 rfl sz39 (Ev.plain rfl) ((hG.at _ _).trans rfl) rfl rfl optN ?_
        refine ARun.loadPeA rfl rfl rfl rfl Tryz.underlying39 rfl sz39 (Ev.plain rfl) rfl optN ?_
        refine ARun.call rfl rfl rfl rfl cf16 (Ev.plain rfl) (.cons (Ev.plain rfl) (.cons (Ev.plain rfl) .nil)) rfl (fun hg => sameS_fn (applyP s p).1 s (by omega) (by omega)) optN ?_
        refine ARun.move (.inl rfl) rfl rfl rfl (Ev.plain rfl) optN ?_
        refine ARun.call rfl rfl rfl rfl cf8 (Ev.plain rfl) .nil rfl (fun hg => awake_fn) optS ?_
        refine ARun.pick rfl rfl rfl rfl (Ev.plain rfl) (Ev.opt rfl (by first | exact pkT | exact pkT2 | simp +contextual)) (Ev.plain rfl) (andB _ _) optN ?_
        refine ARun.move (.inr rfl) rfl rfl rfl (Ev.plain rfl) optN ?_
        refine ⟨_, _, rfl, hG, ?_⟩
        refine thenA_n ?_
        refine AWP.ret ?_
        refine thenA_r ?_
        refine endF.one (.inr rfl) rfl (.tmp rfl) ?_ hN
        refine congrArg AV.bool ?_
        simp [apply_bad h2]
      · skip
        simp at h2
        have hrl := reply_len hp6 h2 s3
        refine AWP.skip ?_
        refine thenA_n ?_
        refine AWP.seq ?_
        refine AWP.region (fun _ => ?_)
        refine ARun.move (.inl rfl) rfl rfl rfl (Ev.plain rfl) optN ?_
        refine ARun.call rfl rfl rfl rfl cf24 (Ev.plain rfl) (.cons (Ev.plain rfl) .nil) rfl (fun hg => takeR_c (applyP s p).2 (by omega)) optN ?_
        refine ARun.move (.inl rfl) rfl rfl rfl (Ev.plain rfl) optN ?_
        refine ARun.extract rfl rfl rfl rfl (Ev.plain rfl) rfl optN ?_
        refine ARun.extract rfl rfl rfl rfl (Ev.plain rfl) rfl optN ?_
        refine ARun.alloc (j := 3) hG rfl rfl rfl rfl rfl zv31 rfl optN ?_
        refine ARun.storeL hG rfl rfl rfl sz31 (Ev.plain rfl) (Ev.plain rfl) rfl rfl rfl rfl rfl (Nat.le_of_ble_eq_true rfl) rfl rfl ?_
        refine ARun.move (.inr rfl) rfl rfl rfl (Ev.plain rfl) optN ?_
        refine ⟨_, _, rfl, hG, ?_⟩
        refine thenA_n ?_
        refine AWP.seq ?_
        refine AWP.seq ?_
        refine AWP.region (fun _ => ?_)
        refine ARun.move (.inl rfl) rfl rfl rfl (Ev.plain rfl) optN ?_
        refine ARun.call rfl rfl rfl rfl cf25 (Ev.plain rfl) (.cons (Ev.plain rfl) .nil) rfl (fun hg => code_fn (takeRErr (applyP s p).2)) optN ?_
        refine ARun.cmp rfl rfl rfl rfl (Ev.plain rfl) (Ev.plain rfl) rfl optN ?_
        refine ARun.move (.inl rfl) rfl rfl rfl (Ev.plain rfl) optN ?_
        refine ARun.fieldBox (fo := 0) rfl rfl rfl rfl Tryz.underlying31 rfl rfl sz28 (by decide) (Ev.plain rfl) ((hG.at _ _).trans rfl) optS ?_
        refine ARun.loadBox rfl rfl rfl rfl Tryz.underlying28 rfl (Ev.opt rfl (fun h => h)) ((hG.at _ _).trans rfl) rfl optS ?_
        refine ARun.cmp rfl rfl rfl rfl (Ev.opt rfl (fun h => h)) (Ev.plain rfl) rfl optS ?_
        refine ARun.pick rfl rfl rfl rfl (Ev.plain rfl) (Ev.opt rfl (by first | exact pkT | exact pkT2 | simp +contextual)) (Ev.plain rfl) (andB _ _) optN ?_
        refine ARun.move (.inl rfl) rfl rfl rfl (Ev.plain rfl) optN ?_
        refine ARun.fieldBox (fo := 0) rfl rfl rfl rfl Tryz.underlying39 rfl rfl sz22 (by decide) (Ev.plain rfl) ((hG.at _ _).trans rfl) optS ?_
        refine ARun.loadBox rfl rfl rfl rfl Tryz.underlying22 rfl (Ev.opt rfl (fun h => h)) ((hG.at _ _).trans rfl) rfl optS ?_
        refine ARun.move (.inl rfl) rfl rfl rfl (Ev.plain rfl) optS ?_
        refine ARun.call rfl rfl rfl rfl cf11 (Ev.plain rfl) (.cons (Ev.opt rfl (fun h => h)) (.cons (Ev.opt rfl (fun h => h)) .nil)) rfl (fun hg => Stk.same_fn (applyP s p).1.1 s.1 (by omega)) optS ?_
        refine ARun.not rfl rfl rfl rfl (Ev.opt rfl (fun h => h)) optS ?_
        refine ARun.pick rfl rfl rfl rfl (Ev.plain rfl) (Ev.opt rfl (by first | exact pkT | exact pkT2 | simp +contextual)) (Ev.plain rfl) (andB _ _) optN ?_
        refine ⟨_, _, rfl, hG, ?_⟩
        refine thenA_n ?_
        refine AWP.cond rfl (fun h3 => ?_) (fun h3 => ?_)
        · skip
          rw [takeRErr_code] at h3
          by_cases e : (takeR (applyP s p).2).code = 0
          · simp [e] at h3
          · simp [apply_refused hp6 h2 e] at h3
        · skip
          skip
          refine AWP.skip ?_
          refine thenA_n ?_
          refine AWP.seq ?_
          refine AWP.region (fun _ => ?_)
          refine ARun.loadBoxA rfl rfl rfl rfl Tryz.underlying39 rfl sz39 (Ev.plain rfl) ((hG.at _ _).trans rfl) rfl rfl optN ?_
          refine ARun.call rfl rfl rfl rfl cf18 (Ev.plain rfl) (.cons (Ev.plain rfl) .nil) rfl (fun hg => chkS_fn (applyP s p).1) optN ?_
          refine ARun.cmp rfl rfl rfl rfl (Ev.plain rfl) (Ev.plain rfl) rfl optN ?_
          refine ARun.move (.inl rfl) rfl rfl rfl (Ev.plain rfl) optN ?_
          refine ARun.call rfl rfl rfl rfl cf8 (Ev.plain rfl) .nil rfl (fun hg => awake_fn) optS ?_
          refine ARun.pick rfl rfl rfl rfl (Ev.plain rfl) (Ev.opt rfl (by first | exact pkT | exact pkT2 | simp +contextual)) (Ev.plain rfl) (andB _ _) optN ?_
          refine ARun.move (.inr rfl) rfl rfl rfl (Ev.plain rfl) optN ?_
          refine ⟨_, _, rfl, hG, ?_⟩
          refine thenA_n ?_
          refine AWP.ret ?_
          refine endF.one (.inr rfl) rfl (.tmp rfl) ?_ hN
          refine congrArg AV.bool ?_
          simp [apply_ok hp6 h2]
end Go.Proofs.YtgebpndhnkkbgaaGreatDoor
namespace Go.Proofs.YtgebpndhnkkbgaaGreatDoor
set_option linter.unusedVariables false
set_option linter.unusedSimpArgs false
open Go.ChangeShapes Go.WideShapes Go.ChangeAt Go.RowKit
set_option maxRecDepth 100000
theorem exists_list {α : Type} {Q : Nat → α → Prop} (n : Nat) (h : ∀ i, i < n → ∃ x, Q i x) : ∃ l : List α, l.length = n ∧ ∀ i, (hi : i < l.length) → Q i l[i] := by
  induction n with
  | zero => exact ⟨[], rfl, fun i hi => absurd hi (Nat.not_lt_zero i)⟩
  | succ n ih =>
    obtain ⟨l, hl, hq⟩ := ih fun i hi => h i (by omega)
    obtain ⟨x, hx⟩ := h n (by omega)
    refine ⟨l ++ [x], by simp [hl], fun i hi => ?_⟩
    by_cases e : i < l.length
    · rw [List.getElem_append_left e]; exact hq i e
    · obtain rfl : i = l.length := by simp at hi; omega
      rw [List.getElem_append_right (Nat.le_refl _)]
      simpa [hl] using hx
def fit1 (x : Int) : Prop := -9223372036854775808 ≤ x ∧ x ≤ 9223372036854775807
end Go.Proofs.YtgebpndhnkkbgaaGreatDoor
namespace Go.Proofs.YtgebpndhnkkbgaaGreatDoor
set_option linter.unusedVariables false
set_option linter.unusedSimpArgs false
open Go.ChangeShapes Go.WideShapes Go.ChangeAt Go.RowKit
/-- cells in a row stand for cells of trees -/
def CL (W : World) (cs : List Value) (ys : List AV) : Prop := cs.length = ys.length ∧ ∀ (j : Nat) (u : Value) (z : AV), cs[j]? = some u → ys[j]? = some z → VRep [] W u z
theorem CL.one {W : World} {u : Value} {z : AV} (h : VRep [] W u z) : CL W [u] [z] := ⟨rfl, fun j u' z' h1 h2 => by
  cases j with
  | zero => simp at h1 h2; subst h1 h2; exact h
  | succ j => simp at h1⟩
theorem CL.join {W : World} {l : List Value} {o s o2 : Nat} {a b : List AV} (h : CL W ((l.drop o).take s) a) (k : CL W (l.drop o2) b) (e : o2 = o + s) (hs : a.length = s) : CL W (l.drop o) (a ++ b) := by
  subst e
  obtain ⟨h1, h2⟩ := h
  obtain ⟨k1, k2⟩ := k
  have e1 : l.drop o = (l.drop o).take s ++ l.drop (o + s) := by rw [← List.drop_drop, List.take_append_drop]
  have hl : ((l.drop o).take s).length = s := by rw [h1, hs]
  refine ⟨by rw [e1, List.length_append, h1, k1, List.length_append], fun j u z p q => ?_⟩
  rw [e1] at p
  by_cases hj : j < s
  · rw [List.getElem?_append_left (by omega)] at p
    rw [List.getElem?_append_left (by omega)] at q
    exact h2 j u z p q
  · rw [List.getElem?_append_right (by omega), hl] at p
    rw [List.getElem?_append_right (by omega), hs] at q
    exact k2 _ u z p q
theorem CL.last {W : World} {l : List Value} {o s : Nat} {a : List AV} (h : CL W ((l.drop o).take s) a) (hl : l.length = o + s) : CL W (l.drop o) a := by
  rwa [List.take_of_length_le (by simp; omega)] at h
def Opn (P : Program) (T : TypeId) {α : Type} (av : α → AV) (good : α → Prop) : Prop :=
  ∀ {H : Type} (encH : TypeId × Value → H) (W : World) (bb : Nat) (spare : Nat → Bool) (held : Bool) (m : Nat) (cs : List Value) (y : DataW H × List MemPlace), DataW.trod encH P W bb spare held m T cs = some y → ∃ x : α, CL W cs (av x).cells ∧ good x
theorem opn_i64 {P : Program} {T : TypeId} (ht : P.underlying T = some (.int .i64)) : Opn P T (AV.int .i64) fit1 := by
  intro H encH W bb spare held m cs y h
  obtain ⟨n, rfl, _, hw⟩ := DataW.trod_int ht h
  exact ⟨n, CL.one (.int _ _), wf64 hw⟩
theorem opn_str {P : Program} {T : TypeId} (ht : P.underlying T = some .string) : Opn P T AV.str (fun s => s.size ≤ maxLen) := by
  intro H encH W bb spare held m cs y h
  obtain ⟨n, rfl, _, hw⟩ := DataW.trod_string ht h
  exact ⟨n, CL.one (.str _), hw⟩
theorem opn_slice {P : Program} {T e : TypeId} {α : Type} {av : α → AV} {good : α → Prop} {z : Nat} (ht : P.underlying T = some (.slice e)) (hc : P.cellsOf e = z) (hz0 : 0 < z) (hz : ∀ x, (av x).cells.length = z) (he : Opn P e av good) :
    Opn P T (fun l : List α => .sl (l.map av)) (fun l => l.length ≤ maxLen ∧ ∀ x, x ∈ l → good x) := by
  intro H encH W bb spare held m cs y h
  rcases DataW.trod_slice ht h with ⟨rfl, _⟩ | ⟨x, len, cap, elems, rest, n, _, rfl, _, _, hl, hm, hlen, hgot, _, _⟩
  · exact ⟨[], CL.one .slnil, Nat.zero_le _, fun x hx => by cases hx⟩
  · have each : ∀ i, i < len → ∃ y : α, good y ∧ ∃ cs, W.cells? bb (x.add (i * z)) z = some cs ∧ CL W cs (av y).cells := by
      intro i hi
      have h1 := hgot i hi
      rw [hc, List.getElem?_eq_getElem (by omega), Option.bind_eq_some_iff] at h1
      obtain ⟨cs, h2, h3⟩ := h1
      obtain ⟨y, hy, hg⟩ := he encH W bb spare held n cs _ h3
      exact ⟨y, hg, cs, h2, hy⟩
    obtain ⟨xs, hxl, hxs⟩ := exists_list len each
    subst hxl
    refine ⟨xs, CL.one ?_, by omega, fun y hy => ?_⟩
    · by_cases h0 : xs = []
      · subst h0; exact .slemp x cap hm
      · have hpos : 0 < xs.length := List.length_pos_iff.2 h0
        obtain ⟨_, cs0, g2, g3⟩ := hxs 0 hpos
        obtain ⟨_, gl, gcell⟩ := World.cells?_some g2
        have g4 := gcell 0 hz0
        rw [List.getElem?_eq_getElem (by omega)] at g4
        have e1 : (x.add (0 * z)).add 0 = x := by simp [Addr.add]
        rw [e1] at g4
        have hs1 := World.cell?_spot g4
        obtain ⟨b, off, spot⟩ := x
        simp only at hs1
        subst hs1
        have hb := World.block_lt_of_cell? W _ g4
        have hcell : ∀ (i j : Nat) (X y : AV), (xs.map av)[i]? = some X → X.cells[j]? = some y → ∃ u, W.cell? ⟨b, off + i * z + j, none⟩ = some u ∧ VRep [] W u y := by
          intro i j X y hi hj
          rw [List.getElem?_map, Option.map_eq_some_iff] at hi
          obtain ⟨q, hq, rfl⟩ := hi
          have hlt := (List.getElem?_eq_some_iff.1 hq).1
          obtain ⟨_, cs, c1, c2, c3⟩ := hxs i hlt
          have hqe : xs[i] = q := by rw [List.getElem?_eq_getElem hlt] at hq; exact Option.some.inj hq
          rw [hqe] at c2 c3
          obtain ⟨_, cl, ccell⟩ := World.cells?_some c1
          have hjz : j < z := by have := (List.getElem?_eq_some_iff.1 hj).1; rw [hz] at this; exact this
          have h3 := ccell j hjz
          rw [addr_add, addr_add] at h3
          rw [h3, List.getElem?_eq_getElem (by omega)]
          exact ⟨_, rfl, c3 j _ y (List.getElem?_eq_getElem (by omega)) hj⟩
        have : VRep [] W (.slice (some ⟨b, off, none⟩) (xs.map av).length cap) (.sl (xs.map av)) := by
          refine .sl b off cap z _ (by rw [List.length_map]; omega) hm hb (fun h hh => by cases hh) (fun X hX => ?_) (fun i j X y hi hj => ?_) (fun i j X y u hi hj hu => ?_)
          · obtain ⟨q, _, rfl⟩ := List.mem_map.1 hX
            exact hz q
          · obtain ⟨u, h1, _⟩ := hcell i j X y hi hj
            exact ⟨u, h1⟩
          · obtain ⟨u', h1, h2⟩ := hcell i j X y hi hj
            rw [h1] at hu; cases hu; exact h2
        rwa [List.length_map] at this
    · obtain ⟨i, hi, rfl⟩ := List.getElem_of_mem hy
      exact (hxs i hi).1
section
variable {P : Program} {T : TypeId} {α : Type} {av : α → AV} {good : α → Prop} {H : Type} {encH : TypeId × Value → H} {W : World} {b0 bb : Nat} {spare : Nat → Bool} {held : Bool} {v : Value} {d : DataW H} {p : List MemPlace} {r : Reach}
theorem top_one (ho : Opn P T av good) (hc : v.cells = #[v]) (h1 : ∀ x, (av x).cells = [av x]) (h : DataW.Trod encH P W bb spare held T v d p) : ∃ x : α, VRep [] W v (av x) ∧ good x := by
  obtain ⟨fuel, hf⟩ := h
  obtain ⟨x, hx, hg⟩ := ho encH W bb spare held fuel _ _ hf
  rw [hc, h1] at hx
  exact ⟨x, hx.2 0 _ _ rfl rfl, hg⟩
theorem top_str (ht : P.underlying T = some .string) (ho : Opn P T av good) (h1 : ∀ x, (av x).cells = [av x]) (hv : Value.okWide P W r b0 T v) (h : DataW.Trod encH P W bb spare held T v d p) : ∃ x : α, VRep [] W v (av x) ∧ good x := by
  obtain ⟨n, rfl⟩ := okWide_string ht hv
  exact top_one ho rfl h1 h
theorem top_agg {u : TypeDesc} (ht : P.underlying T = some u) (hA : isA u = true) (ho : Opn P T av good) (h1 : ∀ x, av x = .agg (av x).cells) (hv : Value.okWide P W r b0 T v) (h : DataW.Trod encH P W bb spare held T v d p) : ∃ x : α, VRep [] W v (av x) ∧ good x := by
  have hv2 : ∃ cs : Array Value, v = .agg cs := by
    simp only [Value.okWide, ht] at hv
    cases u <;> cases hA
    · obtain ⟨cs, h1, _⟩ := hv; exact ⟨cs, h1⟩
    · obtain ⟨cs, h1, _⟩ := hv; exact ⟨cs, h1⟩
  obtain ⟨cs, rfl⟩ := hv2
  obtain ⟨fuel, hf⟩ := h
  obtain ⟨x, hx, hg⟩ := ho encH W bb spare held fuel _ _ hf
  refine ⟨x, ?_, hg⟩
  rw [h1 x]
  exact .agg _ _ (by have := hx.1; simpa [Value.cells] using this) fun j u' z k1 k2 => hx.2 j u' z (by simpa [Value.cells] using k1) k2
end
end Go.Proofs.YtgebpndhnkkbgaaGreatDoor
namespace Go.Proofs.YtgebpndhnkkbgaaGreatDoor
set_option linter.unusedVariables false
set_option linter.unusedSimpArgs false
open Go.ChangeShapes Go.WideShapes Go.ChangeAt Go.RowKit
set_option maxRecDepth 100000
theorem cz3 : Tryz.prog.cellsOf 3 = 1 := by kernel_rfl
theorem cz9 : Tryz.prog.cellsOf 9 = 1 := by kernel_rfl
theorem cz22 : Tryz.prog.cellsOf 22 = 1 := by kernel_rfl
theorem cz23 : Tryz.prog.cellsOf 23 = 1 := by kernel_rfl
theorem cz25 : Tryz.prog.cellsOf 25 = 7 := by kernel_rfl
theorem cz37 : Tryz.prog.cellsOf 37 = 1 := by kernel_rfl
theorem cz39 : Tryz.prog.cellsOf 39 = 2 := by kernel_rfl
theorem cz60 : Tryz.prog.cellsOf 60 = 3 := by kernel_rfl
theorem cz64 : Tryz.prog.cellsOf 64 = 4 := by kernel_rfl
theorem cz108 : Tryz.prog.cellsOf 108 = 2 := by kernel_rfl

def good_Stk.aIt (x : StockP.It) : Prop := (fit1) x.id ∧ (fit1) x.free ∧ (fit1) x.held ∧ (fit1) x.gone
theorem opn_Stk.aIt : Opn Tryz.prog 64 Stk.aIt good_Stk.aIt := by
  intro H encH W bb spare held m cs y h
  obtain ⟨xs, m2, _, _, hl, hxl, hel⟩ := DataW.trod_struct Tryz.underlying64 h
  have hn : xs.length = 4 := hxl
  rw [cz64] at hl
  have h0 : DataW.trod encH Tryz.prog W bb spare held m2 3 ((cs.drop 0).take (Tryz.prog.cellsOf 3)) = xs[0]? := hel 0 _ rfl
  rw [List.getElem?_eq_getElem (by omega), cz3] at h0
  obtain ⟨x0, c0, g0⟩ := (opn_i64 Tryz.underlying3) encH W bb spare held _ _ _ h0
  have h1 : DataW.trod encH Tryz.prog W bb spare held m2 3 ((cs.drop 1).take (Tryz.prog.cellsOf 3)) = xs[1]? := hel 1 _ rfl
  rw [List.getElem?_eq_getElem (by omega), cz3] at h1
  obtain ⟨x1, c1, g1⟩ := (opn_i64 Tryz.underlying3) encH W bb spare held _ _ _ h1
  have h2 : DataW.trod encH Tryz.prog W bb spare held m2 3 ((cs.drop 2).take (Tryz.prog.cellsOf 3)) = xs[2]? := hel 2 _ rfl
  rw [List.getElem?_eq_getElem (by omega), cz3] at h2
  obtain ⟨x2, c2, g2⟩ := (opn_i64 Tryz.underlying3) encH W bb spare held _ _ _ h2
  have h3 : DataW.trod encH Tryz.prog W bb spare held m2 3 ((cs.drop 3).take (Tryz.prog.cellsOf 3)) = xs[3]? := hel 3 _ rfl
  rw [List.getElem?_eq_getElem (by omega), cz3] at h3
  obtain ⟨x3, c3, g3⟩ := (opn_i64 Tryz.underlying3) encH W bb spare held _ _ _ h3
  have d3 := CL.last c3 (by rw [hl])
  have d2 := CL.join c2 d3 rfl rfl
  have d1 := CL.join c1 d2 rfl rfl
  have d0 := CL.join c0 d1 rfl rfl
  rw [List.drop_zero] at d0
  exact ⟨⟨x0, x1, x2, x3⟩, d0, g0, g1, g2, g3⟩

def good_Ssn.aSe (x : SessP.Se) : Prop := (fit1) x.client ∧ (fit1) x.seq ∧ (fun s => s.size ≤ maxLen) x.reply
theorem opn_Ssn.aSe : Opn Tryz.prog 60 Ssn.aSe good_Ssn.aSe := by
  intro H encH W bb spare held m cs y h
  obtain ⟨xs, m2, _, _, hl, hxl, hel⟩ := DataW.trod_struct Tryz.underlying60 h
  have hn : xs.length = 3 := hxl
  rw [cz60] at hl
  have h0 : DataW.trod encH Tryz.prog W bb spare held m2 3 ((cs.drop 0).take (Tryz.prog.cellsOf 3)) = xs[0]? := hel 0 _ rfl
  rw [List.getElem?_eq_getElem (by omega), cz3] at h0
  obtain ⟨x0, c0, g0⟩ := (opn_i64 Tryz.underlying3) encH W bb spare held _ _ _ h0
  have h1 : DataW.trod encH Tryz.prog W bb spare held m2 3 ((cs.drop 1).take (Tryz.prog.cellsOf 3)) = xs[1]? := hel 1 _ rfl
  rw [List.getElem?_eq_getElem (by omega), cz3] at h1
  obtain ⟨x1, c1, g1⟩ := (opn_i64 Tryz.underlying3) encH W bb spare held _ _ _ h1
  have h2 : DataW.trod encH Tryz.prog W bb spare held m2 9 ((cs.drop 2).take (Tryz.prog.cellsOf 9)) = xs[2]? := hel 2 _ rfl
  rw [List.getElem?_eq_getElem (by omega), cz9] at h2
  obtain ⟨x2, c2, g2⟩ := (opn_str Tryz.underlying9) encH W bb spare held _ _ _ h2
  have d2 := CL.last c2 (by rw [hl])
  have d1 := CL.join c1 d2 rfl rfl
  have d0 := CL.join c0 d1 rfl rfl
  rw [List.drop_zero] at d0
  exact ⟨⟨x0, x1, x2⟩, d0, g0, g1, g2⟩

def good_aSt (x : St) : Prop := (fun l => l.length ≤ maxLen ∧ ∀ x, x ∈ l → (good_Stk.aIt) x) x.1 ∧ (fun l => l.length ≤ maxLen ∧ ∀ x, x ∈ l → (good_Ssn.aSe) x) x.2
theorem opn_aSt : Opn Tryz.prog 39 aSt good_aSt := by
  intro H encH W bb spare held m cs y h
  obtain ⟨xs, m2, _, _, hl, hxl, hel⟩ := DataW.trod_struct Tryz.underlying39 h
  have hn : xs.length = 2 := hxl
  rw [cz39] at hl
  have h0 : DataW.trod encH Tryz.prog W bb spare held m2 22 ((cs.drop 0).take (Tryz.prog.cellsOf 22)) = xs[0]? := hel 0 _ rfl
  rw [List.getElem?_eq_getElem (by omega), cz22] at h0
  obtain ⟨x0, c0, g0⟩ := (opn_slice Tryz.underlying22 cz64 (by decide) (fun _ => rfl) opn_Stk.aIt) encH W bb spare held _ _ _ h0
  have h1 : DataW.trod encH Tryz.prog W bb spare held m2 37 ((cs.drop 1).take (Tryz.prog.cellsOf 37)) = xs[1]? := hel 1 _ rfl
  rw [List.getElem?_eq_getElem (by omega), cz37] at h1
  obtain ⟨x1, c1, g1⟩ := (opn_slice Tryz.underlying37 cz60 (by decide) (fun _ => rfl) opn_Ssn.aSe) encH W bb spare held _ _ _ h1
  have d1 := CL.last c1 (by rw [hl])
  have d0 := CL.join c0 d1 rfl rfl
  rw [List.drop_zero] at d0
  exact ⟨⟨x0, x1⟩, d0, g0, g1⟩

def good_aLn (x : Ln) : Prop := (fit1) x.item ∧ (fit1) x.qty
theorem opn_aLn : Opn Tryz.prog 108 aLn good_aLn := by
  intro H encH W bb spare held m cs y h
  obtain ⟨xs, m2, _, _, hl, hxl, hel⟩ := DataW.trod_struct Tryz.underlying108 h
  have hn : xs.length = 2 := hxl
  rw [cz108] at hl
  have h0 : DataW.trod encH Tryz.prog W bb spare held m2 3 ((cs.drop 0).take (Tryz.prog.cellsOf 3)) = xs[0]? := hel 0 _ rfl
  rw [List.getElem?_eq_getElem (by omega), cz3] at h0
  obtain ⟨x0, c0, g0⟩ := (opn_i64 Tryz.underlying3) encH W bb spare held _ _ _ h0
  have h1 : DataW.trod encH Tryz.prog W bb spare held m2 3 ((cs.drop 1).take (Tryz.prog.cellsOf 3)) = xs[1]? := hel 1 _ rfl
  rw [List.getElem?_eq_getElem (by omega), cz3] at h1
  obtain ⟨x1, c1, g1⟩ := (opn_i64 Tryz.underlying3) encH W bb spare held _ _ _ h1
  have d1 := CL.last c1 (by rw [hl])
  have d0 := CL.join c0 d1 rfl rfl
  rw [List.drop_zero] at d0
  exact ⟨⟨x0, x1⟩, d0, g0, g1⟩

def good_aCl (x : Cl) : Prop := (fit1) x.client ∧ (fit1) x.seq ∧ (fit1) x.kind ∧ (fit1) x.item ∧ (fit1) x.to_ ∧ (fit1) x.qty ∧ (fun l => l.length ≤ maxLen ∧ ∀ x, x ∈ l → (good_aLn) x) x.lines
theorem opn_aCl : Opn Tryz.prog 25 aCl good_aCl := by
  intro H encH W bb spare held m cs y h
  obtain ⟨xs, m2, _, _, hl, hxl, hel⟩ := DataW.trod_struct Tryz.underlying25 h
  have hn : xs.length = 7 := hxl
  rw [cz25] at hl
  have h0 : DataW.trod encH Tryz.prog W bb spare held m2 3 ((cs.drop 0).take (Tryz.prog.cellsOf 3)) = xs[0]? := hel 0 _ rfl
  rw [List.getElem?_eq_getElem (by omega), cz3] at h0
  obtain ⟨x0, c0, g0⟩ := (opn_i64 Tryz.underlying3) encH W bb spare held _ _ _ h0
  have h1 : DataW.trod encH Tryz.prog W bb spare held m2 3 ((cs.drop 1).take (Tryz.prog.cellsOf 3)) = xs[1]? := hel 1 _ rfl
  rw [List.getElem?_eq_getElem (by omega), cz3] at h1
  obtain ⟨x1, c1, g1⟩ := (opn_i64 Tryz.underlying3) encH W bb spare held _ _ _ h1
  have h2 : DataW.trod encH Tryz.prog W bb spare held m2 3 ((cs.drop 2).take (Tryz.prog.cellsOf 3)) = xs[2]? := hel 2 _ rfl
  rw [List.getElem?_eq_getElem (by omega), cz3] at h2
  obtain ⟨x2, c2, g2⟩ := (opn_i64 Tryz.underlying3) encH W bb spare held _ _ _ h2
  have h3 : DataW.trod encH Tryz.prog W bb spare held m2 3 ((cs.drop 3).take (Tryz.prog.cellsOf 3)) = xs[3]? := hel 3 _ rfl
  rw [List.getElem?_eq_getElem (by omega), cz3] at h3
  obtain ⟨x3, c3, g3⟩ := (opn_i64 Tryz.underlying3) encH W bb spare held _ _ _ h3
  have h4 : DataW.trod encH Tryz.prog W bb spare held m2 3 ((cs.drop 4).take (Tryz.prog.cellsOf 3)) = xs[4]? := hel 4 _ rfl
  rw [List.getElem?_eq_getElem (by omega), cz3] at h4
  obtain ⟨x4, c4, g4⟩ := (opn_i64 Tryz.underlying3) encH W bb spare held _ _ _ h4
  have h5 : DataW.trod encH Tryz.prog W bb spare held m2 3 ((cs.drop 5).take (Tryz.prog.cellsOf 3)) = xs[5]? := hel 5 _ rfl
  rw [List.getElem?_eq_getElem (by omega), cz3] at h5
  obtain ⟨x5, c5, g5⟩ := (opn_i64 Tryz.underlying3) encH W bb spare held _ _ _ h5
  have h6 : DataW.trod encH Tryz.prog W bb spare held m2 23 ((cs.drop 6).take (Tryz.prog.cellsOf 23)) = xs[6]? := hel 6 _ rfl
  rw [List.getElem?_eq_getElem (by omega), cz23] at h6
  obtain ⟨x6, c6, g6⟩ := (opn_slice Tryz.underlying23 cz108 (by decide) (fun _ => rfl) opn_aLn) encH W bb spare held _ _ _ h6
  have d6 := CL.last c6 (by rw [hl])
  have d5 := CL.join c5 d6 rfl rfl
  have d4 := CL.join c4 d5 rfl rfl
  have d3 := CL.join c3 d4 rfl rfl
  have d2 := CL.join c2 d3 rfl rfl
  have d1 := CL.join c1 d2 rfl rfl
  have d0 := CL.join c0 d1 rfl rfl
  rw [List.drop_zero] at d0
  exact ⟨⟨x0, x1, x2, x3, x4, x5, x6⟩, d0, g0, g1, g2, g3, g4, g5, g6⟩
end Go.Proofs.YtgebpndhnkkbgaaGreatDoor
namespace Go.Proofs.YtgebpndhnkkbgaaGreatDoor
set_option linter.unusedVariables false
set_option linter.unusedSimpArgs false
open Go.RowKit
open NumP
open Go.WideShapes
set_option maxRecDepth 100000
theorem serviceKeeps_law (W : World) (hg : GOk [] W) (v0 : Value) (x0 : St) (rp0 : VRep [] W v0 (aSt x0)) (gd0 : (good_aSt) x0) (v1 : Value) (x1 : ByteArray) (rp1 : VRep [] W v1 (AV.str x1)) (gd1 : (fun s => s.size ≤ maxLen) x1) (v2 : Value) (x2 : Cl) (rp2 : VRep [] W v2 (aCl x2)) (gd2 : (good_aCl) x2) :
    Calls Tryz.prog 6 #[v0, v1, v2] W fun e W' => e = .returned (.bool true) ∧ Below W.heap.size W W' := by
  skip
  exact law_of_fn (keeps_fn x0 x1 x2 ) hg (.cons rp0 (.cons rp1 (.cons rp2 (.nil))))
end Go.Proofs.YtgebpndhnkkbgaaGreatDoor
