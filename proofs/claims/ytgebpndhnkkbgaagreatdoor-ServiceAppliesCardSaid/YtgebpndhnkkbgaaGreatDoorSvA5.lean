/- The texts that the law ServiceApplies rests on, part 5: AmClR, AmServ, ServLaw, AmServL, AmServM, Open, Opn, OpnS, AmServE. -/
import Derived.Test.YtgebpndhnkkbgaaGreatDoorSvA4
import Derived.ChangeOld
import Derived.DataReads
import Derived.ChangeArms
open Go.Proofs.Tryz renaming underlying3 → U3, underlying4 → U4, underlying9 → U9, underlying22 → U22, underlying23 → U23, underlying25 → U25, underlying28 → U28, underlying29 → U29, underlying31 → U31, underlying37 → U37, underlying39 → U39, underlying40 → U40, underlying53 → U53, underlying60 → U60, underlying64 → U64, underlying108 → U108, underlying131 → U131, underlying132 → U132, underlying178 → U178
namespace Go.Proofs.YtgebpndhnkkbgaaGreatDoor
set_option linter.unusedVariables false
set_option linter.unusedSimpArgs false
open Go.RowKit
open NumP
set_option maxRecDepth 100000
theorem numb_R (n : Int) : (decide (n > 0) && decide (n < 100000)) = numbP n := by
  unfold numbP
  rw [show decide (1 ≤ n) = decide (n > 0) from decide_eq_decide.2 (by omega), show decide (n ≤ 99999) = decide (n < 100000) from decide_eq_decide.2 (by omega)]
def plainP (c : Cl) (lo hi : Int) : Bool := numbP c.item && decide (c.to_ = 0) && decide (lo ≤ c.qty) && decide (c.qty ≤ hi) && decide (c.lines.length = 0)
theorem plain_one (c : Cl) : plainP c 0 1000000 = (bareP c && (decide (c.qty = 0) || someP c.qty)) := by
  unfold plainP bareP someP
  have h : (decide (0 ≤ c.qty) && decide (c.qty ≤ 1000000)) = (decide (c.qty = 0) || (decide (1 ≤ c.qty) && decide (c.qty ≤ 1000000))) := by rw [Bool.eq_iff_iff]; simp; omega
  rw [← h]
  generalize numbP c.item = a; generalize decide (c.to_ = 0) = b; generalize decide (c.lines.length = 0) = d; generalize decide (0 ≤ c.qty) = e; generalize decide (c.qty ≤ 1000000) = f
  cases a <;> cases b <;> cases d <;> cases e <;> cases f <;> rfl
theorem plain_some (c : Cl) : plainP c 1 1000000 = (bareP c && someP c.qty) := by
  unfold plainP bareP someP
  generalize numbP c.item = a; generalize decide (c.to_ = 0) = b; generalize decide (c.lines.length = 0) = d; generalize decide (1 ≤ c.qty) = e; generalize decide (c.qty ≤ 1000000) = f
  cases a <;> cases b <;> cases d <;> cases e <;> cases f <;> rfl
theorem plain_none (c : Cl) : plainP c 0 0 = (bareP c && decide (c.qty = 0)) := by
  unfold plainP bareP
  have h : (decide (0 ≤ c.qty) && decide (c.qty ≤ 0)) = decide (c.qty = 0) := by rw [Bool.eq_iff_iff]; simp; omega
  rw [← h]
  generalize numbP c.item = a; generalize decide (c.to_ = 0) = b; generalize decide (c.lines.length = 0) = d; generalize decide (0 ≤ c.qty) = e; generalize decide (c.qty ≤ 0) = f
  cases a <;> cases b <;> cases d <;> cases e <;> cases f <;> rfl
theorem linesP_out {l : List Ln} (h : l.length = 0 ∨ 5 < l.length) : linesP l = false := by
  unfold linesP
  rcases h with h | h
  · rw [h]; rfl
  rw [decide_eq_false (show ¬ l.length ≤ 5 by omega)]; simp
theorem linesP_all {l : List Ln} (h : 0 < l.length ∧ l.length ≤ 5) (h2 : ∀ k, k < l.length → okAt l k = true) : linesP l = true := by
  rw [linesP_yes h2, decide_eq_true h.1, decide_eq_true h.2]; rfl
theorem layR_e {r : Rp} (h : ¬ (r.code < 0 ∨ 255 < r.code ∨ 20 < r.nums.length)) : (layR r).out = putR r ∧ (layR r).e = repE r := by
  cases hn : nneg r.nums with
  | true =>
    have he : repE r = 0 := by rw [repE, if_neg (by rw [hn]; simp; omega)]
    rw [putR, if_pos he, layR_ok he, he]; exact ⟨rfl, rfl⟩
  | false =>
    have he : repE r = 2 := by rw [repE, if_pos (.inr (.inr (.inr hn)))]
    have hw : (layR r).e = 2 := by
      unfold layR
      rw [wrNums_pos _ rfl (fun x hx => by simp at hx; subst hx; omega)]
      unfold wrRow wrPut rowN
      rw [if_neg (by simp [WrS.new]), if_neg (by simp [hn] : ¬ nneg r.nums = true), if_pos (by decide)]
    rw [putR, if_neg (by omega), hw, he]
    exact ⟨by rw [WrS.out, if_neg (by omega)], rfl⟩
def cells6 (s : ByteArray) (k : Nat) : List AV := (List.range 6).map fun j => AV.int .i64 (if j < k then sixN s j else 0)
theorem cells6_set (s : ByteArray) (k : Nat) (h : k < 6) : (cells6 s k).take (0 + k * 1) ++ [AV.int .i64 (sixN s k)] ++ (cells6 s k).drop (0 + k * 1 + 1) = cells6 s (k + 1) := by
  have : k = 0 ∨ k = 1 ∨ k = 2 ∨ k = 3 ∨ k = 4 ∨ k = 5 := by omega
  rcases this with rfl | rfl | rfl | rfl | rfl | rfl <;> rfl
set_option maxHeartbeats 1000000 in
theorem numberR_fn (n : Int) : FnP Tryz.prog 72 [.int .i64 n] (.bool (numbP n)) := by
  refine FnP.of Tryz.func72 rfl rfl (by simp) (by simp [AV.cells, aIn, aOut, aLn, aCl, aRp]) (fun G hG => ?_)
  have hN : NoH G.length (.bool (numbP n)) := (by simp [AV.cells, aIn, aOut, aLn, aCl, aRp])
  refine sr fun _ => ?_
  refine mz ?_
  refine sr fun _ => ?_
  refine mv ?_
  refine ρ2 ?_
  refine mv ?_
  refine ρk ?_
  refine ρ9 ?_
  refine ρ0 ?_
  refine mz ?_
  refine AWP.ret ?_
  refine ρh ?_
  rw [← numb_R n]
set_option maxHeartbeats 1000000 in
theorem plainR_fn (c : Cl) (lo hi : Int) : FnP Tryz.prog 73 [aCl c, .int .i64 lo, .int .i64 hi] (.bool (plainP c lo hi)) := by
  refine FnP.of Tryz.func73 rfl rfl (by simp) (by simp [AV.cells, aIn, aOut, aLn, aCl, aRp]) (fun G hG => ?_)
  have hN : NoH G.length (.bool (plainP c lo hi)) := (by simp [AV.cells, aIn, aOut, aLn, aCl, aRp])
  refine sr fun _ => ?_
  refine ρx ?_
  refine mz ?_
  refine sr fun _ => ?_
  refine ρ5 U25 sz3 ?_
  refine ρa U3 ?_
  refine ρm cf72 (fun hg => numberR_fn c.item) ?_
  refine mv ?_
  refine ρc U25 sz3 ?_
  refine ρ8 U3 ?_
  refine ρ9 ?_
  refine ρ0 ?_
  refine mv ?_
  refine ρc U25 sz3 ?_
  refine ρ8 U3 ?_
  refine ρk ?_
  refine ρu ?_
  refine ρ0 ?_
  refine mv ?_
  refine ρc U25 sz3 ?_
  refine ρ8 U3 ?_
  refine ρk ?_
  refine ρu ?_
  refine ρ0 ?_
  refine mv ?_
  refine ρc U25 sz23 ?_
  refine ρ8 U23 ?_
  refine ARun.lenSl rfl rfl rfl rfl U23 (Ev.opt rfl (fun h => h)) optS ?_
  refine ρ9 ?_
  refine ρ0 ?_
  refine mz ?_
  refine AWP.ret ?_
  refine ρh ?_
  simp [plainP]
set_option maxHeartbeats 1000000 in
theorem linesR_fn (l : List Ln) (hl : l.length ≤ 100000) : FnP Tryz.prog 74 [.sl (l.map aLn)] (.bool (linesP l)) := by
  refine FnP.of Tryz.func74 rfl rfl (by simp) (by simp [AV.cells, aIn, aOut, aLn, aCl, aRp]) (fun G hG => ?_)
  have hN : NoH G.length (.bool (linesP l)) := (by simp [AV.cells, aIn, aOut, aLn, aCl, aRp])
  refine sr fun _ => ?_
  refine mz ?_
  refine AWP.seq ?_
  refine sr fun _ => ?_
  refine mv ?_
  refine ρv U23 ?_
  refine ρ2 ?_
  refine mv ?_
  refine ρk ?_
  refine ARun.lenSl rfl rfl rfl rfl U23 (Ev.opt rfl (fun h => h)) optS ?_
  refine ρ9 ?_
  refine ρ3 ?_
  refine ez ?_
  refine ρp (fun h0 => ?_) (fun h0 => ?_)
  · have hlen : l.length = 0 ∨ 5 < l.length := by simp only [List.length_map, Bool.or_eq_true, decide_eq_true_eq] at h0; omega
    refine sr fun _ => ?_
    refine mz ?_
    refine AWP.ret (thenA_r ?_)
    refine ρh ?_
    rw [linesP_out hlen]; rfl
  have hlen : 0 < l.length ∧ l.length ≤ 5 := by simp only [List.length_map, Bool.or_eq_false_iff, decide_eq_false_iff_not] at h0; omega
  refine AWP.skip (thenA_n (AWP.seq ?_))
  refine sr fun _ => ?_
  refine mz ?_
  refine AWP.block ?_
  refine AWP.rounds (fun k => k ≤ l.length ∧ ∀ j, j < k → okAt l j = true) (fun k => [(0, .sl (l.map aLn)), (3, .int .i64 (k : Int))]) (fun k => []) (fun k => l.length - k) 0 0 ⟨by omega, fun j h => by omega⟩ (by repeat (first | exact .nil | refine .cons rfl ?_)) rfl (fun _ => rfl) (fun _ => ⟨by simp [AV.cells, aLn], by simp⟩) (fun k hI => ?_)
  obtain ⟨hk, hno⟩ := hI
  refine AWP.seq ?_
  refine sr fun _ => ?_
  refine mv ?_
  refine mv ?_
  refine ρv U23 ?_
  refine ρ2 ?_
  refine ez ?_
  refine ρp (fun h1 => ?_) (fun h1 => ?_)
  · try simp [-List.getD_eq_getElem?_getD] at h1
    refine AWP.skip (thenA_n ?_)
    refine AWP.seq (AWP.block (AWP.seq ?_))
    refine AWP.draw mixed (by kernel_rfl) (fun _ => ?_)
    refine mv ?_
    refine mv ?_
    first | refine ρe U23 sz108 ?_ | refine ρ7 U23 sz108 ?_
    refine ρ5 U108 sz3 ?_
    refine ρa U3 ?_
    refine ρm cf72 (fun hg => numberR_fn (l.getD k default).item) ?_
    refine ρC ?_
    refine mv ?_
    refine ρk ?_
    refine ρk ?_
    first | refine ρy U23 sz108 ?_ | refine ρw U23 sz108 ?_
    refine ρB U108 sz3 ?_
    refine ρ8 U3 ?_
    refine ρ9 ?_
    refine ρ3 ?_
    refine mv ?_
    refine ρk ?_
    refine ρk ?_
    first | refine ρy U23 sz108 ?_ | refine ρw U23 sz108 ?_
    refine ρB U108 sz3 ?_
    refine ρ8 U3 ?_
    refine ρ9 ?_
    refine ρ3 ?_
    refine mv ?_
    refine ρk ?_
    refine ρ9 ?_
    refine ARun.move (.inl rfl) rfl rfl rfl (Ev.opt rfl (fun h => h)) optS ?_
    refine ρk ?_
    refine ρk ?_
    first | refine ρy U23 sz108 ?_ | refine ρw U23 sz108 ?_
    refine ρB U108 sz3 ?_
    refine ρ8 U3 ?_
    refine ρk ?_
    refine ρk ?_
    first | refine ARun.arith rfl rfl rfl rfl (Ev.opt rfl (fun h => h)) (ep rfl) rfl (fun hg => i64w (by (try simp at hg); omega)) optS ?_ | refine ARun.arith rfl rfl rfl rfl (Ev.opt rfl (fun h => h)) (ep rfl) rfl (fun _ => rfl) optS ?_
    first | refine ρy U23 sz108 ?_ | refine ρw U23 sz108 ?_
    refine ρB U108 sz3 ?_
    refine ρ8 U3 ?_
    refine ρu ?_
    refine ARun.pick rfl rfl rfl rfl (Ev.opt rfl (fun h => h)) (Ev.opt rfl (by first | exact pkT | exact pkT2 | simp +contextual)) (ep rfl) (andB _ _) optS ?_
    refine ρ3 ?_
    refine ⟨by kernel_rfl, _, _, rfl, hG, ?_⟩
    refine thenA_n ?_
    refine ρp (fun h2 => ?_) (fun h2 => ?_)
    · rw [okAt_nR l k (l.getD ((k : Int) - 1).toNat default).item (fun hk0 => by rw [show ((k : Int) - 1).toNat = k - 1 by omega])] at h2
      refine sr fun _ => ?_
      refine mz ?_
      refine AWP.ret (blockA_r ?_)
      refine thenA_r (thenA_r ?_)
      refine blockA_r (thenA_r ?_)
      refine ρh ?_
      rw [linesP_no (by omega) (by simpa using h2)]; rfl
    rw [okAt_nR l k (l.getD ((k : Int) - 1).toNat default).item (fun hk0 => by rw [show ((k : Int) - 1).toNat = k - 1 by omega])] at h2
    refine AWP.skip (blockA_n (thenA_n ?_))
    refine AWP.region (fun _ => ?_)
    refine mv ?_
    first | refine ρb ?_ | refine ρl ?_
    refine ma ?_
    refine ⟨_, _, rfl, hG, ?_⟩
    refine thenA_n ⟨rfl, k + 1, _, ?_, ?_, rfl, ?_⟩
    · refine ⟨by omega, fun j hj => ?_⟩
      by_cases e : j = k
      · subst e; simpa using h2
      exact hno j (by omega)
    · repeat (first | exact .nil | refine .cons rfl ?_)
    omega
  try simp [-List.getD_eq_getElem?_getD] at h1
  refine AWP.exit ?_
  refine thenA_x ?_
  refine thenA_x ?_
  refine blockA_h ?_
  refine thenA_n ?_
  refine sr fun _ => ?_
  refine mz ?_
  refine AWP.ret ?_
  refine ρh ?_
  rw [linesP_all hlen (fun j hj => hno j (by omega))]; rfl
set_option maxHeartbeats 1000000 in
theorem checkR_fn (c : Cl) (hl : c.lines.length ≤ 100000) : FnP Tryz.prog 32 [aCl c] (.int .i64 (checkP c)) := by
  have hcm : (c.item = c.to_) ↔ (c.to_ = c.item) := eq_comm
  refine FnP.of Tryz.func32 rfl rfl (by simp) (by simp [AV.cells, aIn, aOut, aLn, aCl, aRp]) (fun G hG => ?_)
  have hN : NoH G.length (.int .i64 (checkP c)) := (by simp [AV.cells, aIn, aOut, aLn, aCl, aRp])
  refine sr fun _ => ?_
  refine ρx ?_
  refine mz ?_
  refine sr fun _ => ?_
  refine ρ5 U25 sz3 ?_
  refine ρa U3 ?_
  refine ρm cf72 (fun hg => numberR_fn c.client) ?_
  refine mv ?_
  refine ρc U25 sz3 ?_
  refine ρ8 U3 ?_
  refine ρn cf72 (fun hg => numberR_fn c.seq) ?_
  refine ρ0 ?_
  refine mz ?_
  refine AWP.seq ?_
  refine sr fun _ => ?_
  refine ρ5 U25 sz3 ?_
  refine ρa U3 ?_
  refine ez ?_
  refine AWP.block ?_
  refine sr fun _ => ?_
  refine ρ2 ?_
  refine mz ?_
  refine ρp (fun h0 => ?_) (fun h0 => ?_)
  · simp at h0
    refine AWP.region (fun _ => ?_)
    refine mv ?_
    refine mv ?_
    refine ARun.loadPeA rfl rfl rfl rfl U25 rfl sz25 (ep rfl) rfl optS ?_
    refine ARun.call rfl rfl rfl rfl cf73 (ep rfl) (.cons (Ev.opt rfl (fun h => h)) (.cons (ep rfl) (.cons (ep rfl) .nil))) rfl (fun hg => plainR_fn c 0 1000000) optS ?_
    refine ρ0 ?_
    refine ma ?_
    refine ⟨_, _, rfl, hG, ?_⟩
    refine blockA_n (thenA_n (AWP.seq ?_))
    refine sr fun _ => ?_
    refine mv ?_
    refine ρC ?_
    refine ez ?_
    refine ρp (fun h1 => ?_) (fun h1 => ?_)
    · simp at h1
      refine sr fun _ => ?_
      refine mz ?_
      refine AWP.ret (thenA_r ?_)
      refine ρh ?_
      refine congrArg (AV.int .i64) (?_ : _ = checkP c)
      simp_all [checkP, mayP, plain_one, plain_some, plain_none, someP] <;> (intros; first | omega | (simp_all; done) | (simp_all; refine Or.resolve_left (by assumption) (?_ : ¬ (c.qty < 1 ∨ 1000000 < c.qty)); omega))
    simp at h1
    refine AWP.skip (thenA_n ?_)
    refine sr fun _ => ?_
    refine mz ?_
    refine AWP.ret ?_
    refine ρh ?_
    refine congrArg (AV.int .i64) (?_ : _ = checkP c)
    simp_all [checkP, mayP, plain_one, plain_some, plain_none, someP] <;> (intros; first | omega | (simp_all; done) | (simp_all; refine Or.resolve_left (by assumption) (?_ : ¬ (c.qty < 1 ∨ 1000000 < c.qty)); omega))
  simp at h0
  refine AWP.seq ?_
  refine sr fun _ => ?_
  refine ρ2 ?_
  refine mz ?_
  refine ρp (fun h2 => ?_) (fun h2 => ?_)
  · simp at h2
    refine AWP.skip (thenA_n ?_)
    refine ρp (fun h3 => ?_) (fun h3 => ?_)
    · simp at h3
      refine AWP.region (fun _ => ?_)
      refine mv ?_
      refine mv ?_
      refine ARun.loadPeA rfl rfl rfl rfl U25 rfl sz25 (ep rfl) rfl optS ?_
      refine ARun.call rfl rfl rfl rfl cf73 (ep rfl) (.cons (Ev.opt rfl (fun h => h)) (.cons (ep rfl) (.cons (ep rfl) .nil))) rfl (fun hg => plainR_fn c 1 1000000) optS ?_
      refine ρ0 ?_
      refine ma ?_
      refine ⟨_, _, rfl, hG, ?_⟩
      refine blockA_n (thenA_n (AWP.seq ?_))
      refine sr fun _ => ?_
      refine mv ?_
      refine ρC ?_
      refine ez ?_
      refine ρp (fun h4 => ?_) (fun h4 => ?_)
      · simp at h4
        refine sr fun _ => ?_
        refine mz ?_
        refine AWP.ret (thenA_r ?_)
        refine ρh ?_
        refine congrArg (AV.int .i64) (?_ : _ = checkP c)
        simp_all [checkP, mayP, plain_one, plain_some, plain_none, someP] <;> (intros; first | omega | (simp_all; done) | (simp_all; refine Or.resolve_left (by assumption) (?_ : ¬ (c.qty < 1 ∨ 1000000 < c.qty)); omega))
      simp at h4
      refine AWP.skip (thenA_n ?_)
      refine sr fun _ => ?_
      refine mz ?_
      refine AWP.ret ?_
      refine ρh ?_
      refine congrArg (AV.int .i64) (?_ : _ = checkP c)
      simp_all [checkP, mayP, plain_one, plain_some, plain_none, someP] <;> (intros; first | omega | (simp_all; done) | (simp_all; refine Or.resolve_left (by assumption) (?_ : ¬ (c.qty < 1 ∨ 1000000 < c.qty)); omega))
    simp at h3
    refine sr fun _ => ?_
    refine ρ2 ?_
    refine mz ?_
    refine ρp (fun h5 => ?_) (fun h5 => ?_)
    · simp at h5
      refine AWP.region (fun _ => ?_)
      refine mv ?_
      refine mv ?_
      refine ρc U25 sz3 ?_
      refine ρ8 U3 ?_
      refine ρn cf72 (fun hg => numberR_fn c.item) ?_
      refine ρ0 ?_
      refine mv ?_
      refine ρc U25 sz3 ?_
      refine ρ8 U3 ?_
      refine ρn cf72 (fun hg => numberR_fn c.to_) ?_
      refine ρ0 ?_
      refine mv ?_
      refine ρc U25 sz3 ?_
      refine ρ8 U3 ?_
      refine ρc U25 sz3 ?_
      refine ρ8 U3 ?_
      refine ρu ?_
      refine ρ0 ?_
      refine mv ?_
      refine ρc U25 sz3 ?_
      refine ρ8 U3 ?_
      refine ρ9 ?_
      refine ρ0 ?_
      refine mv ?_
      refine ρc U25 sz3 ?_
      refine ρ8 U3 ?_
      refine ρ9 ?_
      refine ρ0 ?_
      refine mv ?_
      refine ρc U25 sz23 ?_
      refine ρ8 U23 ?_
      refine ARun.lenSl rfl rfl rfl rfl U23 (Ev.opt rfl (fun h => h)) optS ?_
      refine ρ9 ?_
      refine ρ0 ?_
      refine ma ?_
      refine ⟨_, _, rfl, hG, ?_⟩
      refine blockA_n (thenA_n (AWP.seq ?_))
      refine sr fun _ => ?_
      refine mv ?_
      refine ρC ?_
      refine ez ?_
      refine ρp (fun h6 => ?_) (fun h6 => ?_)
      · simp at h6
        refine sr fun _ => ?_
        refine mz ?_
        refine AWP.ret (thenA_r ?_)
        refine ρh ?_
        refine congrArg (AV.int .i64) (?_ : _ = checkP c)
        simp_all [checkP, mayP, plain_one, plain_some, plain_none, someP] <;> (intros; first | omega | (simp_all; done) | (simp_all; refine Or.resolve_left (by assumption) (?_ : ¬ (c.qty < 1 ∨ 1000000 < c.qty)); omega))
      simp at h6
      refine AWP.skip (thenA_n ?_)
      refine sr fun _ => ?_
      refine mz ?_
      refine AWP.ret ?_
      refine ρh ?_
      refine congrArg (AV.int .i64) (?_ : _ = checkP c)
      simp_all [checkP, mayP, plain_one, plain_some, plain_none, someP] <;> (intros; first | omega | (simp_all; done) | (simp_all; refine Or.resolve_left (by assumption) (?_ : ¬ (c.qty < 1 ∨ 1000000 < c.qty)); omega))
    simp at h5
    refine sr fun _ => ?_
    refine ρ2 ?_
    refine mz ?_
    refine ρp (fun h7 => ?_) (fun h7 => ?_)
    · simp at h7
      refine AWP.region (fun _ => ?_)
      refine mv ?_
      refine mv ?_
      refine ARun.loadPeA rfl rfl rfl rfl U25 rfl sz25 (ep rfl) rfl optS ?_
      refine ARun.call rfl rfl rfl rfl cf73 (ep rfl) (.cons (Ev.opt rfl (fun h => h)) (.cons (ep rfl) (.cons (ep rfl) .nil))) rfl (fun hg => plainR_fn c 0 0) optS ?_
      refine ρ0 ?_
      refine ma ?_
      refine ⟨_, _, rfl, hG, ?_⟩
      refine blockA_n (thenA_n (AWP.seq ?_))
      refine sr fun _ => ?_
      refine mv ?_
      refine ρC ?_
      refine ez ?_
      refine ρp (fun h8 => ?_) (fun h8 => ?_)
      · simp at h8
        refine sr fun _ => ?_
        refine mz ?_
        refine AWP.ret (thenA_r ?_)
        refine ρh ?_
        refine congrArg (AV.int .i64) (?_ : _ = checkP c)
        simp_all [checkP, mayP, plain_one, plain_some, plain_none, someP] <;> (intros; first | omega | (simp_all; done) | (simp_all; refine Or.resolve_left (by assumption) (?_ : ¬ (c.qty < 1 ∨ 1000000 < c.qty)); omega))
      simp at h8
      refine AWP.skip (thenA_n ?_)
      refine sr fun _ => ?_
      refine mz ?_
      refine AWP.ret ?_
      refine ρh ?_
      refine congrArg (AV.int .i64) (?_ : _ = checkP c)
      simp_all [checkP, mayP, plain_one, plain_some, plain_none, someP] <;> (intros; first | omega | (simp_all; done) | (simp_all; refine Or.resolve_left (by assumption) (?_ : ¬ (c.qty < 1 ∨ 1000000 < c.qty)); omega))
    simp at h7
    refine sr fun _ => ?_
    refine ρ2 ?_
    refine mz ?_
    refine ρp (fun h9 => ?_) (fun h9 => ?_)
    · simp at h9
      refine AWP.region (fun _ => ?_)
      refine mv ?_
      refine mv ?_
      refine ρc U25 sz3 ?_
      refine ρ8 U3 ?_
      refine ρ9 ?_
      refine ρ0 ?_
      refine mv ?_
      refine ρc U25 sz3 ?_
      refine ρ8 U3 ?_
      refine ρ9 ?_
      refine ρ0 ?_
      refine mv ?_
      refine ρc U25 sz3 ?_
      refine ρ8 U3 ?_
      refine ρ9 ?_
      refine ρ0 ?_
      refine mv ?_
      refine ρc U25 sz23 ?_
      refine ρ8 U23 ?_
      refine ρn cf74 (fun hg => linesR_fn c.lines hl) ?_
      refine ρ0 ?_
      refine ma ?_
      refine ⟨_, _, rfl, hG, ?_⟩
      refine blockA_n (thenA_n (AWP.seq ?_))
      refine sr fun _ => ?_
      refine mv ?_
      refine ρC ?_
      refine ez ?_
      refine ρp (fun h10 => ?_) (fun h10 => ?_)
      · simp at h10
        refine sr fun _ => ?_
        refine mz ?_
        refine AWP.ret (thenA_r ?_)
        refine ρh ?_
        refine congrArg (AV.int .i64) (?_ : _ = checkP c)
        simp_all [checkP, mayP, plain_one, plain_some, plain_none, someP] <;> (intros; first | omega | (simp_all; done) | (simp_all; refine Or.resolve_left (by assumption) (?_ : ¬ (c.qty < 1 ∨ 1000000 < c.qty)); omega))
      simp at h10
      refine AWP.skip (thenA_n ?_)
      refine sr fun _ => ?_
      refine mz ?_
      refine AWP.ret ?_
      refine ρh ?_
      refine congrArg (AV.int .i64) (?_ : _ = checkP c)
      simp_all [checkP, mayP, plain_one, plain_some, plain_none, someP] <;> (intros; first | omega | (simp_all; done) | (simp_all; refine Or.resolve_left (by assumption) (?_ : ¬ (c.qty < 1 ∨ 1000000 < c.qty)); omega))
    simp at h9
    refine sr fun _ => ?_
    refine mz ?_
    refine AWP.ret (blockA_r (thenA_r ?_))
    refine ρh ?_
    refine congrArg (AV.int .i64) (?_ : _ = checkP c)
    simp_all [checkP, mayP, plain_one, plain_some, plain_none, someP] <;> (intros; first | omega | (simp_all; done) | (simp_all; refine Or.resolve_left (by assumption) (?_ : ¬ (c.qty < 1 ∨ 1000000 < c.qty)); omega))
  simp at h2
  refine sr fun _ => ?_
  refine ρ2 ?_
  refine mz ?_
  refine ρp (fun h11 => ?_) (fun h11 => ?_)
  · simp at h11
    refine AWP.skip (thenA_n ?_)
    refine ρp (fun h12 => ?_) (fun h12 => ?_)
    · simp at h12
      refine AWP.region (fun _ => ?_)
      refine mv ?_
      refine mv ?_
      refine ARun.loadPeA rfl rfl rfl rfl U25 rfl sz25 (ep rfl) rfl optS ?_
      refine ARun.call rfl rfl rfl rfl cf73 (ep rfl) (.cons (Ev.opt rfl (fun h => h)) (.cons (ep rfl) (.cons (ep rfl) .nil))) rfl (fun hg => plainR_fn c 1 1000000) optS ?_
      refine ρ0 ?_
      refine ma ?_
      refine ⟨_, _, rfl, hG, ?_⟩
      refine blockA_n (thenA_n (AWP.seq ?_))
      refine sr fun _ => ?_
      refine mv ?_
      refine ρC ?_
      refine ez ?_
      refine ρp (fun h13 => ?_) (fun h13 => ?_)
      · simp at h13
        refine sr fun _ => ?_
        refine mz ?_
        refine AWP.ret (thenA_r ?_)
        refine ρh ?_
        refine congrArg (AV.int .i64) (?_ : _ = checkP c)
        simp_all [checkP, mayP, plain_one, plain_some, plain_none, someP] <;> (intros; first | omega | (simp_all; done) | (simp_all; refine Or.resolve_left (by assumption) (?_ : ¬ (c.qty < 1 ∨ 1000000 < c.qty)); omega))
      simp at h13
      refine AWP.skip (thenA_n ?_)
      refine sr fun _ => ?_
      refine mz ?_
      refine AWP.ret ?_
      refine ρh ?_
      refine congrArg (AV.int .i64) (?_ : _ = checkP c)
      simp_all [checkP, mayP, plain_one, plain_some, plain_none, someP] <;> (intros; first | omega | (simp_all; done) | (simp_all; refine Or.resolve_left (by assumption) (?_ : ¬ (c.qty < 1 ∨ 1000000 < c.qty)); omega))
    simp at h12
    refine sr fun _ => ?_
    refine ρ2 ?_
    refine mz ?_
    refine ρp (fun h14 => ?_) (fun h14 => ?_)
    · simp at h14
      refine AWP.region (fun _ => ?_)
      refine mv ?_
      refine mv ?_
      refine ρc U25 sz3 ?_
      refine ρ8 U3 ?_
      refine ρn cf72 (fun hg => numberR_fn c.item) ?_
      refine ρ0 ?_
      refine mv ?_
      refine ρc U25 sz3 ?_
      refine ρ8 U3 ?_
      refine ρn cf72 (fun hg => numberR_fn c.to_) ?_
      refine ρ0 ?_
      refine mv ?_
      refine ρc U25 sz3 ?_
      refine ρ8 U3 ?_
      refine ρc U25 sz3 ?_
      refine ρ8 U3 ?_
      refine ρu ?_
      refine ρ0 ?_
      refine mv ?_
      refine ρc U25 sz3 ?_
      refine ρ8 U3 ?_
      refine ρ9 ?_
      refine ρ0 ?_
      refine mv ?_
      refine ρc U25 sz3 ?_
      refine ρ8 U3 ?_
      refine ρ9 ?_
      refine ρ0 ?_
      refine mv ?_
      refine ρc U25 sz23 ?_
      refine ρ8 U23 ?_
      refine ARun.lenSl rfl rfl rfl rfl U23 (Ev.opt rfl (fun h => h)) optS ?_
      refine ρ9 ?_
      refine ρ0 ?_
      refine ma ?_
      refine ⟨_, _, rfl, hG, ?_⟩
      refine blockA_n (thenA_n (AWP.seq ?_))
      refine sr fun _ => ?_
      refine mv ?_
      refine ρC ?_
      refine ez ?_
      refine ρp (fun h15 => ?_) (fun h15 => ?_)
      · simp at h15
        refine sr fun _ => ?_
        refine mz ?_
        refine AWP.ret (thenA_r ?_)
        refine ρh ?_
        refine congrArg (AV.int .i64) (?_ : _ = checkP c)
        simp_all [checkP, mayP, plain_one, plain_some, plain_none, someP] <;> (intros; first | omega | (simp_all; done) | (simp_all; refine Or.resolve_left (by assumption) (?_ : ¬ (c.qty < 1 ∨ 1000000 < c.qty)); omega))
      simp at h15
      refine AWP.skip (thenA_n ?_)
      refine sr fun _ => ?_
      refine mz ?_
      refine AWP.ret ?_
      refine ρh ?_
      refine congrArg (AV.int .i64) (?_ : _ = checkP c)
      simp_all [checkP, mayP, plain_one, plain_some, plain_none, someP] <;> (intros; first | omega | (simp_all; done) | (simp_all; refine Or.resolve_left (by assumption) (?_ : ¬ (c.qty < 1 ∨ 1000000 < c.qty)); omega))
    simp at h14
    refine sr fun _ => ?_
    refine ρ2 ?_
    refine mz ?_
    refine ρp (fun h16 => ?_) (fun h16 => ?_)
    · simp at h16
      refine AWP.region (fun _ => ?_)
      refine mv ?_
      refine mv ?_
      refine ARun.loadPeA rfl rfl rfl rfl U25 rfl sz25 (ep rfl) rfl optS ?_
      refine ARun.call rfl rfl rfl rfl cf73 (ep rfl) (.cons (Ev.opt rfl (fun h => h)) (.cons (ep rfl) (.cons (ep rfl) .nil))) rfl (fun hg => plainR_fn c 0 0) optS ?_
      refine ρ0 ?_
      refine ma ?_
      refine ⟨_, _, rfl, hG, ?_⟩
      refine blockA_n (thenA_n (AWP.seq ?_))
      refine sr fun _ => ?_
      refine mv ?_
      refine ρC ?_
      refine ez ?_
      refine ρp (fun h17 => ?_) (fun h17 => ?_)
      · simp at h17
        refine sr fun _ => ?_
        refine mz ?_
        refine AWP.ret (thenA_r ?_)
        refine ρh ?_
        refine congrArg (AV.int .i64) (?_ : _ = checkP c)
        simp_all [checkP, mayP, plain_one, plain_some, plain_none, someP] <;> (intros; first | omega | (simp_all; done) | (simp_all; refine Or.resolve_left (by assumption) (?_ : ¬ (c.qty < 1 ∨ 1000000 < c.qty)); omega))
      simp at h17
      refine AWP.skip (thenA_n ?_)
      refine sr fun _ => ?_
      refine mz ?_
      refine AWP.ret ?_
      refine ρh ?_
      refine congrArg (AV.int .i64) (?_ : _ = checkP c)
      simp_all [checkP, mayP, plain_one, plain_some, plain_none, someP] <;> (intros; first | omega | (simp_all; done) | (simp_all; refine Or.resolve_left (by assumption) (?_ : ¬ (c.qty < 1 ∨ 1000000 < c.qty)); omega))
    simp at h16
    refine sr fun _ => ?_
    refine ρ2 ?_
    refine mz ?_
    refine ρp (fun h18 => ?_) (fun h18 => ?_)
    · simp at h18
      refine AWP.region (fun _ => ?_)
      refine mv ?_
      refine mv ?_
      refine ρc U25 sz3 ?_
      refine ρ8 U3 ?_
      refine ρ9 ?_
      refine ρ0 ?_
      refine mv ?_
      refine ρc U25 sz3 ?_
      refine ρ8 U3 ?_
      refine ρ9 ?_
      refine ρ0 ?_
      refine mv ?_
      refine ρc U25 sz3 ?_
      refine ρ8 U3 ?_
      refine ρ9 ?_
      refine ρ0 ?_
      refine mv ?_
      refine ρc U25 sz23 ?_
      refine ρ8 U23 ?_
      refine ρn cf74 (fun hg => linesR_fn c.lines hl) ?_
      refine ρ0 ?_
      refine ma ?_
      refine ⟨_, _, rfl, hG, ?_⟩
      refine blockA_n (thenA_n (AWP.seq ?_))
      refine sr fun _ => ?_
      refine mv ?_
      refine ρC ?_
      refine ez ?_
      refine ρp (fun h19 => ?_) (fun h19 => ?_)
      · simp at h19
        refine sr fun _ => ?_
        refine mz ?_
        refine AWP.ret (thenA_r ?_)
        refine ρh ?_
        refine congrArg (AV.int .i64) (?_ : _ = checkP c)
        simp_all [checkP, mayP, plain_one, plain_some, plain_none, someP] <;> (intros; first | omega | (simp_all; done) | (simp_all; refine Or.resolve_left (by assumption) (?_ : ¬ (c.qty < 1 ∨ 1000000 < c.qty)); omega))
      simp at h19
      refine AWP.skip (thenA_n ?_)
      refine sr fun _ => ?_
      refine mz ?_
      refine AWP.ret ?_
      refine ρh ?_
      refine congrArg (AV.int .i64) (?_ : _ = checkP c)
      simp_all [checkP, mayP, plain_one, plain_some, plain_none, someP] <;> (intros; first | omega | (simp_all; done) | (simp_all; refine Or.resolve_left (by assumption) (?_ : ¬ (c.qty < 1 ∨ 1000000 < c.qty)); omega))
    simp at h18
    refine sr fun _ => ?_
    refine mz ?_
    refine AWP.ret (blockA_r (thenA_r ?_))
    refine ρh ?_
    refine congrArg (AV.int .i64) (?_ : _ = checkP c)
    simp_all [checkP, mayP, plain_one, plain_some, plain_none, someP] <;> (intros; first | omega | (simp_all; done) | (simp_all; refine Or.resolve_left (by assumption) (?_ : ¬ (c.qty < 1 ∨ 1000000 < c.qty)); omega))
  simp at h11
  refine sr fun _ => ?_
  refine ρ2 ?_
  refine mz ?_
  refine ρp (fun h20 => ?_) (fun h20 => ?_)
  · simp at h20
    refine AWP.skip (thenA_n ?_)
    refine ρp (fun h21 => ?_) (fun h21 => ?_)
    · simp at h21
      refine AWP.region (fun _ => ?_)
      refine mv ?_
      refine mv ?_
      refine ARun.loadPeA rfl rfl rfl rfl U25 rfl sz25 (ep rfl) rfl optS ?_
      refine ARun.call rfl rfl rfl rfl cf73 (ep rfl) (.cons (Ev.opt rfl (fun h => h)) (.cons (ep rfl) (.cons (ep rfl) .nil))) rfl (fun hg => plainR_fn c 1 1000000) optS ?_
      refine ρ0 ?_
      refine ma ?_
      refine ⟨_, _, rfl, hG, ?_⟩
      refine blockA_n (thenA_n (AWP.seq ?_))
      refine sr fun _ => ?_
      refine mv ?_
      refine ρC ?_
      refine ez ?_
      refine ρp (fun h22 => ?_) (fun h22 => ?_)
      · simp at h22
        refine sr fun _ => ?_
        refine mz ?_
        refine AWP.ret (thenA_r ?_)
        refine ρh ?_
        refine congrArg (AV.int .i64) (?_ : _ = checkP c)
        simp_all [checkP, mayP, plain_one, plain_some, plain_none, someP] <;> (intros; first | omega | (simp_all; done) | (simp_all; refine Or.resolve_left (by assumption) (?_ : ¬ (c.qty < 1 ∨ 1000000 < c.qty)); omega))
      simp at h22
      refine AWP.skip (thenA_n ?_)
      refine sr fun _ => ?_
      refine mz ?_
      refine AWP.ret ?_
      refine ρh ?_
      refine congrArg (AV.int .i64) (?_ : _ = checkP c)
      simp_all [checkP, mayP, plain_one, plain_some, plain_none, someP] <;> (intros; first | omega | (simp_all; done) | (simp_all; refine Or.resolve_left (by assumption) (?_ : ¬ (c.qty < 1 ∨ 1000000 < c.qty)); omega))
    simp at h21
    refine sr fun _ => ?_
    refine ρ2 ?_
    refine mz ?_
    refine ρp (fun h23 => ?_) (fun h23 => ?_)
    · simp at h23
      refine AWP.region (fun _ => ?_)
      refine mv ?_
      refine mv ?_
      refine ρc U25 sz3 ?_
      refine ρ8 U3 ?_
      refine ρn cf72 (fun hg => numberR_fn c.item) ?_
      refine ρ0 ?_
      refine mv ?_
      refine ρc U25 sz3 ?_
      refine ρ8 U3 ?_
      refine ρn cf72 (fun hg => numberR_fn c.to_) ?_
      refine ρ0 ?_
      refine mv ?_
      refine ρc U25 sz3 ?_
      refine ρ8 U3 ?_
      refine ρc U25 sz3 ?_
      refine ρ8 U3 ?_
      refine ρu ?_
      refine ρ0 ?_
      refine mv ?_
      refine ρc U25 sz3 ?_
      refine ρ8 U3 ?_
      refine ρ9 ?_
      refine ρ0 ?_
      refine mv ?_
      refine ρc U25 sz3 ?_
      refine ρ8 U3 ?_
      refine ρ9 ?_
      refine ρ0 ?_
      refine mv ?_
      refine ρc U25 sz23 ?_
      refine ρ8 U23 ?_
      refine ARun.lenSl rfl rfl rfl rfl U23 (Ev.opt rfl (fun h => h)) optS ?_
      refine ρ9 ?_
      refine ρ0 ?_
      refine ma ?_
      refine ⟨_, _, rfl, hG, ?_⟩
      refine blockA_n (thenA_n (AWP.seq ?_))
      refine sr fun _ => ?_
      refine mv ?_
      refine ρC ?_
      refine ez ?_
      refine ρp (fun h24 => ?_) (fun h24 => ?_)
      · simp at h24
        refine sr fun _ => ?_
        refine mz ?_
        refine AWP.ret (thenA_r ?_)
        refine ρh ?_
        refine congrArg (AV.int .i64) (?_ : _ = checkP c)
        simp_all [checkP, mayP, plain_one, plain_some, plain_none, someP] <;> (intros; first | omega | (simp_all; done) | (simp_all; refine Or.resolve_left (by assumption) (?_ : ¬ (c.qty < 1 ∨ 1000000 < c.qty)); omega))
      simp at h24
      refine AWP.skip (thenA_n ?_)
      refine sr fun _ => ?_
      refine mz ?_
      refine AWP.ret ?_
      refine ρh ?_
      refine congrArg (AV.int .i64) (?_ : _ = checkP c)
      simp_all [checkP, mayP, plain_one, plain_some, plain_none, someP] <;> (intros; first | omega | (simp_all; done) | (simp_all; refine Or.resolve_left (by assumption) (?_ : ¬ (c.qty < 1 ∨ 1000000 < c.qty)); omega))
    simp at h23
    refine sr fun _ => ?_
    refine ρ2 ?_
    refine mz ?_
    refine ρp (fun h25 => ?_) (fun h25 => ?_)
    · simp at h25
      refine AWP.region (fun _ => ?_)
      refine mv ?_
      refine mv ?_
      refine ARun.loadPeA rfl rfl rfl rfl U25 rfl sz25 (ep rfl) rfl optS ?_
      refine ARun.call rfl rfl rfl rfl cf73 (ep rfl) (.cons (Ev.opt rfl (fun h => h)) (.cons (ep rfl) (.cons (ep rfl) .nil))) rfl (fun hg => plainR_fn c 0 0) optS ?_
      refine ρ0 ?_
      refine ma ?_
      refine ⟨_, _, rfl, hG, ?_⟩
      refine blockA_n (thenA_n (AWP.seq ?_))
      refine sr fun _ => ?_
      refine mv ?_
      refine ρC ?_
      refine ez ?_
      refine ρp (fun h26 => ?_) (fun h26 => ?_)
      · simp at h26
        refine sr fun _ => ?_
        refine mz ?_
        refine AWP.ret (thenA_r ?_)
        refine ρh ?_
        refine congrArg (AV.int .i64) (?_ : _ = checkP c)
        simp_all [checkP, mayP, plain_one, plain_some, plain_none, someP] <;> (intros; first | omega | (simp_all; done) | (simp_all; refine Or.resolve_left (by assumption) (?_ : ¬ (c.qty < 1 ∨ 1000000 < c.qty)); omega))
      simp at h26
      refine AWP.skip (thenA_n ?_)
      refine sr fun _ => ?_
      refine mz ?_
      refine AWP.ret ?_
      refine ρh ?_
      refine congrArg (AV.int .i64) (?_ : _ = checkP c)
      simp_all [checkP, mayP, plain_one, plain_some, plain_none, someP] <;> (intros; first | omega | (simp_all; done) | (simp_all; refine Or.resolve_left (by assumption) (?_ : ¬ (c.qty < 1 ∨ 1000000 < c.qty)); omega))
    simp at h25
    refine sr fun _ => ?_
    refine ρ2 ?_
    refine mz ?_
    refine ρp (fun h27 => ?_) (fun h27 => ?_)
    · simp at h27
      refine AWP.region (fun _ => ?_)
      refine mv ?_
      refine mv ?_
      refine ρc U25 sz3 ?_
      refine ρ8 U3 ?_
      refine ρ9 ?_
      refine ρ0 ?_
      refine mv ?_
      refine ρc U25 sz3 ?_
      refine ρ8 U3 ?_
      refine ρ9 ?_
      refine ρ0 ?_
      refine mv ?_
      refine ρc U25 sz3 ?_
      refine ρ8 U3 ?_
      refine ρ9 ?_
      refine ρ0 ?_
      refine mv ?_
      refine ρc U25 sz23 ?_
      refine ρ8 U23 ?_
      refine ρn cf74 (fun hg => linesR_fn c.lines hl) ?_
      refine ρ0 ?_
      refine ma ?_
      refine ⟨_, _, rfl, hG, ?_⟩
      refine blockA_n (thenA_n (AWP.seq ?_))
      refine sr fun _ => ?_
      refine mv ?_
      refine ρC ?_
      refine ez ?_
      refine ρp (fun h28 => ?_) (fun h28 => ?_)
      · simp at h28
        refine sr fun _ => ?_
        refine mz ?_
        refine AWP.ret (thenA_r ?_)
        refine ρh ?_
        refine congrArg (AV.int .i64) (?_ : _ = checkP c)
        simp_all [checkP, mayP, plain_one, plain_some, plain_none, someP] <;> (intros; first | omega | (simp_all; done) | (simp_all; refine Or.resolve_left (by assumption) (?_ : ¬ (c.qty < 1 ∨ 1000000 < c.qty)); omega))
      simp at h28
      refine AWP.skip (thenA_n ?_)
      refine sr fun _ => ?_
      refine mz ?_
      refine AWP.ret ?_
      refine ρh ?_
      refine congrArg (AV.int .i64) (?_ : _ = checkP c)
      simp_all [checkP, mayP, plain_one, plain_some, plain_none, someP] <;> (intros; first | omega | (simp_all; done) | (simp_all; refine Or.resolve_left (by assumption) (?_ : ¬ (c.qty < 1 ∨ 1000000 < c.qty)); omega))
    simp at h27
    refine sr fun _ => ?_
    refine mz ?_
    refine AWP.ret (blockA_r (thenA_r ?_))
    refine ρh ?_
    refine congrArg (AV.int .i64) (?_ : _ = checkP c)
    simp_all [checkP, mayP, plain_one, plain_some, plain_none, someP] <;> (intros; first | omega | (simp_all; done) | (simp_all; refine Or.resolve_left (by assumption) (?_ : ¬ (c.qty < 1 ∨ 1000000 < c.qty)); omega))
  simp at h20
  refine AWP.region (fun _ => ?_)
  refine ρ2 ?_
  refine mz ?_
  refine ρp (fun h29 => ?_) (fun h29 => ?_)
  · simp at h29
    refine AWP.region (fun _ => ?_)
    refine mv ?_
    refine mv ?_
    refine ARun.loadPeA rfl rfl rfl rfl U25 rfl sz25 (ep rfl) rfl optS ?_
    refine ARun.call rfl rfl rfl rfl cf73 (ep rfl) (.cons (Ev.opt rfl (fun h => h)) (.cons (ep rfl) (.cons (ep rfl) .nil))) rfl (fun hg => plainR_fn c 1 1000000) optS ?_
    refine ρ0 ?_
    refine ma ?_
    refine ⟨_, _, rfl, hG, ?_⟩
    refine blockA_n (thenA_n (AWP.seq ?_))
    refine sr fun _ => ?_
    refine mv ?_
    refine ρC ?_
    refine ez ?_
    refine ρp (fun h30 => ?_) (fun h30 => ?_)
    · simp at h30
      refine sr fun _ => ?_
      refine mz ?_
      refine AWP.ret (thenA_r ?_)
      refine ρh ?_
      refine congrArg (AV.int .i64) (?_ : _ = checkP c)
      simp_all [checkP, mayP, plain_one, plain_some, plain_none, someP] <;> (intros; first | omega | (simp_all; done) | (simp_all; refine Or.resolve_left (by assumption) (?_ : ¬ (c.qty < 1 ∨ 1000000 < c.qty)); omega))
    simp at h30
    refine AWP.skip (thenA_n ?_)
    refine sr fun _ => ?_
    refine mz ?_
    refine AWP.ret ?_
    refine ρh ?_
    refine congrArg (AV.int .i64) (?_ : _ = checkP c)
    simp_all [checkP, mayP, plain_one, plain_some, plain_none, someP] <;> (intros; first | omega | (simp_all; done) | (simp_all; refine Or.resolve_left (by assumption) (?_ : ¬ (c.qty < 1 ∨ 1000000 < c.qty)); omega))
  simp at h29
  refine sr fun _ => ?_
  refine ρ2 ?_
  refine mz ?_
  refine ρp (fun h31 => ?_) (fun h31 => ?_)
  · simp at h31
    refine AWP.region (fun _ => ?_)
    refine mv ?_
    refine mv ?_
    refine ρc U25 sz3 ?_
    refine ρ8 U3 ?_
    refine ρn cf72 (fun hg => numberR_fn c.item) ?_
    refine ρ0 ?_
    refine mv ?_
    refine ρc U25 sz3 ?_
    refine ρ8 U3 ?_
    refine ρn cf72 (fun hg => numberR_fn c.to_) ?_
    refine ρ0 ?_
    refine mv ?_
    refine ρc U25 sz3 ?_
    refine ρ8 U3 ?_
    refine ρc U25 sz3 ?_
    refine ρ8 U3 ?_
    refine ρu ?_
    refine ρ0 ?_
    refine mv ?_
    refine ρc U25 sz3 ?_
    refine ρ8 U3 ?_
    refine ρ9 ?_
    refine ρ0 ?_
    refine mv ?_
    refine ρc U25 sz3 ?_
    refine ρ8 U3 ?_
    refine ρ9 ?_
    refine ρ0 ?_
    refine mv ?_
    refine ρc U25 sz23 ?_
    refine ρ8 U23 ?_
    refine ARun.lenSl rfl rfl rfl rfl U23 (Ev.opt rfl (fun h => h)) optS ?_
    refine ρ9 ?_
    refine ρ0 ?_
    refine ma ?_
    refine ⟨_, _, rfl, hG, ?_⟩
    refine blockA_n (thenA_n (AWP.seq ?_))
    refine sr fun _ => ?_
    refine mv ?_
    refine ρC ?_
    refine ez ?_
    refine ρp (fun h32 => ?_) (fun h32 => ?_)
    · simp at h32
      refine sr fun _ => ?_
      refine mz ?_
      refine AWP.ret (thenA_r ?_)
      refine ρh ?_
      refine congrArg (AV.int .i64) (?_ : _ = checkP c)
      simp_all [checkP, mayP, plain_one, plain_some, plain_none, someP] <;> (intros; first | omega | (simp_all; done) | (simp_all; refine Or.resolve_left (by assumption) (?_ : ¬ (c.qty < 1 ∨ 1000000 < c.qty)); omega))
    simp at h32
    refine AWP.skip (thenA_n ?_)
    refine sr fun _ => ?_
    refine mz ?_
    refine AWP.ret ?_
    refine ρh ?_
    refine congrArg (AV.int .i64) (?_ : _ = checkP c)
    simp_all [checkP, mayP, plain_one, plain_some, plain_none, someP] <;> (intros; first | omega | (simp_all; done) | (simp_all; refine Or.resolve_left (by assumption) (?_ : ¬ (c.qty < 1 ∨ 1000000 < c.qty)); omega))
  simp at h31
  refine sr fun _ => ?_
  refine ρ2 ?_
  refine mz ?_
  refine ρp (fun h33 => ?_) (fun h33 => ?_)
  · simp at h33
    refine AWP.region (fun _ => ?_)
    refine mv ?_
    refine mv ?_
    refine ARun.loadPeA rfl rfl rfl rfl U25 rfl sz25 (ep rfl) rfl optS ?_
    refine ARun.call rfl rfl rfl rfl cf73 (ep rfl) (.cons (Ev.opt rfl (fun h => h)) (.cons (ep rfl) (.cons (ep rfl) .nil))) rfl (fun hg => plainR_fn c 0 0) optS ?_
    refine ρ0 ?_
    refine ma ?_
    refine ⟨_, _, rfl, hG, ?_⟩
    refine blockA_n (thenA_n (AWP.seq ?_))
    refine sr fun _ => ?_
    refine mv ?_
    refine ρC ?_
    refine ez ?_
    refine ρp (fun h34 => ?_) (fun h34 => ?_)
    · simp at h34
      refine sr fun _ => ?_
      refine mz ?_
      refine AWP.ret (thenA_r ?_)
      refine ρh ?_
      refine congrArg (AV.int .i64) (?_ : _ = checkP c)
      simp_all [checkP, mayP, plain_one, plain_some, plain_none, someP] <;> (intros; first | omega | (simp_all; done) | (simp_all; refine Or.resolve_left (by assumption) (?_ : ¬ (c.qty < 1 ∨ 1000000 < c.qty)); omega))
    simp at h34
    refine AWP.skip (thenA_n ?_)
    refine sr fun _ => ?_
    refine mz ?_
    refine AWP.ret ?_
    refine ρh ?_
    refine congrArg (AV.int .i64) (?_ : _ = checkP c)
    simp_all [checkP, mayP, plain_one, plain_some, plain_none, someP] <;> (intros; first | omega | (simp_all; done) | (simp_all; refine Or.resolve_left (by assumption) (?_ : ¬ (c.qty < 1 ∨ 1000000 < c.qty)); omega))
  simp at h33
  refine sr fun _ => ?_
  refine ρ2 ?_
  refine mz ?_
  refine ρp (fun h35 => ?_) (fun h35 => ?_)
  · simp at h35
    refine AWP.region (fun _ => ?_)
    refine mv ?_
    refine mv ?_
    refine ρc U25 sz3 ?_
    refine ρ8 U3 ?_
    refine ρ9 ?_
    refine ρ0 ?_
    refine mv ?_
    refine ρc U25 sz3 ?_
    refine ρ8 U3 ?_
    refine ρ9 ?_
    refine ρ0 ?_
    refine mv ?_
    refine ρc U25 sz3 ?_
    refine ρ8 U3 ?_
    refine ρ9 ?_
    refine ρ0 ?_
    refine mv ?_
    refine ρc U25 sz23 ?_
    refine ρ8 U23 ?_
    refine ρn cf74 (fun hg => linesR_fn c.lines hl) ?_
    refine ρ0 ?_
    refine ma ?_
    refine ⟨_, _, rfl, hG, ?_⟩
    refine blockA_n (thenA_n (AWP.seq ?_))
    refine sr fun _ => ?_
    refine mv ?_
    refine ρC ?_
    refine ez ?_
    refine ρp (fun h36 => ?_) (fun h36 => ?_)
    · simp at h36
      refine sr fun _ => ?_
      refine mz ?_
      refine AWP.ret (thenA_r ?_)
      refine ρh ?_
      refine congrArg (AV.int .i64) (?_ : _ = checkP c)
      simp_all [checkP, mayP, plain_one, plain_some, plain_none, someP] <;> (intros; first | omega | (simp_all; done) | (simp_all; refine Or.resolve_left (by assumption) (?_ : ¬ (c.qty < 1 ∨ 1000000 < c.qty)); omega))
    simp at h36
    refine AWP.skip (thenA_n ?_)
    refine sr fun _ => ?_
    refine mz ?_
    refine AWP.ret ?_
    refine ρh ?_
    refine congrArg (AV.int .i64) (?_ : _ = checkP c)
    simp_all [checkP, mayP, plain_one, plain_some, plain_none, someP] <;> (intros; first | omega | (simp_all; done) | (simp_all; refine Or.resolve_left (by assumption) (?_ : ¬ (c.qty < 1 ∨ 1000000 < c.qty)); omega))
  simp at h35
  refine sr fun _ => ?_
  refine mz ?_
  refine AWP.ret (blockA_r (thenA_r ?_))
  refine ρh ?_
  refine congrArg (AV.int .i64) (?_ : _ = checkP c)
  simp_all [checkP, mayP, plain_one, plain_some, plain_none, someP] <;> (intros; first | omega | (simp_all; done) | (simp_all; refine Or.resolve_left (by assumption) (?_ : ¬ (c.qty < 1 ∨ 1000000 < c.qty)); omega))
set_option maxHeartbeats 1000000 in
theorem putR_R (c : Rp) (hl : c.nums.length ≤ 100000) (hf : ∀ x, x ∈ c.nums → -9223372036854775808 ≤ x ∧ x ≤ 9223372036854775807) : FnP Tryz.prog 88 [aRp c] (.tup [.str (putR c), .int .i64 (repE c)]) := by
  refine FnP.of Tryz.func88 rfl rfl (by simp) (by simp [AV.cells, aIn, aOut, aLn, aCl, aRp]) (fun G hG => ?_)
  have hN : NoH G.length (.tup [.str (putR c), .int .i64 (repE c)]) := (by simp [AV.cells, aIn, aOut, aLn, aCl, aRp])
  refine sr fun _ => ?_
  refine ρx ?_
  refine ma ?_
  refine mz ?_
  refine AWP.seq ?_
  refine sr fun _ => ?_
  refine ρ5 U31 sz28 ?_
  refine ρa U28 ?_
  refine ρ2 ?_
  refine mv ?_
  refine ρc U31 sz28 ?_
  refine ρ8 U28 ?_
  refine ρ9 ?_
  refine ρ3 ?_
  refine mv ?_
  refine ρc U31 sz29 ?_
  refine ρ8 U29 ?_
  refine ARun.lenSl rfl rfl rfl rfl U29 (Ev.opt rfl (fun h => h)) optS ?_
  refine ρ9 ?_
  refine ρ3 ?_
  refine ez ?_
  refine ρp (fun h0 => ?_) (fun h0 => ?_)
  · have hh : c.code < 0 ∨ 255 < c.code ∨ 20 < c.nums.length := by simp only [List.length_map, Bool.or_eq_true, decide_eq_true_eq] at h0; omega
    refine sr fun _ => ?_
    refine ma ?_
    refine mz ?_
    refine AWP.ret (thenA_r ?_)
    refine ρf (rs := [.tmp 2, .tmp 3]) (.cons (.tmp rfl) (.cons (.tmp rfl) .nil)) ?_
    have he : repE c = 2 := by rw [repE, if_pos (by omega)]
    rw [putR, if_neg (by omega), he]; rfl
  have hh : ¬ (c.code < 0 ∨ 255 < c.code ∨ 20 < c.nums.length) := by simp only [List.length_map, Bool.or_eq_false_iff, decide_eq_false_iff_not] at h0; omega
  have hwl := wrNums_len [c.code] WrS.new
  have hwl3 : WrS.new.s.length = 0 := rfl
  simp only [List.length_cons, List.length_nil] at hwl
  refine AWP.skip (thenA_n (AWP.seq ?_))
  refine AWP.draw mixed (by kernel_rfl) (fun _ => ?_)
  refine ARun.build rfl rfl rfl rfl so178 .nil rfl rfl optN ?_
  refine ρ5 U31 sz28 ?_
  refine ρa U28 ?_
  refine ρA U29 sz3 zv3 ?_
  refine ρj cf123 ?_ (hF := fun hg => nums_R WrS.new [c.code] (by simp) (by simp [WrS.new]) (fit_one (by omega)))
  refine ρ5 U31 sz29 ?_
  refine ρa U29 ?_
  refine ρj cf122 ?_ (hF := fun hg => row_W (wrNums WrS.new [c.code]) c.nums (by omega) (by omega) hf)
  refine ρo (j := 0) zv178 ?_
  refine ρ1 sz178 ?_
  refine ⟨by kernel_rfl, _, _, rfl, hG, ?_⟩
  refine thenA_n (AWP.seq ?_)
  refine AWP.draw mixed (by kernel_rfl) (fun _ => ?_)
  refine ρ4 (fo := 0) U178 sz9 ?_
  refine ρd U9 ?_
  refine ρ4 (fo := 2) U178 sz3 ?_
  refine ρd U3 ?_
  refine ma ?_
  refine ma ?_
  refine ⟨by kernel_rfl, _, _, rfl, hG, ?_⟩
  refine thenA_n (AWP.ret ?_)
  refine ρf (rs := [.tmp 2, .tmp 3]) (.cons (.tmp rfl) (.cons (.tmp rfl) .nil)) ?_
  rw [← (layR_e hh).1, ← (layR_e hh).2]; rfl
set_option maxHeartbeats 1000000 in
theorem take_R (s : ByteArray) (hs : s.size ≤ 1000000) : FnP Tryz.prog 53 [.str s] (.tup [aCl (takeC s), .int .i64 (takeE s)]) := by
  have hrl := rdRow_len (sixR s 6) 10
  refine FnP.of Tryz.func53 rfl rfl (by simp) (by simp [AV.cells, aIn, aOut, aLn, aCl, aRp]) (fun G hG => ?_)
  have hN : NoH G.length (.tup [aCl (takeC s), .int .i64 (takeE s)]) := (by simp [AV.cells, aIn, aOut, aLn, aCl, aRp])
  refine sr fun _ => ?_
  refine ρo (j := 0) zv25 ?_
  refine mz ?_
  refine sr fun _ => ?_
  refine mv ?_
  refine ARun.build rfl rfl rfl rfl so131 (.cons (ep rfl) .nil) rfl rfl optN ?_
  refine ρo (j := 1) zv131 ?_
  refine ρ1 sz131 ?_
  refine ez ?_
  refine sr fun _ => ?_
  refine ρo (j := 2) zv132 ?_
  refine ez ?_
  refine AWP.seq ?_
  refine sr fun _ => ?_
  refine mz ?_
  refine AWP.block ?_
  refine AWP.rounds (fun (k : Nat) => k ≤ 6) (fun (k : Nat) => [(2, .box (G.length + 0) 0), (4, .box (G.length + 1) 0), (5, .box (G.length + 2) 0), (6, .int .i64 (k : Int))]) (fun (k : Nat) => [.box [.int .i64 0, .int .i64 0, .int .i64 0, .int .i64 0, .int .i64 0, .int .i64 0, .sl []], .box [.str (sixR s k).s, .int .i64 (sixR s k).at_, .str (sixR s k).p, .int .i64 (sixR s k).e], .box (cells6 s k)]) (fun (k : Nat) => 6 - k) 3 (0 : Nat) (Nat.zero_le _) (by repeat (first | exact .nil | refine .cons rfl ?_)) rfl (fun _ => rfl) (fun _ => ⟨by simp [AV.cells], by simp [AO.conts, cells6]⟩) (fun k hI => ?_)
  refine AWP.seq ?_
  refine sr fun _ => ?_
  refine mv ?_
  refine ρ2 ?_
  refine ez ?_
  refine ρp (fun h0 => ?_) (fun h0 => ?_)
  · try simp [-List.getD_eq_getElem?_getD] at h0
    refine AWP.skip (thenA_n ?_)
    refine AWP.seq (AWP.block ?_)
    refine sr fun _ => ?_
    refine ρi U131 sz131 ?_
    refine ρg cf89 (fun hg => num_R (sixR s k) 2000000 (sixR_ok hs k)) ?_
    refine mv ?_
    refine ρ6 ?_
    refine ρ6 ?_
    refine ρo (j := 3) zv131 ?_
    refine ρ1 sz131 ?_
    refine mz ?_
    refine sr fun _ => ?_
    refine ρi U131 sz131 ?_
    refine ρ1 sz131 ?_
    refine ez ?_
    refine AWP.region (fun _ => ?_)
    refine mv ?_
    refine mv ?_
    refine ARun.indexBox (fo := 0 + k * 1) rfl rfl rfl rfl U132 sz3 (ep rfl) ((hG.at _ _).trans rfl) (ep rfl) (j := k) (fun hg => by first | rfl | omega) (fun hg => by first | decide | omega) rfl optN ?_
    refine ARun.storeL1 hG rfl rfl rfl sz3 (ep rfl) (ep rfl) rfl (by first | rfl | exact aEr_one _ | exact aFl_one _) (by simp [cells6]; omega) (cells6_set s k (by omega)) rfl ?_ (hsp := (by first | rfl | exact plain_take rfl | exact plain_take (by simp [AV.plainC]) | exact plain_take (by simp [cells6, AV.plainC])))
    refine ⟨_, _, rfl, hG, ?_⟩
    refine blockA_n (thenA_n ?_)
    refine AWP.region (fun _ => ?_)
    refine mv ?_
    first | refine ρb ?_ | refine ρl ?_
    refine ma ?_
    refine ⟨_, _, rfl, hG, ?_⟩
    refine thenA_n ⟨rfl, k + 1, _, ?_, ?_, rfl, ?_⟩
    · omega
    · repeat (first | exact .nil | refine .cons rfl ?_)
    omega
  simp at h0
  obtain rfl : k = 6 := by omega
  rw [show cells6 s 6 = [AV.int .i64 (sixN s 0), AV.int .i64 (sixN s 1), AV.int .i64 (sixN s 2), AV.int .i64 (sixN s 3), AV.int .i64 (sixN s 4), AV.int .i64 (sixN s 5)] from rfl]
  refine AWP.exit ?_
  refine thenA_x ?_
  refine thenA_x ?_
  refine blockA_h ?_
  refine thenA_n ?_
  refine sr fun _ => ?_
  refine ρi U131 sz131 ?_
  refine ρg cf90 (fun hg => row_R (sixR s 6) 10 (sixR_ok hs 6)) ?_
  refine mv ?_
  refine ρ6 ?_
  refine ρ6 ?_
  refine ρ1 sz131 ?_
  refine mz ?_
  refine sr fun _ => ?_
  refine ρi U131 sz131 ?_
  refine ρm cf91 (fun hg => end_R (rdRow (sixR s 6) 10).1) ?_
  refine ρ1 sz131 ?_
  refine ez ?_
  refine AWP.seq ?_
  refine sr fun _ => ?_
  refine ρ4 (fo := 3) U131 sz3 ?_
  refine ρd U3 ?_
  refine ρ2 ?_
  refine ez ?_
  refine ρp (fun h1 => ?_) (fun h1 => ?_)
  · have he : (rdCall s).1.e ≠ 0 := by
      have hq := h1
      simp at hq
      exact hq
    refine AWP.seq ?_
    refine AWP.frzBox 4 hG rfl rfl rfl ?_
    refine AWP.draw mixed (by kernel_rfl) (fun _ => ?_)
    refine ARun.build rfl rfl rfl rfl so25 .nil rfl rfl optN ?_
    refine ρ5 U131 sz3 ?_
    refine ρa U3 ?_
    refine ρ1 sz25 ?_
    refine ma ?_
    refine ⟨by kernel_rfl, _, _, rfl, hG, ?_⟩
    refine thenA_n (AWP.ret (thenA_r ?_))
    refine ρf (rs := [.cell 2 25, .tmp 3]) (.cons (.cellA rfl ((hG.at _ _).trans rfl) U25 rfl sz25 rfl rfl) (.cons (.tmp rfl) .nil)) ?_
    have ht : takeE s = (rdCall s).1.e := by rw [takeE, if_pos he]
    rw [takeC, if_neg (by rw [ht]; exact he), ht]; rfl
  have he : (rdCall s).1.e = 0 := by
    have hq := h1
    simp at hq
    exact hq
  refine AWP.skip (thenA_n (AWP.seq ?_))
  refine sr fun _ => ?_
  refine mv ?_
  refine ρv U29 ?_
  refine ARun.remI rfl rfl rfl rfl (ep rfl) (ep rfl) (fun _ => by decide) optN ?_
  refine ρ2 ?_
  refine ez ?_
  refine ρp (fun h2 => ?_) (fun h2 => ?_)
  · simp at h2
    have h1p : (((rdRow (sixR s 6) 10).2.length % 2 : Nat) : Int) = 1 := h2
    refine sr fun _ => ?_
    refine ARun.build rfl rfl rfl rfl so25 .nil rfl rfl optN ?_
    refine ρ1 sz25 ?_
    refine mz ?_
    refine AWP.ret (thenA_r ?_)
    refine ρf (rs := [.cell 2 25, .tmp 3]) (.cons (.cellA rfl ((hG.at _ _).trans rfl) U25 rfl sz25 rfl rfl) (.cons (.tmp rfl) .nil)) ?_
    have h1q : (rdCall s).2.2.length % 2 = 1 := by show (rdRow (sixR s 6) 10).2.length % 2 = 1; omega
    have ht : takeE s = 5 := by rw [takeE, if_neg (by omega), if_pos h1q]
    rw [takeC, if_neg (by rw [ht]; decide), ht]; rfl
  simp at h2
  have h1p : ¬ (((rdRow (sixR s 6) 10).2.length % 2 : Nat) : Int) = 1 := h2
  refine AWP.skip (thenA_n ?_)
  refine sr fun _ => ?_
  refine ARun.indexBox (fo := 0) rfl rfl rfl rfl U132 sz3 (ep rfl) ((hG.at _ _).trans rfl) (ep rfl) (j := 0) (fun hg => by first | rfl | omega) (fun hg => by first | decide | omega) rfl optN ?_
  refine ρd U3 ?_
  refine ARun.indexBox (fo := 1) rfl rfl rfl rfl U132 sz3 (ep rfl) ((hG.at _ _).trans rfl) (ep rfl) (j := 1) (fun hg => by first | rfl | omega) (fun hg => by first | decide | omega) rfl optN ?_
  refine ρd U3 ?_
  refine ARun.indexBox (fo := 2) rfl rfl rfl rfl U132 sz3 (ep rfl) ((hG.at _ _).trans rfl) (ep rfl) (j := 2) (fun hg => by first | rfl | omega) (fun hg => by first | decide | omega) rfl optN ?_
  refine ρd U3 ?_
  refine ARun.indexBox (fo := 3) rfl rfl rfl rfl U132 sz3 (ep rfl) ((hG.at _ _).trans rfl) (ep rfl) (j := 3) (fun hg => by first | rfl | omega) (fun hg => by first | decide | omega) rfl optN ?_
  refine ρd U3 ?_
  refine ARun.indexBox (fo := 4) rfl rfl rfl rfl U132 sz3 (ep rfl) ((hG.at _ _).trans rfl) (ep rfl) (j := 4) (fun hg => by first | rfl | omega) (fun hg => by first | decide | omega) rfl optN ?_
  refine ρd U3 ?_
  refine ARun.indexBox (fo := 5) rfl rfl rfl rfl U132 sz3 (ep rfl) ((hG.at _ _).trans rfl) (ep rfl) (j := 5) (fun hg => by first | rfl | omega) (fun hg => by first | decide | omega) rfl optN ?_
  refine ρd U3 ?_
  refine ARun.buildNil (e := 108) (z := 2) (j := 3) (p := 6) hG rfl rfl rfl rfl rfl so25 rfl (.cons (ep rfl) (.cons (ep rfl) (.cons (ep rfl) (.cons (ep rfl) (.cons (ep rfl) (.cons (ep rfl) .nil)))))) rfl rfl optN ?_
  refine ρo (j := 4) zv25 ?_
  refine ρ1 sz25 ?_
  refine ez ?_
  refine AWP.seq ?_
  refine sr fun _ => ?_
  refine mz ?_
  refine AWP.block ?_
  refine AWP.rounds (fun st => 2 * st.1 ≤ (rdRow (sixR s 6) 10).2.length) (fun st => [(2, .box (G.length + 0) 0), (10, .box (G.length + 4) 0), (9, .sl ((rdRow (sixR s 6) 10).2.map (AV.int .i64))), (11, .int .i64 ((2 * st.1 : Nat) : Int))]) (fun st => [.box [.int .i64 0, .int .i64 0, .int .i64 0, .int .i64 0, .int .i64 0, .int .i64 0, .sl []], .box [.str (rdCall s).1.s, .int .i64 (rdCall s).1.at_, .str (rdCall s).1.p, .int .i64 (rdCall s).1.e], .box [.int .i64 (sixN s 0), .int .i64 (sixN s 1), .int .i64 (sixN s 2), .int .i64 (sixN s 3), .int .i64 (sixN s 4), .int .i64 (sixN s 5)], .row st.2 108 2 ((pairsL ((rdRow (sixR s 6) 10).2.take (2 * st.1))).map aLn), .box [.int .i64 (sixN s 0), .int .i64 (sixN s 1), .int .i64 (sixN s 2), .int .i64 (sixN s 3), .int .i64 (sixN s 4), .int .i64 (sixN s 5), .own (G.length + 3) st.2]]) (fun st => (rdRow (sixR s 6) 10).2.length - 2 * st.1) 5 ((0, 0) : Nat × Nat) (Nat.zero_le _) (by repeat (first | exact .nil | refine .cons rfl ?_)) rfl (fun _ => rfl) (fun _ => ⟨by simp [AV.cells], by simp [AO.conts, aLn, AV.cells]; rintro y a _ (rfl | rfl) <;> simp⟩) (fun st hI => ?_)
  obtain ⟨k, g⟩ := st
  dsimp only at hI
  show AWP _ _ _ _ _ [(2, .box (G.length + 0) 0), (10, .box (G.length + 4) 0), (9, .sl ((rdRow (sixR s 6) 10).2.map (AV.int .i64))), (11, .int .i64 ((2 * k : Nat) : Int))] _ [.box [.int .i64 0, .int .i64 0, .int .i64 0, .int .i64 0, .int .i64 0, .int .i64 0, .sl []], .box [.str (rdCall s).1.s, .int .i64 (rdCall s).1.at_, .str (rdCall s).1.p, .int .i64 (rdCall s).1.e], .box [.int .i64 (sixN s 0), .int .i64 (sixN s 1), .int .i64 (sixN s 2), .int .i64 (sixN s 3), .int .i64 (sixN s 4), .int .i64 (sixN s 5)], .row g 108 2 ((pairsL ((rdRow (sixR s 6) 10).2.take (2 * k))).map aLn), .box [.int .i64 (sixN s 0), .int .i64 (sixN s 1), .int .i64 (sixN s 2), .int .i64 (sixN s 3), .int .i64 (sixN s 4), .int .i64 (sixN s 5), .own (G.length + 3) g]]
  refine AWP.seq ?_
  refine sr fun _ => ?_
  refine mv ?_
  first | refine ρb ?_ | refine ρl ?_
  refine mv ?_
  refine ρv U29 ?_
  refine ρ2 ?_
  refine ez ?_
  refine ρp (fun h3 => ?_) (fun h3 => ?_)
  · try simp [-List.getD_eq_getElem?_getD] at h3
    refine AWP.skip (thenA_n ?_)
    refine AWP.seq (AWP.block ?_)
    refine AWP.draw mixed (by kernel_rfl) (fun _ => ?_)
    refine ρ4 (fo := 6) U25 sz23 ?_
    refine ρd U23 ?_
    refine mv ?_
    refine mv ?_
    first | refine ρe U29 sz3 ?_ | refine ρ7 U29 sz3 ?_
    refine ρa U3 ?_
    refine mv ?_
    refine mv ?_
    first | refine ρb ?_ | refine ρl ?_
    first | refine ρe U29 sz3 ?_ | refine ρ7 U29 sz3 ?_
    refine ρa U3 ?_
    refine ARun.build rfl rfl rfl rfl so108 (.cons (ep rfl) (.cons (ep rfl) .nil)) rfl rfl optN ?_
    refine ρA U23 sz108 zv108 ?_
    refine ARun.appendL hG rfl rfl rfl rfl U23 ti108 rfl (by decide) (ep rfl) (ep rfl) rfl rfl (by have := pairsL_len (((rdRow (sixR s 6) 10).2).take (2 * k)); simp only [List.length_take] at this; simp [maxLen]; omega) (by have := pairsL_len (((rdRow (sixR s 6) 10).2).take (2 * k)); simp only [List.length_take] at this; simp; omega) (pair_snoc (rdRow (sixR s 6) 10).2 k (by omega)) optN rfl ?_
    refine ρ4 (fo := 6) U25 sz23 ?_
    refine ARun.storeL1 hG rfl rfl rfl sz23 (ep rfl) (ep rfl) rfl (by first | rfl | exact aEr_one _ | exact aFl_one _) (Nat.le_of_ble_eq_true rfl) rfl rfl ?_ (hsp := (by first | rfl | exact plain_take rfl | exact plain_take (by simp [AV.plainC]) | exact plain_take (by simp [cells6, AV.plainC])))
    refine ⟨by kernel_rfl, _, _, rfl, hG, ?_⟩
    refine blockA_n (thenA_n ?_)
    refine AWP.region (fun _ => ?_)
    refine mv ?_
    first | refine ρb ?_ | refine ρl ?_
    refine ma ?_
    refine ⟨_, _, rfl, hG, ?_⟩
    refine thenA_n ⟨rfl, (k + 1, g + 1), _, ?_, ?_, rfl, ?_⟩
    · dsimp only; omega
    · repeat (first | exact .nil | refine .cons rfl ?_)
    dsimp only; omega
  simp at h3
  have hk2 : 2 * k = (rdRow (sixR s 6) 10).2.length := by omega
  rw [hk2, List.take_length]
  refine AWP.exit ?_
  refine thenA_x ?_
  refine thenA_x ?_
  refine blockA_h ?_
  refine thenA_n (AWP.seq ?_)
  refine AWP.frzIn (j := 3) (q := 4) (p := 6) hG rfl (by have := pairsL_len (rdRow (sixR s 6) 10).2; simp [maxLen]; omega) rfl rfl rfl ?_
  refine AWP.region (fun _ => ?_)
  refine ρi U25 sz25 ?_
  refine ρz cf32 ?_ (hF := fun hg => checkR_fn (mkCall (sixL s) (rdRow (sixR s 6) 10).2) (by have := pairsL_len (rdRow (sixR s 6) 10).2; show (pairsL (rdRow (sixR s 6) 10).2).length ≤ _; omega))
  refine mz ?_
  refine AWP.seq ?_
  refine sr fun _ => ?_
  refine mv ?_
  refine ρ2 ?_
  refine ez ?_
  refine ρp (fun h4 => ?_) (fun h4 => ?_)
  · simp at h4
    refine sr fun _ => ?_
    refine ARun.build rfl rfl rfl rfl so25 .nil rfl rfl optN ?_
    refine mv ?_
    refine ρ1 sz25 ?_
    refine mz ?_
    refine AWP.ret (thenA_r ?_)
    refine ρf (rs := [.cell 2 25, .tmp 3]) (.cons (.cellA rfl ((hG.at _ _).trans rfl) U25 rfl sz25 rfl rfl) (.cons (.tmp rfl) .nil)) ?_
    have h1q : ¬ (rdCall s).2.2.length % 2 = 1 := by show ¬ (rdRow (sixR s 6) 10).2.length % 2 = 1; omega
    have ht : takeE s = checkP (mkCall (sixL s) (rdRow (sixR s 6) 10).2) := by rw [takeE, if_neg (by omega), if_neg h1q]; rfl
    rw [takeC, if_neg (by rw [ht]; exact h4), ht]; rfl
  simp at h4
  refine AWP.skip (thenA_n ?_)
  refine sr fun _ => ?_
  refine ρi U25 sz25 ?_
  refine ρ1 sz25 ?_
  refine mz ?_
  refine AWP.ret ?_
  refine ρf (rs := [.cell 2 25, .tmp 3]) (.cons (.cellA rfl ((hG.at _ _).trans rfl) U25 rfl sz25 rfl rfl) (.cons (.tmp rfl) .nil)) ?_
  have h1q : ¬ (rdCall s).2.2.length % 2 = 1 := by show ¬ (rdRow (sixR s 6) 10).2.length % 2 = 1; omega
  have ht : takeE s = 0 := by rw [takeE, if_neg (by omega), if_neg h1q]; exact h4
  rw [takeC, if_pos ht, ht]; rfl
end Go.Proofs.YtgebpndhnkkbgaaGreatDoor
namespace Go.Proofs.YtgebpndhnkkbgaaGreatDoor
set_option linter.unusedVariables false
set_option linter.unusedSimpArgs false
open Go.RowKit
open NumP
set_option maxRecDepth 100000
def aSt (s : St) : AV := .agg [.sl (s.1.map Stk.aIt), .sl (s.2.map Ssn.aSe)]
theorem cloneIt_fn (l : Its) (hl : l.length ≤ 1000000) : FnP Tryz.prog 51 [.sl (l.map Stk.aIt)] (.sl (l.map Stk.aIt)) :=
  FnP.of_owns Stk.encIt Stk.aIt 4 Stk.encIt_len (fun x => rfl) (fun x u hu => by simp [Stk.encIt] at hu; rcases hu with rfl | rfl | rfl | rfl <;> rfl) l (fun w a cap hr _ _ _ => Stk.cloneIt_any a cap l w hr hl)
theorem takeErr_none (s : ByteArray) : (takeErr s).isNone = decide (takeE s = 0) := by
  unfold takeErr takeE
  split
  · rw [wrap_none, errOf_none]
  split
  · rw [new_none]
  rw [wrap_none, new_none]
theorem okE_two {l : Its} (h : ¬ Stk.okE l = 0) : Stk.okE l = 2 := by unfold Stk.okE at h ⊢; split <;> simp_all
theorem chk_two {s : St} (h : ¬ chkP s = 0) : chkP s = 2 := by unfold chkP at h ⊢; split <;> simp_all
theorem do_0 {l : Its} {c : Cl} (h : ¬ Stk.okE l = 0) : doP l c = (l, ⟨2, []⟩) := if_neg h
theorem do_1 {l : Its} {c : Cl} (h : Stk.okE l = 0) (h1 : ¬ checkP c = 0) : doP l c = (l, ⟨checkP c, []⟩) := by unfold doP; rw [if_pos h, if_neg h1]
theorem do_2 {l : Its} {c : Cl} (h : Stk.okE l = 0) (h1 : checkP c = 0) : doP l c = kindR l c := by unfold doP; rw [if_pos h, if_pos h1]
theorem kind_6 {l : Its} {c : Cl} (h : c.kind = 6) : kindR l c = moveR l c := if_pos h
theorem kind_7 {l : Its} {c : Cl} (h : c.kind = 7) : kindR l c = queryR l c := by unfold kindR; rw [if_neg (by omega), if_pos h]
theorem kind_8 {l : Its} {c : Cl} (h : c.kind = 8) : kindR l c = orderR l c := by unfold kindR; rw [if_neg (by omega), if_neg (by omega), if_pos h]
theorem kind_o {l : Its} {c : Cl} (h : c.kind ≠ 6 ∧ c.kind ≠ 7 ∧ c.kind ≠ 8) : kindR l c = oneR l c := by unfold kindR; rw [if_neg h.1, if_neg h.2.1, if_neg h.2.2]
theorem oneR_y {l : Its} {c : Cl} {m : Its × Int} (hm : oneP l c = m) (h : m.2 = 0) : oneR l c = (m.1, ⟨0, numsP m.1 c.item⟩) := by subst hm; exact if_pos h
theorem oneR_n {l : Its} {c : Cl} {m : Its × Int} (hm : oneP l c = m) (h : ¬ m.2 = 0) : oneR l c = (l, ⟨m.2, []⟩) := by subst hm; exact if_neg h
theorem one_1 {l : Its} {c : Cl} (h : c.kind = 1) : oneP l c = Stk.createP l c.item c.qty := if_pos h
theorem one_2 {l : Its} {c : Cl} (h : c.kind = 2) : oneP l c = StockP.withP (StockP.inG c.qty) l c.item c.qty := by unfold oneP; rw [if_neg (by omega), if_pos h]
theorem one_3 {l : Its} {c : Cl} (h : c.kind = 3) : oneP l c = StockP.withP (StockP.holdG c.qty) l c.item c.qty := by unfold oneP; rw [if_neg (by omega), if_neg (by omega), if_pos h]
theorem one_4 {l : Its} {c : Cl} (h : c.kind = 4) : oneP l c = StockP.withP (StockP.freeG c.qty) l c.item c.qty := by unfold oneP; rw [if_neg (by omega), if_neg (by omega), if_neg (by omega), if_pos h]
theorem one_5 {l : Its} {c : Cl} (h : c.kind = 5) : oneP l c = StockP.withP (StockP.shipG c.qty) l c.item c.qty := by unfold oneP; rw [if_neg (by omega), if_neg (by omega), if_neg (by omega), if_neg (by omega)]
theorem one_len (l : Its) (i q : Int) : (Stk.createP l i q).1.length ≤ l.length + 1 ∧ (StockP.withP (StockP.inG q) l i q).1.length ≤ l.length ∧ (StockP.withP (StockP.holdG q) l i q).1.length ≤ l.length ∧ (StockP.withP (StockP.freeG q) l i q).1.length ≤ l.length ∧ (StockP.withP (StockP.shipG q) l i q).1.length ≤ l.length := ⟨Stk.create_len l i q, Stk.with_len _ l i q, Stk.with_len _ l i q, Stk.with_len _ l i q, Stk.with_len _ l i q⟩
theorem goesM_2 (l : Its) (id q : Int) : Stk.goesM l id q 2 = StockP.withP (StockP.freeG q) l id q := by unfold Stk.goesM; rw [if_neg (by decide), if_pos rfl]
theorem goesM_3 (l : Its) (id q : Int) : Stk.goesM l id q 3 = StockP.withP (StockP.shipG q) l id q := by unfold Stk.goesM; rw [if_neg (by decide), if_neg (by decide)]
set_option maxHeartbeats 1000000 in
theorem toldS_fn (l : Its) (id : Int) (hl : l.length ≤ 1000) : FnP Tryz.prog 106 [.sl (l.map Stk.aIt), .int .i64 id] (aRp ⟨0, numsP l id⟩) := by
  refine FnP.of Tryz.func106 rfl rfl (by simp) (by simp [AV.cells, aIn, aOut, aLn, aCl, aRp, Stk.aIt, Ssn.aSe, aSt]) (fun G hG => ?_)
  have hN : NoH G.length (aRp ⟨0, numsP l id⟩) := (by simp [AV.cells, aIn, aOut, aLn, aCl, aRp, Stk.aIt, Ssn.aSe, aSt])
  refine sr fun _ => ?_
  refine ρo (j := 0) zv31 ?_
  refine ez ?_
  refine sr fun _ => ?_
  refine mv ?_
  refine mv ?_
  refine ρj cf105 ?_ (hF := fun hg => Stk.find_fn l id (by omega))
  refine mv ?_
  refine ρ6 ?_
  refine ρ6 ?_
  refine ρo (j := 1) zv64 ?_
  refine ρ1 sz64 ?_
  refine mz ?_
  refine sr fun _ => ?_
  refine ρ4 (fo := 1) U64 sz3 ?_
  refine ρd U3 ?_
  refine ρ4 (fo := 2) U64 sz3 ?_
  refine ρd U3 ?_
  refine ρ4 (fo := 3) U64 sz3 ?_
  refine ρd U3 ?_
  refine ARun.buildSl rfl rfl rfl rfl U29 sz3 zv3 rfl (by decide) (.cons (ep rfl) (.cons (ep rfl) (.cons (ep rfl) .nil))) rfl rfl rfl rfl (by decide) rfl rfl optN ?_
  refine ρj cf27 ?_ (hF := fun hg => told_fn 0 [(tF l id).free, (tF l id).held, (tF l id).gone] (by simp))
  refine ρ1 sz31 ?_
  refine ez ?_
  refine AWP.ret ?_
  refine endF.one (.inr rfl) rfl (.cellA rfl ((hG.at _ _).trans rfl) U31 rfl sz31 rfl rfl) ?_ hN
  rfl
set_option maxHeartbeats 1000000 in
theorem numbers_fn (l : Its) (id : Int) (hl : l.length ≤ 1000) : FnP Tryz.prog 40 [.sl (l.map Stk.aIt), .int .i64 id] (.sl ((numsP l id).map (AV.int .i64))) := by
  refine FnP.of Tryz.func40 rfl rfl (by simp) (by simp [AV.cells, aIn, aOut, aLn, aCl, aRp, Stk.aIt, Ssn.aSe, aSt]) (fun G hG => ?_)
  have hN : NoH G.length (.sl ((numsP l id).map (AV.int .i64))) := (by simp [AV.cells, aIn, aOut, aLn, aCl, aRp, Stk.aIt, Ssn.aSe, aSt])
  refine sr fun _ => ?_
  refine mz ?_
  refine sr fun _ => ?_
  refine mv ?_
  refine mv ?_
  refine ρj cf37 ?_ (hF := fun hg => Stk.findR_fn l id (by omega))
  refine mv ?_
  refine ρ6 ?_
  refine ρ6 ?_
  refine ρo (j := 0) zv64 ?_
  refine ρ1 sz64 ?_
  refine mz ?_
  refine sr fun _ => ?_
  refine ρ4 (fo := 1) U64 sz3 ?_
  refine ρd U3 ?_
  refine ρ4 (fo := 2) U64 sz3 ?_
  refine ρd U3 ?_
  refine ρ4 (fo := 3) U64 sz3 ?_
  refine ρd U3 ?_
  refine ARun.buildSl rfl rfl rfl rfl U29 sz3 zv3 rfl (by decide) (.cons (ep rfl) (.cons (ep rfl) (.cons (ep rfl) .nil))) rfl rfl rfl rfl (by decide) rfl rfl optN ?_
  refine mz ?_
  refine AWP.ret ?_
  refine ρh ?_
  rfl
set_option maxHeartbeats 1000000 in
theorem toldR_fn (e : Int) (l : List Int) : FnP Tryz.prog 31 [.int .i64 e, .sl (l.map (AV.int .i64))] (aRp ⟨e, l⟩) := by
  refine FnP.of Tryz.func31 rfl rfl (by simp) (by simp [AV.cells, aIn, aOut, aLn, aCl, aRp, Stk.aIt, Ssn.aSe, aSt]) (fun G hG => ?_)
  have hN : NoH G.length (aRp ⟨e, l⟩) := (by simp [AV.cells, aIn, aOut, aLn, aCl, aRp, Stk.aIt, Ssn.aSe, aSt])
  refine sr fun _ => ?_
  refine ρo (j := 0) zv31 ?_
  refine ez ?_
  refine sr fun _ => ?_
  refine mv ?_
  refine mv ?_
  refine ARun.build rfl rfl rfl rfl so31 (.cons (ep rfl) (.cons (ep rfl) .nil)) rfl rfl optN ?_
  refine ρ1 sz31 ?_
  refine ez ?_
  refine AWP.ret ?_
  refine endF.one (.inr rfl) rfl (.cellA rfl ((hG.at _ _).trans rfl) U31 rfl sz31 rfl rfl) ?_ hN
  rfl
set_option maxHeartbeats 1000000 in
theorem one1_fn (l : Its) (c : Cl) (hl : l.length ≤ 100) (hk : c.kind = 1) : FnP Tryz.prog 71 [.sl (l.map Stk.aIt), aCl c] (.tup [.sl ((oneR l c).1.map Stk.aIt), aRp (oneR l c).2]) := by
  have hol := one_len l c.item c.qty
  refine FnP.of Tryz.func71 rfl rfl (by simp) (by simp [AV.cells, aIn, aOut, aLn, aCl, aRp, Stk.aIt, Ssn.aSe, aSt]) (fun G hG => ?_)
  have hN : NoH G.length (.tup [.sl ((oneR l c).1.map Stk.aIt), aRp (oneR l c).2]) := (by simp [AV.cells, aIn, aOut, aLn, aCl, aRp, Stk.aIt, Ssn.aSe, aSt])
  refine sr fun _ => ?_
  refine ρx ?_
  refine ma ?_
  refine ρo (j := 0) zv31 ?_
  refine ez ?_
  refine sr fun _ => ?_
  refine mz ?_
  refine sr fun _ => ?_
  refine mz ?_
  refine AWP.seq ?_
  refine sr fun _ => ?_
  refine ρ5 U25 sz3 ?_
  refine ρa U3 ?_
  refine ez ?_
  refine AWP.block ?_
  refine sr fun _ => ?_
  refine ρ2 ?_
  refine mz ?_
  refine ρp (fun h0 => ?_) (fun h0 => ?_)
  · refine AWP.region (fun _ => ?_)
    refine mv ?_
    refine ρ5 U25 sz3 ?_
    refine ρa U3 ?_
    refine ρ5 U25 sz3 ?_
    refine ρa U3 ?_
    refine ARun.call rfl rfl rfl rfl cf109 (ep rfl) (.cons (ep rfl) (.cons (ep rfl) (.cons (ep rfl) .nil))) rfl (fun hg => Stk.create_fn l c.item c.qty (by omega)) optN ?_
    refine mv ?_
    refine ρ6 ?_
    refine ρ6 ?_
    refine ma ?_
    refine ma ?_
    refine ⟨_, _, rfl, hG, ?_⟩
    refine blockA_n (thenA_n (AWP.seq ?_))
    refine sr fun _ => ?_
    refine mv ?_
    refine ρ2 ?_
    refine ez ?_
    refine ρp (fun h1 => ?_) (fun h1 => ?_)
    · simp at h1
      refine sr fun _ => ?_
      refine mv ?_
      refine mv ?_
      refine ρj cf27 ?_ (hF := fun hg => told_fn (Stk.createP l c.item c.qty).2 [] (by simp))
      refine ma ?_
      refine ρ1 sz31 ?_
      refine ez ?_
      refine AWP.ret (thenA_r ?_)
      refine ρf (rs := [.tmp 4, .cell 5 31]) (.cons (.tmp rfl) (.cons (.cellA rfl ((hG.at _ _).trans rfl) U31 rfl sz31 rfl rfl) .nil)) ?_
      rw [oneR_n (one_1 hk) h1]; rfl
    simp at h1
    refine AWP.skip (thenA_n ?_)
    refine sr fun _ => ?_
    refine mv ?_
    refine mv ?_
    refine ρ5 U25 sz3 ?_
    refine ρa U3 ?_
    refine ρj cf106 ?_ (hF := fun hg => toldS_fn (Stk.createP l c.item c.qty).1 c.item (by omega))
    refine ma ?_
    refine ρ1 sz31 ?_
    refine ez ?_
    refine AWP.ret ?_
    refine ρf (rs := [.tmp 4, .cell 5 31]) (.cons (.tmp rfl) (.cons (.cellA rfl ((hG.at _ _).trans rfl) U31 rfl sz31 rfl rfl) .nil)) ?_
    rw [oneR_y (one_1 hk) h1]; rfl
  simp [hk] at h0
set_option maxHeartbeats 1000000 in
theorem one2_fn (l : Its) (c : Cl) (hl : l.length ≤ 100) (hk : c.kind = 2) : FnP Tryz.prog 71 [.sl (l.map Stk.aIt), aCl c] (.tup [.sl ((oneR l c).1.map Stk.aIt), aRp (oneR l c).2]) := by
  have hol := one_len l c.item c.qty
  refine FnP.of Tryz.func71 rfl rfl (by simp) (by simp [AV.cells, aIn, aOut, aLn, aCl, aRp, Stk.aIt, Ssn.aSe, aSt]) (fun G hG => ?_)
  have hN : NoH G.length (.tup [.sl ((oneR l c).1.map Stk.aIt), aRp (oneR l c).2]) := (by simp [AV.cells, aIn, aOut, aLn, aCl, aRp, Stk.aIt, Ssn.aSe, aSt])
  refine sr fun _ => ?_
  refine ρx ?_
  refine ma ?_
  refine ρo (j := 0) zv31 ?_
  refine ez ?_
  refine sr fun _ => ?_
  refine mz ?_
  refine sr fun _ => ?_
  refine mz ?_
  refine AWP.seq ?_
  refine sr fun _ => ?_
  refine ρ5 U25 sz3 ?_
  refine ρa U3 ?_
  refine ez ?_
  refine AWP.block ?_
  refine sr fun _ => ?_
  refine ρ2 ?_
  refine mz ?_
  refine ρp (fun h0 => ?_) (fun h0 => ?_)
  · simp [hk] at h0
  refine sr fun _ => ?_
  refine ρ2 ?_
  refine mz ?_
  refine ρp (fun h1 => ?_) (fun h1 => ?_)
  · refine AWP.region (fun _ => ?_)
    refine mv ?_
    refine ρ5 U25 sz3 ?_
    refine ρa U3 ?_
    refine ρ5 U25 sz3 ?_
    refine ρa U3 ?_
    refine ARun.call rfl rfl rfl rfl cf110 (ep rfl) (.cons (ep rfl) (.cons (ep rfl) (.cons (ep rfl) .nil))) rfl (fun hg => Stk.restock_fn l c.item c.qty (by omega)) optN ?_
    refine mv ?_
    refine ρ6 ?_
    refine ρ6 ?_
    refine ma ?_
    refine ma ?_
    refine ⟨_, _, rfl, hG, ?_⟩
    refine blockA_n (thenA_n (AWP.seq ?_))
    refine sr fun _ => ?_
    refine mv ?_
    refine ρ2 ?_
    refine ez ?_
    refine ρp (fun h2 => ?_) (fun h2 => ?_)
    · simp at h2
      refine sr fun _ => ?_
      refine mv ?_
      refine mv ?_
      refine ρj cf27 ?_ (hF := fun hg => told_fn (StockP.withP (StockP.inG c.qty) l c.item c.qty).2 [] (by simp))
      refine ma ?_
      refine ρ1 sz31 ?_
      refine ez ?_
      refine AWP.ret (thenA_r ?_)
      refine ρf (rs := [.tmp 4, .cell 5 31]) (.cons (.tmp rfl) (.cons (.cellA rfl ((hG.at _ _).trans rfl) U31 rfl sz31 rfl rfl) .nil)) ?_
      rw [oneR_n (one_2 hk) h2]; rfl
    simp at h2
    refine AWP.skip (thenA_n ?_)
    refine sr fun _ => ?_
    refine mv ?_
    refine mv ?_
    refine ρ5 U25 sz3 ?_
    refine ρa U3 ?_
    refine ρj cf106 ?_ (hF := fun hg => toldS_fn (StockP.withP (StockP.inG c.qty) l c.item c.qty).1 c.item (by omega))
    refine ma ?_
    refine ρ1 sz31 ?_
    refine ez ?_
    refine AWP.ret ?_
    refine ρf (rs := [.tmp 4, .cell 5 31]) (.cons (.tmp rfl) (.cons (.cellA rfl ((hG.at _ _).trans rfl) U31 rfl sz31 rfl rfl) .nil)) ?_
    rw [oneR_y (one_2 hk) h2]; rfl
  simp [hk] at h1
set_option maxHeartbeats 1000000 in
theorem one3_fn (l : Its) (c : Cl) (hl : l.length ≤ 100) (hk : c.kind = 3) : FnP Tryz.prog 71 [.sl (l.map Stk.aIt), aCl c] (.tup [.sl ((oneR l c).1.map Stk.aIt), aRp (oneR l c).2]) := by
  have hol := one_len l c.item c.qty
  refine FnP.of Tryz.func71 rfl rfl (by simp) (by simp [AV.cells, aIn, aOut, aLn, aCl, aRp, Stk.aIt, Ssn.aSe, aSt]) (fun G hG => ?_)
  have hN : NoH G.length (.tup [.sl ((oneR l c).1.map Stk.aIt), aRp (oneR l c).2]) := (by simp [AV.cells, aIn, aOut, aLn, aCl, aRp, Stk.aIt, Ssn.aSe, aSt])
  refine sr fun _ => ?_
  refine ρx ?_
  refine ma ?_
  refine ρo (j := 0) zv31 ?_
  refine ez ?_
  refine sr fun _ => ?_
  refine mz ?_
  refine sr fun _ => ?_
  refine mz ?_
  refine AWP.seq ?_
  refine sr fun _ => ?_
  refine ρ5 U25 sz3 ?_
  refine ρa U3 ?_
  refine ez ?_
  refine AWP.block ?_
  refine sr fun _ => ?_
  refine ρ2 ?_
  refine mz ?_
  refine ρp (fun h0 => ?_) (fun h0 => ?_)
  · simp [hk] at h0
  refine sr fun _ => ?_
  refine ρ2 ?_
  refine mz ?_
  refine ρp (fun h1 => ?_) (fun h1 => ?_)
  · simp [hk] at h1
  refine sr fun _ => ?_
  refine ρ2 ?_
  refine mz ?_
  refine ρp (fun h2 => ?_) (fun h2 => ?_)
  · refine AWP.region (fun _ => ?_)
    refine mv ?_
    refine ρ5 U25 sz3 ?_
    refine ρa U3 ?_
    refine ρ5 U25 sz3 ?_
    refine ρa U3 ?_
    refine ARun.call rfl rfl rfl rfl cf111 (ep rfl) (.cons (ep rfl) (.cons (ep rfl) (.cons (ep rfl) .nil))) rfl (fun hg => Stk.reserve_fn l c.item c.qty (by omega)) optN ?_
    refine mv ?_
    refine ρ6 ?_
    refine ρ6 ?_
    refine ma ?_
    refine ma ?_
    refine ⟨_, _, rfl, hG, ?_⟩
    refine blockA_n (thenA_n (AWP.seq ?_))
    refine sr fun _ => ?_
    refine mv ?_
    refine ρ2 ?_
    refine ez ?_
    refine ρp (fun h3 => ?_) (fun h3 => ?_)
    · simp at h3
      refine sr fun _ => ?_
      refine mv ?_
      refine mv ?_
      refine ρj cf27 ?_ (hF := fun hg => told_fn (StockP.withP (StockP.holdG c.qty) l c.item c.qty).2 [] (by simp))
      refine ma ?_
      refine ρ1 sz31 ?_
      refine ez ?_
      refine AWP.ret (thenA_r ?_)
      refine ρf (rs := [.tmp 4, .cell 5 31]) (.cons (.tmp rfl) (.cons (.cellA rfl ((hG.at _ _).trans rfl) U31 rfl sz31 rfl rfl) .nil)) ?_
      rw [oneR_n (one_3 hk) h3]; rfl
    simp at h3
    refine AWP.skip (thenA_n ?_)
    refine sr fun _ => ?_
    refine mv ?_
    refine mv ?_
    refine ρ5 U25 sz3 ?_
    refine ρa U3 ?_
    refine ρj cf106 ?_ (hF := fun hg => toldS_fn (StockP.withP (StockP.holdG c.qty) l c.item c.qty).1 c.item (by omega))
    refine ma ?_
    refine ρ1 sz31 ?_
    refine ez ?_
    refine AWP.ret ?_
    refine ρf (rs := [.tmp 4, .cell 5 31]) (.cons (.tmp rfl) (.cons (.cellA rfl ((hG.at _ _).trans rfl) U31 rfl sz31 rfl rfl) .nil)) ?_
    rw [oneR_y (one_3 hk) h3]; rfl
  simp [hk] at h2
set_option maxHeartbeats 1000000 in
theorem one4_fn (l : Its) (c : Cl) (hl : l.length ≤ 100) (hk : c.kind = 4) : FnP Tryz.prog 71 [.sl (l.map Stk.aIt), aCl c] (.tup [.sl ((oneR l c).1.map Stk.aIt), aRp (oneR l c).2]) := by
  have hol := one_len l c.item c.qty
  refine FnP.of Tryz.func71 rfl rfl (by simp) (by simp [AV.cells, aIn, aOut, aLn, aCl, aRp, Stk.aIt, Ssn.aSe, aSt]) (fun G hG => ?_)
  have hN : NoH G.length (.tup [.sl ((oneR l c).1.map Stk.aIt), aRp (oneR l c).2]) := (by simp [AV.cells, aIn, aOut, aLn, aCl, aRp, Stk.aIt, Ssn.aSe, aSt])
  refine sr fun _ => ?_
  refine ρx ?_
  refine ma ?_
  refine ρo (j := 0) zv31 ?_
  refine ez ?_
  refine sr fun _ => ?_
  refine mz ?_
  refine sr fun _ => ?_
  refine mz ?_
  refine AWP.seq ?_
  refine sr fun _ => ?_
  refine ρ5 U25 sz3 ?_
  refine ρa U3 ?_
  refine ez ?_
  refine AWP.block ?_
  refine sr fun _ => ?_
  refine ρ2 ?_
  refine mz ?_
  refine ρp (fun h0 => ?_) (fun h0 => ?_)
  · simp [hk] at h0
  refine sr fun _ => ?_
  refine ρ2 ?_
  refine mz ?_
  refine ρp (fun h1 => ?_) (fun h1 => ?_)
  · simp [hk] at h1
  refine sr fun _ => ?_
  refine ρ2 ?_
  refine mz ?_
  refine ρp (fun h2 => ?_) (fun h2 => ?_)
  · simp [hk] at h2
  refine sr fun _ => ?_
  refine ρ2 ?_
  refine mz ?_
  refine ρp (fun h3 => ?_) (fun h3 => ?_)
  · refine AWP.region (fun _ => ?_)
    refine mv ?_
    refine ρ5 U25 sz3 ?_
    refine ρa U3 ?_
    refine ρ5 U25 sz3 ?_
    refine ρa U3 ?_
    refine ARun.call rfl rfl rfl rfl cf112 (ep rfl) (.cons (ep rfl) (.cons (ep rfl) (.cons (ep rfl) .nil))) rfl (fun hg => Stk.release_fn l c.item c.qty (by omega)) optN ?_
    refine mv ?_
    refine ρ6 ?_
    refine ρ6 ?_
    refine ma ?_
    refine ma ?_
    refine ⟨_, _, rfl, hG, ?_⟩
    refine blockA_n (thenA_n (AWP.seq ?_))
    refine sr fun _ => ?_
    refine mv ?_
    refine ρ2 ?_
    refine ez ?_
    refine ρp (fun h4 => ?_) (fun h4 => ?_)
    · simp at h4
      refine sr fun _ => ?_
      refine mv ?_
      refine mv ?_
      refine ρj cf27 ?_ (hF := fun hg => told_fn (StockP.withP (StockP.freeG c.qty) l c.item c.qty).2 [] (by simp))
      refine ma ?_
      refine ρ1 sz31 ?_
      refine ez ?_
      refine AWP.ret (thenA_r ?_)
      refine ρf (rs := [.tmp 4, .cell 5 31]) (.cons (.tmp rfl) (.cons (.cellA rfl ((hG.at _ _).trans rfl) U31 rfl sz31 rfl rfl) .nil)) ?_
      rw [oneR_n (one_4 hk) h4]; rfl
    simp at h4
    refine AWP.skip (thenA_n ?_)
    refine sr fun _ => ?_
    refine mv ?_
    refine mv ?_
    refine ρ5 U25 sz3 ?_
    refine ρa U3 ?_
    refine ρj cf106 ?_ (hF := fun hg => toldS_fn (StockP.withP (StockP.freeG c.qty) l c.item c.qty).1 c.item (by omega))
    refine ma ?_
    refine ρ1 sz31 ?_
    refine ez ?_
    refine AWP.ret ?_
    refine ρf (rs := [.tmp 4, .cell 5 31]) (.cons (.tmp rfl) (.cons (.cellA rfl ((hG.at _ _).trans rfl) U31 rfl sz31 rfl rfl) .nil)) ?_
    rw [oneR_y (one_4 hk) h4]; rfl
  simp [hk] at h3
set_option maxHeartbeats 1000000 in
theorem one5_fn (l : Its) (c : Cl) (hl : l.length ≤ 100) (hk : c.kind = 5) : FnP Tryz.prog 71 [.sl (l.map Stk.aIt), aCl c] (.tup [.sl ((oneR l c).1.map Stk.aIt), aRp (oneR l c).2]) := by
  have hol := one_len l c.item c.qty
  refine FnP.of Tryz.func71 rfl rfl (by simp) (by simp [AV.cells, aIn, aOut, aLn, aCl, aRp, Stk.aIt, Ssn.aSe, aSt]) (fun G hG => ?_)
  have hN : NoH G.length (.tup [.sl ((oneR l c).1.map Stk.aIt), aRp (oneR l c).2]) := (by simp [AV.cells, aIn, aOut, aLn, aCl, aRp, Stk.aIt, Ssn.aSe, aSt])
  refine sr fun _ => ?_
  refine ρx ?_
  refine ma ?_
  refine ρo (j := 0) zv31 ?_
  refine ez ?_
  refine sr fun _ => ?_
  refine mz ?_
  refine sr fun _ => ?_
  refine mz ?_
  refine AWP.seq ?_
  refine sr fun _ => ?_
  refine ρ5 U25 sz3 ?_
  refine ρa U3 ?_
  refine ez ?_
  refine AWP.block ?_
  refine sr fun _ => ?_
  refine ρ2 ?_
  refine mz ?_
  refine ρp (fun h0 => ?_) (fun h0 => ?_)
  · simp [hk] at h0
  refine sr fun _ => ?_
  refine ρ2 ?_
  refine mz ?_
  refine ρp (fun h1 => ?_) (fun h1 => ?_)
  · simp [hk] at h1
  refine sr fun _ => ?_
  refine ρ2 ?_
  refine mz ?_
  refine ρp (fun h2 => ?_) (fun h2 => ?_)
  · simp [hk] at h2
  refine sr fun _ => ?_
  refine ρ2 ?_
  refine mz ?_
  refine ρp (fun h3 => ?_) (fun h3 => ?_)
  · simp [hk] at h3
  refine AWP.region (fun _ => ?_)
  refine mv ?_
  refine ρ5 U25 sz3 ?_
  refine ρa U3 ?_
  refine ρ5 U25 sz3 ?_
  refine ρa U3 ?_
  refine ARun.call rfl rfl rfl rfl cf113 (ep rfl) (.cons (ep rfl) (.cons (ep rfl) (.cons (ep rfl) .nil))) rfl (fun hg => Stk.ship_fn l c.item c.qty (by omega)) optN ?_
  refine mv ?_
  refine ρ6 ?_
  refine ρ6 ?_
  refine ma ?_
  refine ma ?_
  refine ⟨_, _, rfl, hG, ?_⟩
  refine blockA_n (thenA_n (AWP.seq ?_))
  refine sr fun _ => ?_
  refine mv ?_
  refine ρ2 ?_
  refine ez ?_
  refine ρp (fun h4 => ?_) (fun h4 => ?_)
  · simp at h4
    refine sr fun _ => ?_
    refine mv ?_
    refine mv ?_
    refine ρj cf27 ?_ (hF := fun hg => told_fn (StockP.withP (StockP.shipG c.qty) l c.item c.qty).2 [] (by simp))
    refine ma ?_
    refine ρ1 sz31 ?_
    refine ez ?_
    refine AWP.ret (thenA_r ?_)
    refine ρf (rs := [.tmp 4, .cell 5 31]) (.cons (.tmp rfl) (.cons (.cellA rfl ((hG.at _ _).trans rfl) U31 rfl sz31 rfl rfl) .nil)) ?_
    rw [oneR_n (one_5 hk) h4]; rfl
  simp at h4
  refine AWP.skip (thenA_n ?_)
  refine sr fun _ => ?_
  refine mv ?_
  refine mv ?_
  refine ρ5 U25 sz3 ?_
  refine ρa U3 ?_
  refine ρj cf106 ?_ (hF := fun hg => toldS_fn (StockP.withP (StockP.shipG c.qty) l c.item c.qty).1 c.item (by omega))
  refine ma ?_
  refine ρ1 sz31 ?_
  refine ez ?_
  refine AWP.ret ?_
  refine ρf (rs := [.tmp 4, .cell 5 31]) (.cons (.tmp rfl) (.cons (.cellA rfl ((hG.at _ _).trans rfl) U31 rfl sz31 rfl rfl) .nil)) ?_
  rw [oneR_y (one_5 hk) h4]; rfl
theorem one_fn (l : Its) (c : Cl) (hl : l.length ≤ 100) (hk : 1 ≤ c.kind ∧ c.kind ≤ 5) : FnP Tryz.prog 71 [.sl (l.map Stk.aIt), aCl c] (.tup [.sl ((oneR l c).1.map Stk.aIt), aRp (oneR l c).2]) := by
  rcases (show c.kind = 1 ∨ c.kind = 2 ∨ c.kind = 3 ∨ c.kind = 4 ∨ c.kind = 5 by omega) with h | h | h | h | h
  · exact one1_fn l c hl h
  · exact one2_fn l c hl h
  · exact one3_fn l c hl h
  · exact one4_fn l c hl h
  exact one5_fn l c hl h
set_option maxHeartbeats 1000000 in
theorem moveS_fn (l : Its) (c : Cl) (hl : l.length ≤ 100) : FnP Tryz.prog 68 [.sl (l.map Stk.aIt), aCl c] (.tup [.sl ((moveR l c).1.map Stk.aIt), aRp (moveR l c).2]) := by
  have hml : (mvP l c).1.length ≤ l.length := Stk.move_len l c.item c.to_ c.qty
  refine FnP.of Tryz.func68 rfl rfl (by simp) (by simp [AV.cells, aIn, aOut, aLn, aCl, aRp, Stk.aIt, Ssn.aSe, aSt]) (fun G hG => ?_)
  have hN : NoH G.length (.tup [.sl ((moveR l c).1.map Stk.aIt), aRp (moveR l c).2]) := (by simp [AV.cells, aIn, aOut, aLn, aCl, aRp, Stk.aIt, Ssn.aSe, aSt])
  refine sr fun _ => ?_
  refine ρx ?_
  refine ma ?_
  refine ρo (j := 0) zv31 ?_
  refine ez ?_
  refine sr fun _ => ?_
  refine mv ?_
  refine ρ5 U25 sz3 ?_
  refine ρa U3 ?_
  refine ρ5 U25 sz3 ?_
  refine ρa U3 ?_
  refine ρ5 U25 sz3 ?_
  refine ρa U3 ?_
  refine ARun.call rfl rfl rfl rfl cf104 (ep rfl) (.cons (ep rfl) (.cons (ep rfl) (.cons (ep rfl) (.cons (ep rfl) .nil)))) rfl (fun hg => Stk.move_fn l c.item c.to_ c.qty (by omega)) optN ?_
  refine mv ?_
  refine ρ6 ?_
  refine ρ6 ?_
  refine ma ?_
  refine mz ?_
  refine AWP.seq ?_
  refine sr fun _ => ?_
  refine mv ?_
  refine ρ2 ?_
  refine ez ?_
  refine ρp (fun h0 => ?_) (fun h0 => ?_)
  · simp at h0
    refine sr fun _ => ?_
    refine mv ?_
    refine mv ?_
    refine ρj cf27 ?_ (hF := fun hg => told_fn (mvP l c).2 [] (by simp))
    refine ma ?_
    refine ρ1 sz31 ?_
    refine ez ?_
    refine AWP.ret (thenA_r ?_)
    refine ρf (rs := [.tmp 4, .cell 5 31]) (.cons (.tmp rfl) (.cons (.cellA rfl ((hG.at _ _).trans rfl) U31 rfl sz31 rfl rfl) .nil)) ?_
    rw [moveR, if_neg h0]; rfl
  simp at h0
  refine AWP.skip (thenA_n ?_)
  refine sr fun _ => ?_
  refine mv ?_
  refine ρ5 U25 sz3 ?_
  refine ρa U3 ?_
  refine ρj cf105 ?_ (hF := fun hg => Stk.find_fn (mvP l c).1 c.item (by omega))
  refine mv ?_
  refine ρ6 ?_
  refine ρ6 ?_
  refine ρo (j := 1) zv64 ?_
  refine ρ1 sz64 ?_
  refine mz ?_
  refine sr fun _ => ?_
  refine mv ?_
  refine ρ5 U25 sz3 ?_
  refine ρa U3 ?_
  refine ρj cf105 ?_ (hF := fun hg => Stk.find_fn (mvP l c).1 c.to_ (by omega))
  refine mv ?_
  refine ρ6 ?_
  refine ρ6 ?_
  refine ρo (j := 2) zv64 ?_
  refine ρ1 sz64 ?_
  refine mz ?_
  refine sr fun _ => ?_
  refine mv ?_
  refine ρ4 (fo := 1) U64 sz3 ?_
  refine ρd U3 ?_
  refine ρ4 (fo := 1) U64 sz3 ?_
  refine ρd U3 ?_
  refine ARun.buildSl rfl rfl rfl rfl U29 sz3 zv3 rfl (by decide) (.cons (ep rfl) (.cons (ep rfl) .nil)) rfl rfl rfl rfl (by decide) rfl rfl optN ?_
  refine ρj cf27 ?_ (hF := fun hg => told_fn 0 [(tF (mvP l c).1 c.item).free, (tF (mvP l c).1 c.to_).free] (by simp))
  refine ma ?_
  refine ρ1 sz31 ?_
  refine ez ?_
  refine AWP.ret ?_
  refine ρf (rs := [.tmp 4, .cell 5 31]) (.cons (.tmp rfl) (.cons (.cellA rfl ((hG.at _ _).trans rfl) U31 rfl sz31 rfl rfl) .nil)) ?_
  rw [moveR, if_pos h0]; rfl
set_option maxHeartbeats 1000000 in
theorem queryS_fn (l : Its) (c : Cl) (hl : l.length ≤ 100) : FnP Tryz.prog 69 [.sl (l.map Stk.aIt), aCl c] (.tup [.sl ((queryR l c).1.map Stk.aIt), aRp (queryR l c).2]) := by
  refine FnP.of Tryz.func69 rfl rfl (by simp) (by simp [AV.cells, aIn, aOut, aLn, aCl, aRp, Stk.aIt, Ssn.aSe, aSt]) (fun G hG => ?_)
  have hN : NoH G.length (.tup [.sl ((queryR l c).1.map Stk.aIt), aRp (queryR l c).2]) := (by simp [AV.cells, aIn, aOut, aLn, aCl, aRp, Stk.aIt, Ssn.aSe, aSt])
  refine sr fun _ => ?_
  refine ρx ?_
  refine ma ?_
  refine ρo (j := 0) zv31 ?_
  refine ez ?_
  refine AWP.seq ?_
  refine sr fun _ => ?_
  refine mv ?_
  refine ρ5 U25 sz3 ?_
  refine ρa U3 ?_
  refine ρj cf105 ?_ (hF := fun hg => Stk.find_fn l c.item (by omega))
  refine mv ?_
  refine ρ6 ?_
  refine ρ6 ?_
  refine ρo (j := 1) zv64 ?_
  refine ρ1 sz64 ?_
  refine mz ?_
  refine sr fun _ => ?_
  refine mv ?_
  refine ρC ?_
  refine ez ?_
  refine ρp (fun h0 => ?_) (fun h0 => ?_)
  · simp at h0
    refine sr fun _ => ?_
    refine mv ?_
    refine ρj cf27 ?_ (hF := fun hg => told_fn 40 [] (by simp))
    refine ma ?_
    refine ρ1 sz31 ?_
    refine ez ?_
    refine AWP.ret (thenA_r ?_)
    refine ρf (rs := [.tmp 4, .cell 5 31]) (.cons (.tmp rfl) (.cons (.cellA rfl ((hG.at _ _).trans rfl) U31 rfl sz31 rfl rfl) .nil)) ?_
    rw [queryR, if_neg (by simp [h0])]; rfl
  simp at h0
  refine AWP.skip (thenA_n ?_)
  refine sr fun _ => ?_
  refine mv ?_
  refine mv ?_
  refine ρ5 U25 sz3 ?_
  refine ρa U3 ?_
  refine ρj cf106 ?_ (hF := fun hg => toldS_fn l c.item (by omega))
  refine ma ?_
  refine ρ1 sz31 ?_
  refine ez ?_
  refine AWP.ret ?_
  refine ρf (rs := [.tmp 4, .cell 5 31]) (.cons (.tmp rfl) (.cons (.cellA rfl ((hG.at _ _).trans rfl) U31 rfl sz31 rfl rfl) .nil)) ?_
  rw [queryR, if_pos h0]; rfl
set_option maxHeartbeats 1000000 in
theorem orderS_fn (l : Its) (c : Cl) (hl : l.length ≤ 100) (hc : c.lines.length ≤ 1000) : FnP Tryz.prog 70 [.sl (l.map Stk.aIt), aCl c] (.tup [.sl ((orderR l c).1.map Stk.aIt), aRp (orderR l c).2]) := by
  refine FnP.of Tryz.func70 rfl rfl (by simp) (by simp [AV.cells, aIn, aOut, aLn, aCl, aRp, Stk.aIt, Ssn.aSe, aSt]) (fun G hG => ?_)
  have hN : NoH G.length (.tup [.sl ((orderR l c).1.map Stk.aIt), aRp (orderR l c).2]) := (by simp [AV.cells, aIn, aOut, aLn, aCl, aRp, Stk.aIt, Ssn.aSe, aSt])
  refine sr fun _ => ?_
  refine ρx ?_
  refine ma ?_
  refine ρo (j := 0) zv31 ?_
  refine ez ?_
  refine sr fun _ => ?_
  refine mv ?_
  refine ρ5 U25 sz23 ?_
  refine ρa U23 ?_
  refine ρj cf107 ?_ (hF := fun hg => Stk.holdB_fn l c.lines (by omega))
  refine mv ?_
  refine ρ6 ?_
  refine ρ6 ?_
  refine ρ6 ?_
  refine ma ?_
  refine ma ?_
  refine mz ?_
  refine AWP.seq ?_
  refine sr fun _ => ?_
  refine mv ?_
  refine ρ2 ?_
  refine ez ?_
  refine ρp (fun h0 => ?_) (fun h0 => ?_)
  · simp at h0
    refine sr fun _ => ?_
    refine mv ?_
    refine mv ?_
    refine mv ?_
    refine ρA U29 sz3 zv3 ?_
    refine ρj cf27 ?_ (hF := fun hg => told_fn (orP l c).2.2 [(orP l c).2.1] (by simp))
    refine ma ?_
    refine ρ1 sz31 ?_
    refine ez ?_
    refine AWP.ret (thenA_r ?_)
    refine ρf (rs := [.tmp 4, .cell 5 31]) (.cons (.tmp rfl) (.cons (.cellA rfl ((hG.at _ _).trans rfl) U31 rfl sz31 rfl rfl) .nil)) ?_
    rw [orderR, if_neg h0]; rfl
  simp at h0
  refine AWP.skip (thenA_n ?_)
  refine sr fun _ => ?_
  refine mv ?_
  refine ρ5 U25 sz23 ?_
  refine ρa U23 ?_
  refine ρm cf108 (fun hg => Stk.total_fn c.lines hc) ?_
  refine ρA U29 sz3 zv3 ?_
  refine ρj cf27 ?_ (hF := fun hg => told_fn 0 [StockP.totalP c.lines] (by simp))
  refine ma ?_
  refine ρ1 sz31 ?_
  refine ez ?_
  refine AWP.ret ?_
  refine ρf (rs := [.tmp 4, .cell 5 31]) (.cons (.tmp rfl) (.cons (.cellA rfl ((hG.at _ _).trans rfl) U31 rfl sz31 rfl rfl) .nil)) ?_
  rw [orderR, if_pos h0]; rfl
set_option maxHeartbeats 1000000 in
theorem of6_fn (l : Its) (k : Int) (hk : k = 6) : FnP Tryz.prog 29 [.sl (l.map Stk.aIt), .int .i64 k] (.fn (.func 68) [.sl (l.map Stk.aIt)] []) := by
  refine FnP.of Tryz.func29 rfl rfl (by simp) (by simp [AV.cells, Stk.aIt]) (fun G hG => ?_)
  have hN : NoH G.length (.fn (.func 68) [.sl (l.map Stk.aIt)] []) := (by simp [AV.cells, Stk.aIt])
  refine sr fun _ => ?_
  refine mz ?_
  refine AWP.seq ?_
  refine sr fun _ => ?_
  refine mv ?_
  refine ez ?_
  refine AWP.block ?_
  refine sr fun _ => ?_
  refine ρ2 ?_
  refine mz ?_
  refine ρp (fun h0 => ?_) (fun h0 => ?_)
  · refine sr fun _ => ?_
    refine mv ?_
    refine ARun.makeFunc rfl rfl rfl rfl (.cons (ep rfl) .nil) .nil optN ?_
    refine mz ?_
    refine AWP.ret (blockA_r (thenA_r ?_))
    refine ρh ?_
    rfl
  simp [hk] at h0
set_option maxHeartbeats 1000000 in
theorem of7_fn (l : Its) (k : Int) (hk : k = 7) : FnP Tryz.prog 29 [.sl (l.map Stk.aIt), .int .i64 k] (.fn (.func 69) [.sl (l.map Stk.aIt)] []) := by
  refine FnP.of Tryz.func29 rfl rfl (by simp) (by simp [AV.cells, Stk.aIt]) (fun G hG => ?_)
  have hN : NoH G.length (.fn (.func 69) [.sl (l.map Stk.aIt)] []) := (by simp [AV.cells, Stk.aIt])
  refine sr fun _ => ?_
  refine mz ?_
  refine AWP.seq ?_
  refine sr fun _ => ?_
  refine mv ?_
  refine ez ?_
  refine AWP.block ?_
  refine sr fun _ => ?_
  refine ρ2 ?_
  refine mz ?_
  refine ρp (fun h0 => ?_) (fun h0 => ?_)
  · simp [hk] at h0
  refine sr fun _ => ?_
  refine ρ2 ?_
  refine mz ?_
  refine ρp (fun h1 => ?_) (fun h1 => ?_)
  · refine sr fun _ => ?_
    refine mv ?_
    refine ARun.makeFunc rfl rfl rfl rfl (.cons (ep rfl) .nil) .nil optN ?_
    refine mz ?_
    refine AWP.ret (blockA_r (thenA_r ?_))
    refine ρh ?_
    rfl
  simp [hk] at h1
set_option maxHeartbeats 1000000 in
theorem of8_fn (l : Its) (k : Int) (hk : k = 8) : FnP Tryz.prog 29 [.sl (l.map Stk.aIt), .int .i64 k] (.fn (.func 70) [.sl (l.map Stk.aIt)] []) := by
  refine FnP.of Tryz.func29 rfl rfl (by simp) (by simp [AV.cells, Stk.aIt]) (fun G hG => ?_)
  have hN : NoH G.length (.fn (.func 70) [.sl (l.map Stk.aIt)] []) := (by simp [AV.cells, Stk.aIt])
  refine sr fun _ => ?_
  refine mz ?_
  refine AWP.seq ?_
  refine sr fun _ => ?_
  refine mv ?_
  refine ez ?_
  refine AWP.block ?_
  refine sr fun _ => ?_
  refine ρ2 ?_
  refine mz ?_
  refine ρp (fun h0 => ?_) (fun h0 => ?_)
  · simp [hk] at h0
  refine sr fun _ => ?_
  refine ρ2 ?_
  refine mz ?_
  refine ρp (fun h1 => ?_) (fun h1 => ?_)
  · simp [hk] at h1
  refine sr fun _ => ?_
  refine ρ2 ?_
  refine mz ?_
  refine ρp (fun h2 => ?_) (fun h2 => ?_)
  · refine sr fun _ => ?_
    refine mv ?_
    refine ARun.makeFunc rfl rfl rfl rfl (.cons (ep rfl) .nil) .nil optN ?_
    refine mz ?_
    refine AWP.ret (blockA_r (thenA_r ?_))
    refine ρh ?_
    rfl
  simp [hk] at h2
set_option maxHeartbeats 1000000 in
theorem of1_fn (l : Its) (k : Int) (hk : k ≠ 6 ∧ k ≠ 7 ∧ k ≠ 8) : FnP Tryz.prog 29 [.sl (l.map Stk.aIt), .int .i64 k] (.fn (.func 71) [.sl (l.map Stk.aIt)] []) := by
  refine FnP.of Tryz.func29 rfl rfl (by simp) (by simp [AV.cells, Stk.aIt]) (fun G hG => ?_)
  have hN : NoH G.length (.fn (.func 71) [.sl (l.map Stk.aIt)] []) := (by simp [AV.cells, Stk.aIt])
  refine sr fun _ => ?_
  refine mz ?_
  refine AWP.seq ?_
  refine sr fun _ => ?_
  refine mv ?_
  refine ez ?_
  refine AWP.block ?_
  refine sr fun _ => ?_
  refine ρ2 ?_
  refine mz ?_
  refine ρp (fun h0 => ?_) (fun h0 => ?_)
  · simp [hk] at h0
  refine sr fun _ => ?_
  refine ρ2 ?_
  refine mz ?_
  refine ρp (fun h1 => ?_) (fun h1 => ?_)
  · simp [hk] at h1
  refine sr fun _ => ?_
  refine ρ2 ?_
  refine mz ?_
  refine ρp (fun h2 => ?_) (fun h2 => ?_)
  · simp [hk] at h2
  refine AWP.skip (blockA_n (thenA_n ?_))
  refine sr fun _ => ?_
  refine mv ?_
  refine ARun.makeFunc rfl rfl rfl rfl (.cons (ep rfl) .nil) .nil optN ?_
  refine mz ?_
  refine AWP.ret ?_
  refine ρh ?_
  rfl
set_option maxHeartbeats 1000000 in
theorem do6_fn (l : Its) (c : Cl) (hl : l.length ≤ 100) (hc : c.lines.length ≤ 1000) (hk : c.kind = 6) : FnP Tryz.prog 9 [.sl (l.map Stk.aIt), aCl c] (.tup [.sl ((doP l c).1.map Stk.aIt), aRp (doP l c).2]) := by
  refine FnP.of Tryz.func9 rfl rfl (by simp) (by simp [AV.cells, aIn, aOut, aLn, aCl, aRp, Stk.aIt, Ssn.aSe, aSt]) (fun G hG => ?_)
  have hN : NoH G.length (.tup [.sl ((doP l c).1.map Stk.aIt), aRp (doP l c).2]) := (by simp [AV.cells, aIn, aOut, aLn, aCl, aRp, Stk.aIt, Ssn.aSe, aSt])
  refine sr fun _ => ?_
  refine ρx ?_
  refine ma ?_
  refine ρo (j := 0) zv31 ?_
  refine ez ?_
  refine AWP.seq ?_
  refine sr fun _ => ?_
  refine mv ?_
  refine ρm cf26 (fun hg => Stk.check_fn l) ?_
  refine mz ?_
  refine sr fun _ => ?_
  refine mv ?_
  refine ρ2 ?_
  refine ez ?_
  refine ρp (fun h0 => ?_) (fun h0 => ?_)
  · simp at h0
    refine sr fun _ => ?_
    refine mv ?_
    refine mv ?_
    refine ρj cf27 ?_ (hF := fun hg => told_fn (Stk.okE l) [] (by simp))
    refine ma ?_
    refine ρ1 sz31 ?_
    refine ez ?_
    refine AWP.ret (thenA_r ?_)
    refine ρf (rs := [.tmp 4, .cell 5 31]) (.cons (.tmp rfl) (.cons (.cellA rfl ((hG.at _ _).trans rfl) U31 rfl sz31 rfl rfl) .nil)) ?_
    rw [do_0 h0, okE_two h0]; rfl
  simp at h0
  refine AWP.skip (thenA_n (AWP.seq ?_))
  refine sr fun _ => ?_
  refine ρq U25 sz25 ?_
  refine ρz cf28 ?_ (hF := fun hg => check_fn c (by omega))
  refine mz ?_
  refine sr fun _ => ?_
  refine mv ?_
  refine ARun.isNil rfl rfl rfl rfl U53 (ep rfl) (fun hg => by first | rfl | exact nilA_aEr _) (.inr ⟨rfl, rfl⟩) optN ?_
  refine ez ?_
  refine ρp (fun h1 => ?_) (fun h1 => ?_)
  · simp only [new_none] at h1
    simp at h1
    refine sr fun _ => ?_
    refine mv ?_
    refine mv ?_
    refine ρm cf25 (fun hg => code_fn (Er.new tCall (checkP c))) ?_
    refine ρj cf27 ?_ (hF := fun hg => told_fn (Er.new tCall (checkP c)).code [] (by simp))
    refine ma ?_
    refine ρ1 sz31 ?_
    refine ez ?_
    refine AWP.ret (thenA_r ?_)
    refine ρf (rs := [.tmp 4, .cell 5 31]) (.cons (.tmp rfl) (.cons (.cellA rfl ((hG.at _ _).trans rfl) U31 rfl sz31 rfl rfl) .nil)) ?_
    rw [do_1 h0 h1, new_code]; rfl
  simp only [new_none] at h1
  simp at h1
  refine AWP.skip (thenA_n ?_)
  refine sr fun _ => ?_
  refine mv ?_
  refine ρ5 U25 sz3 ?_
  refine ρa U3 ?_
  refine ρg cf29 (fun hg => of6_fn l c.kind hk) ?_
  refine mz ?_
  refine sr fun _ => ?_
  refine mv ?_
  refine ρq U25 sz25 ?_
  refine ρm cf68 (fun hg => moveS_fn l c hl) ?_
  refine ρ6 ?_
  refine ρ6 ?_
  refine ma ?_
  refine ρ1 sz31 ?_
  refine ez ?_
  refine AWP.ret ?_
  refine ρf (rs := [.tmp 4, .cell 5 31]) (.cons (.tmp rfl) (.cons (.cellA rfl ((hG.at _ _).trans rfl) U31 rfl sz31 rfl rfl) .nil)) ?_
  rw [do_2 h0 h1, kind_6 hk]; rfl
set_option maxHeartbeats 1000000 in
theorem do7_fn (l : Its) (c : Cl) (hl : l.length ≤ 100) (hc : c.lines.length ≤ 1000) (hk : c.kind = 7) : FnP Tryz.prog 9 [.sl (l.map Stk.aIt), aCl c] (.tup [.sl ((doP l c).1.map Stk.aIt), aRp (doP l c).2]) := by
  refine FnP.of Tryz.func9 rfl rfl (by simp) (by simp [AV.cells, aIn, aOut, aLn, aCl, aRp, Stk.aIt, Ssn.aSe, aSt]) (fun G hG => ?_)
  have hN : NoH G.length (.tup [.sl ((doP l c).1.map Stk.aIt), aRp (doP l c).2]) := (by simp [AV.cells, aIn, aOut, aLn, aCl, aRp, Stk.aIt, Ssn.aSe, aSt])
  refine sr fun _ => ?_
  refine ρx ?_
  refine ma ?_
  refine ρo (j := 0) zv31 ?_
  refine ez ?_
  refine AWP.seq ?_
  refine sr fun _ => ?_
  refine mv ?_
  refine ρm cf26 (fun hg => Stk.check_fn l) ?_
  refine mz ?_
  refine sr fun _ => ?_
  refine mv ?_
  refine ρ2 ?_
  refine ez ?_
  refine ρp (fun h0 => ?_) (fun h0 => ?_)
  · simp at h0
    refine sr fun _ => ?_
    refine mv ?_
    refine mv ?_
    refine ρj cf27 ?_ (hF := fun hg => told_fn (Stk.okE l) [] (by simp))
    refine ma ?_
    refine ρ1 sz31 ?_
    refine ez ?_
    refine AWP.ret (thenA_r ?_)
    refine ρf (rs := [.tmp 4, .cell 5 31]) (.cons (.tmp rfl) (.cons (.cellA rfl ((hG.at _ _).trans rfl) U31 rfl sz31 rfl rfl) .nil)) ?_
    rw [do_0 h0, okE_two h0]; rfl
  simp at h0
  refine AWP.skip (thenA_n (AWP.seq ?_))
  refine sr fun _ => ?_
  refine ρq U25 sz25 ?_
  refine ρz cf28 ?_ (hF := fun hg => check_fn c (by omega))
  refine mz ?_
  refine sr fun _ => ?_
  refine mv ?_
  refine ARun.isNil rfl rfl rfl rfl U53 (ep rfl) (fun hg => by first | rfl | exact nilA_aEr _) (.inr ⟨rfl, rfl⟩) optN ?_
  refine ez ?_
  refine ρp (fun h1 => ?_) (fun h1 => ?_)
  · simp only [new_none] at h1
    simp at h1
    refine sr fun _ => ?_
    refine mv ?_
    refine mv ?_
    refine ρm cf25 (fun hg => code_fn (Er.new tCall (checkP c))) ?_
    refine ρj cf27 ?_ (hF := fun hg => told_fn (Er.new tCall (checkP c)).code [] (by simp))
    refine ma ?_
    refine ρ1 sz31 ?_
    refine ez ?_
    refine AWP.ret (thenA_r ?_)
    refine ρf (rs := [.tmp 4, .cell 5 31]) (.cons (.tmp rfl) (.cons (.cellA rfl ((hG.at _ _).trans rfl) U31 rfl sz31 rfl rfl) .nil)) ?_
    rw [do_1 h0 h1, new_code]; rfl
  simp only [new_none] at h1
  simp at h1
  refine AWP.skip (thenA_n ?_)
  refine sr fun _ => ?_
  refine mv ?_
  refine ρ5 U25 sz3 ?_
  refine ρa U3 ?_
  refine ρg cf29 (fun hg => of7_fn l c.kind hk) ?_
  refine mz ?_
  refine sr fun _ => ?_
  refine mv ?_
  refine ρq U25 sz25 ?_
  refine ρm cf69 (fun hg => queryS_fn l c hl) ?_
  refine ρ6 ?_
  refine ρ6 ?_
  refine ma ?_
  refine ρ1 sz31 ?_
  refine ez ?_
  refine AWP.ret ?_
  refine ρf (rs := [.tmp 4, .cell 5 31]) (.cons (.tmp rfl) (.cons (.cellA rfl ((hG.at _ _).trans rfl) U31 rfl sz31 rfl rfl) .nil)) ?_
  rw [do_2 h0 h1, kind_7 hk]; rfl
set_option maxHeartbeats 1000000 in
theorem do8_fn (l : Its) (c : Cl) (hl : l.length ≤ 100) (hc : c.lines.length ≤ 1000) (hk : c.kind = 8) : FnP Tryz.prog 9 [.sl (l.map Stk.aIt), aCl c] (.tup [.sl ((doP l c).1.map Stk.aIt), aRp (doP l c).2]) := by
  refine FnP.of Tryz.func9 rfl rfl (by simp) (by simp [AV.cells, aIn, aOut, aLn, aCl, aRp, Stk.aIt, Ssn.aSe, aSt]) (fun G hG => ?_)
  have hN : NoH G.length (.tup [.sl ((doP l c).1.map Stk.aIt), aRp (doP l c).2]) := (by simp [AV.cells, aIn, aOut, aLn, aCl, aRp, Stk.aIt, Ssn.aSe, aSt])
  refine sr fun _ => ?_
  refine ρx ?_
  refine ma ?_
  refine ρo (j := 0) zv31 ?_
  refine ez ?_
  refine AWP.seq ?_
  refine sr fun _ => ?_
  refine mv ?_
  refine ρm cf26 (fun hg => Stk.check_fn l) ?_
  refine mz ?_
  refine sr fun _ => ?_
  refine mv ?_
  refine ρ2 ?_
  refine ez ?_
  refine ρp (fun h0 => ?_) (fun h0 => ?_)
  · simp at h0
    refine sr fun _ => ?_
    refine mv ?_
    refine mv ?_
    refine ρj cf27 ?_ (hF := fun hg => told_fn (Stk.okE l) [] (by simp))
    refine ma ?_
    refine ρ1 sz31 ?_
    refine ez ?_
    refine AWP.ret (thenA_r ?_)
    refine ρf (rs := [.tmp 4, .cell 5 31]) (.cons (.tmp rfl) (.cons (.cellA rfl ((hG.at _ _).trans rfl) U31 rfl sz31 rfl rfl) .nil)) ?_
    rw [do_0 h0, okE_two h0]; rfl
  simp at h0
  refine AWP.skip (thenA_n (AWP.seq ?_))
  refine sr fun _ => ?_
  refine ρq U25 sz25 ?_
  refine ρz cf28 ?_ (hF := fun hg => check_fn c (by omega))
  refine mz ?_
  refine sr fun _ => ?_
  refine mv ?_
  refine ARun.isNil rfl rfl rfl rfl U53 (ep rfl) (fun hg => by first | rfl | exact nilA_aEr _) (.inr ⟨rfl, rfl⟩) optN ?_
  refine ez ?_
  refine ρp (fun h1 => ?_) (fun h1 => ?_)
  · simp only [new_none] at h1
    simp at h1
    refine sr fun _ => ?_
    refine mv ?_
    refine mv ?_
    refine ρm cf25 (fun hg => code_fn (Er.new tCall (checkP c))) ?_
    refine ρj cf27 ?_ (hF := fun hg => told_fn (Er.new tCall (checkP c)).code [] (by simp))
    refine ma ?_
    refine ρ1 sz31 ?_
    refine ez ?_
    refine AWP.ret (thenA_r ?_)
    refine ρf (rs := [.tmp 4, .cell 5 31]) (.cons (.tmp rfl) (.cons (.cellA rfl ((hG.at _ _).trans rfl) U31 rfl sz31 rfl rfl) .nil)) ?_
    rw [do_1 h0 h1, new_code]; rfl
  simp only [new_none] at h1
  simp at h1
  refine AWP.skip (thenA_n ?_)
  refine sr fun _ => ?_
  refine mv ?_
  refine ρ5 U25 sz3 ?_
  refine ρa U3 ?_
  refine ρg cf29 (fun hg => of8_fn l c.kind hk) ?_
  refine mz ?_
  refine sr fun _ => ?_
  refine mv ?_
  refine ρq U25 sz25 ?_
  refine ρm cf70 (fun hg => orderS_fn l c hl hc) ?_
  refine ρ6 ?_
  refine ρ6 ?_
  refine ma ?_
  refine ρ1 sz31 ?_
  refine ez ?_
  refine AWP.ret ?_
  refine ρf (rs := [.tmp 4, .cell 5 31]) (.cons (.tmp rfl) (.cons (.cellA rfl ((hG.at _ _).trans rfl) U31 rfl sz31 rfl rfl) .nil)) ?_
  rw [do_2 h0 h1, kind_8 hk]; rfl
set_option maxHeartbeats 1000000 in
theorem do1_fn (l : Its) (c : Cl) (hl : l.length ≤ 100) (hc : c.lines.length ≤ 1000) (hk : checkP c = 0 → c.kind ≠ 6 ∧ c.kind ≠ 7 ∧ c.kind ≠ 8 ∧ 1 ≤ c.kind ∧ c.kind ≤ 5) : FnP Tryz.prog 9 [.sl (l.map Stk.aIt), aCl c] (.tup [.sl ((doP l c).1.map Stk.aIt), aRp (doP l c).2]) := by
  refine FnP.of Tryz.func9 rfl rfl (by simp) (by simp [AV.cells, aIn, aOut, aLn, aCl, aRp, Stk.aIt, Ssn.aSe, aSt]) (fun G hG => ?_)
  have hN : NoH G.length (.tup [.sl ((doP l c).1.map Stk.aIt), aRp (doP l c).2]) := (by simp [AV.cells, aIn, aOut, aLn, aCl, aRp, Stk.aIt, Ssn.aSe, aSt])
  refine sr fun _ => ?_
  refine ρx ?_
  refine ma ?_
  refine ρo (j := 0) zv31 ?_
  refine ez ?_
  refine AWP.seq ?_
  refine sr fun _ => ?_
  refine mv ?_
  refine ρm cf26 (fun hg => Stk.check_fn l) ?_
  refine mz ?_
  refine sr fun _ => ?_
  refine mv ?_
  refine ρ2 ?_
  refine ez ?_
  refine ρp (fun h0 => ?_) (fun h0 => ?_)
  · simp at h0
    refine sr fun _ => ?_
    refine mv ?_
    refine mv ?_
    refine ρj cf27 ?_ (hF := fun hg => told_fn (Stk.okE l) [] (by simp))
    refine ma ?_
    refine ρ1 sz31 ?_
    refine ez ?_
    refine AWP.ret (thenA_r ?_)
    refine ρf (rs := [.tmp 4, .cell 5 31]) (.cons (.tmp rfl) (.cons (.cellA rfl ((hG.at _ _).trans rfl) U31 rfl sz31 rfl rfl) .nil)) ?_
    rw [do_0 h0, okE_two h0]; rfl
  simp at h0
  refine AWP.skip (thenA_n (AWP.seq ?_))
  refine sr fun _ => ?_
  refine ρq U25 sz25 ?_
  refine ρz cf28 ?_ (hF := fun hg => check_fn c (by omega))
  refine mz ?_
  refine sr fun _ => ?_
  refine mv ?_
  refine ARun.isNil rfl rfl rfl rfl U53 (ep rfl) (fun hg => by first | rfl | exact nilA_aEr _) (.inr ⟨rfl, rfl⟩) optN ?_
  refine ez ?_
  refine ρp (fun h1 => ?_) (fun h1 => ?_)
  · simp only [new_none] at h1
    simp at h1
    refine sr fun _ => ?_
    refine mv ?_
    refine mv ?_
    refine ρm cf25 (fun hg => code_fn (Er.new tCall (checkP c))) ?_
    refine ρj cf27 ?_ (hF := fun hg => told_fn (Er.new tCall (checkP c)).code [] (by simp))
    refine ma ?_
    refine ρ1 sz31 ?_
    refine ez ?_
    refine AWP.ret (thenA_r ?_)
    refine ρf (rs := [.tmp 4, .cell 5 31]) (.cons (.tmp rfl) (.cons (.cellA rfl ((hG.at _ _).trans rfl) U31 rfl sz31 rfl rfl) .nil)) ?_
    rw [do_1 h0 h1, new_code]; rfl
  simp only [new_none] at h1
  simp at h1
  refine AWP.skip (thenA_n ?_)
  refine sr fun _ => ?_
  refine mv ?_
  refine ρ5 U25 sz3 ?_
  refine ρa U3 ?_
  refine ρg cf29 (fun hg => of1_fn l c.kind ⟨(hk h1).1, (hk h1).2.1, (hk h1).2.2.1⟩) ?_
  refine mz ?_
  refine sr fun _ => ?_
  refine mv ?_
  refine ρq U25 sz25 ?_
  refine ρm cf71 (fun hg => one_fn l c hl (hk h1).2.2.2) ?_
  refine ρ6 ?_
  refine ρ6 ?_
  refine ma ?_
  refine ρ1 sz31 ?_
  refine ez ?_
  refine AWP.ret ?_
  refine ρf (rs := [.tmp 4, .cell 5 31]) (.cons (.tmp rfl) (.cons (.cellA rfl ((hG.at _ _).trans rfl) U31 rfl sz31 rfl rfl) .nil)) ?_
  rw [do_2 h0 h1, kind_o ⟨(hk h1).1, (hk h1).2.1, (hk h1).2.2.1⟩]; rfl
theorem kind_rng {c : Cl} (h : checkP c = 0) : 1 ≤ c.kind ∧ c.kind ≤ 8 := (check_ok h).2.2.1
theorem do_fn (l : Its) (c : Cl) (hl : l.length ≤ 100) (hc : c.lines.length ≤ 1000) : FnP Tryz.prog 9 [.sl (l.map Stk.aIt), aCl c] (.tup [.sl ((doP l c).1.map Stk.aIt), aRp (doP l c).2]) := by
  by_cases h6 : c.kind = 6
  · exact do6_fn l c hl hc h6
  by_cases h7 : c.kind = 7
  · exact do7_fn l c hl hc h7
  by_cases h8 : c.kind = 8
  · exact do8_fn l c hl hc h8
  exact do1_fn l c hl hc fun h => by have := kind_rng h; exact ⟨h6, h7, h8, by omega, by omega⟩
set_option maxHeartbeats 1000000 in
theorem chkS_fn (s : St) : FnP Tryz.prog 18 [aSt s] (.int .i64 (chkP s)) := by
  refine FnP.of Tryz.func18 rfl rfl (by simp) (by simp [AV.cells, aIn, aOut, aLn, aCl, aRp, Stk.aIt, Ssn.aSe, aSt]) (fun G hG => ?_)
  have hN : NoH G.length (.int .i64 (chkP s)) := (by simp [AV.cells, aIn, aOut, aLn, aCl, aRp, Stk.aIt, Ssn.aSe, aSt])
  refine sr fun _ => ?_
  refine ρx ?_
  refine mz ?_
  refine AWP.seq ?_
  refine sr fun _ => ?_
  refine ρ5 U39 sz22 ?_
  refine ρa U22 ?_
  refine ρm cf26 (fun hg => Stk.check_fn s.1) ?_
  refine ρ2 ?_
  refine mv ?_
  refine ρc U39 sz37 ?_
  refine ρ8 U37 ?_
  refine ρn cf44 (fun hg => Ssn.check_fn s.2) ?_
  refine ρ9 ?_
  refine ρ3 ?_
  refine ez ?_
  refine ρp (fun h0 => ?_) (fun h0 => ?_)
  · simp at h0
    refine sr fun _ => ?_
    refine mz ?_
    refine AWP.ret (thenA_r ?_)
    refine ρh ?_
    rw [chkP, if_neg (by rintro ⟨a, b⟩; rcases h0 with h0 | h0 <;> contradiction)]; rfl
  simp at h0
  refine AWP.skip (thenA_n ?_)
  refine sr fun _ => ?_
  refine mz ?_
  refine AWP.ret ?_
  refine ρh ?_
  rw [chkP, if_pos h0]; rfl
set_option maxHeartbeats 1000000 in
theorem chkR_fn (s : St) : FnP Tryz.prog 19 [aSt s] (.int .i64 (chkP s)) := by
  refine FnP.of Tryz.func19 rfl rfl (by simp) (by simp [AV.cells, aIn, aOut, aLn, aCl, aRp, Stk.aIt, Ssn.aSe, aSt]) (fun G hG => ?_)
  have hN : NoH G.length (.int .i64 (chkP s)) := (by simp [AV.cells, aIn, aOut, aLn, aCl, aRp, Stk.aIt, Ssn.aSe, aSt])
  refine sr fun _ => ?_
  refine ρx ?_
  refine mz ?_
  refine AWP.seq ?_
  refine sr fun _ => ?_
  refine ρ5 U39 sz22 ?_
  refine ρa U22 ?_
  refine ρm cf30 (fun hg => Stk.checkR_fn s.1) ?_
  refine ρ2 ?_
  refine mv ?_
  refine ρc U39 sz37 ?_
  refine ρ8 U37 ?_
  refine ρn cf45 (fun hg => Ssn.checkR_fn s.2) ?_
  refine ρ9 ?_
  refine ρ3 ?_
  refine ez ?_
  refine ρp (fun h0 => ?_) (fun h0 => ?_)
  · simp at h0
    refine sr fun _ => ?_
    refine mz ?_
    refine AWP.ret (thenA_r ?_)
    refine ρh ?_
    rw [chkP, if_neg (by rintro ⟨a, b⟩; rcases h0 with h0 | h0 <;> contradiction)]; rfl
  simp at h0
  refine AWP.skip (thenA_n ?_)
  refine sr fun _ => ?_
  refine mz ?_
  refine AWP.ret ?_
  refine ρh ?_
  rw [chkP, if_pos h0]; rfl
set_option maxHeartbeats 1000000 in
theorem bytes_fn (r : Rp) (hn : r.nums.length ≤ 1000) (hf : ∀ x, x ∈ r.nums → -9223372036854775808 ≤ x ∧ x ≤ 9223372036854775807) : FnP Tryz.prog 48 [aRp r] (.str (putR r)) := by
  refine FnP.of Tryz.func48 rfl rfl (by simp) (by simp [AV.cells, aIn, aOut, aLn, aCl, aRp, Stk.aIt, Ssn.aSe, aSt]) (fun G hG => ?_)
  have hN : NoH G.length (.str (putR r)) := (by simp [AV.cells, aIn, aOut, aLn, aCl, aRp, Stk.aIt, Ssn.aSe, aSt])
  refine sr fun _ => ?_
  refine ρx ?_
  refine mz ?_
  refine sr fun _ => ?_
  refine ρq U31 sz31 ?_
  refine ρz cf80 ?_ (hF := fun hg => putR_c r (by omega) hf)
  refine mv ?_
  refine ρ6 ?_
  refine ρ6 ?_
  refine ma ?_
  refine mz ?_
  refine sr fun _ => ?_
  refine mv ?_
  refine mz ?_
  refine AWP.ret ?_
  refine ρh ?_
  rfl
set_option maxHeartbeats 1000000 in
theorem bytesR_fn (r : Rp) (hn : r.nums.length ≤ 1000) (hf : ∀ x, x ∈ r.nums → -9223372036854775808 ≤ x ∧ x ≤ 9223372036854775807) : FnP Tryz.prog 52 [aRp r] (.str (putR r)) := by
  refine FnP.of Tryz.func52 rfl rfl (by simp) (by simp [AV.cells, aIn, aOut, aLn, aCl, aRp, Stk.aIt, Ssn.aSe, aSt]) (fun G hG => ?_)
  have hN : NoH G.length (.str (putR r)) := (by simp [AV.cells, aIn, aOut, aLn, aCl, aRp, Stk.aIt, Ssn.aSe, aSt])
  refine sr fun _ => ?_
  refine ρx ?_
  refine mz ?_
  refine sr fun _ => ?_
  refine ρq U31 sz31 ?_
  refine ρz cf88 ?_ (hF := fun hg => putR_R r (by omega) hf)
  refine mv ?_
  refine ρ6 ?_
  refine ρ6 ?_
  refine ma ?_
  refine mz ?_
  refine sr fun _ => ?_
  refine mv ?_
  refine mz ?_
  refine AWP.ret ?_
  refine ρh ?_
  rfl
set_option maxHeartbeats 1000000 in
theorem apply_fn (s : St) (p : ByteArray) (hp : p.size ≤ 2000) (h1s : s.1.length ≤ 60) (h2s : s.2.length ≤ 60) : FnP Tryz.prog 21 [aSt s, .str p] (.tup [aSt (applyP s p).1, .str (applyP s p).2]) := by
  have hdl := do_len s.1 (takeC p) h1s
  have htl := takeC_len p
  have hrl := putR_len (doP s.1 (takeC p)).2
  refine FnP.of Tryz.func21 rfl rfl (by simp) (by simp [AV.cells, aIn, aOut, aLn, aCl, aRp, Stk.aIt, Ssn.aSe, aSt]) (fun G hG => ?_)
  have hN : NoH G.length (.tup [aSt (applyP s p).1, .str (applyP s p).2]) := (by simp [AV.cells, aIn, aOut, aLn, aCl, aRp, Stk.aIt, Ssn.aSe, aSt])
  refine sr fun _ => ?_
  refine ρx ?_
  refine ρo (j := 0) zv39 ?_
  refine mz ?_
  refine AWP.seq ?_
  refine sr fun _ => ?_
  refine ρq U39 sz39 ?_
  refine ρm cf18 (fun hg => chkS_fn s) ?_
  refine mz ?_
  refine sr fun _ => ?_
  refine mv ?_
  refine ρ2 ?_
  refine ez ?_
  refine ρp (fun h0 => ?_) (fun h0 => ?_)
  · simp at h0
    refine AWP.seq ?_
    refine AWP.draw mixed (by kernel_rfl) (fun _ => ?_)
    refine ρq U39 sz39 ?_
    refine mv ?_
    refine ρj cf27 ?_ (hF := fun hg => told_fn (chkP s) [] (by simp))
    refine ρz cf48 ?_ (hF := fun hg => bytes_fn ⟨chkP s, []⟩ (by simp) (by simp))
    refine ρ1 sz39 ?_
    refine ma ?_
    refine ⟨by kernel_rfl, _, _, rfl, hG, ?_⟩
    refine thenA_n (AWP.ret (thenA_r ?_))
    refine ρf (rs := [.cell 4 39, .tmp 5]) (.cons (.cellA rfl ((hG.at _ _).trans rfl) U39 rfl sz39 rfl rfl) (.cons (.tmp rfl) .nil)) ?_
    rw [applyP, if_neg h0, chk_two h0]; rfl
  simp at h0
  refine AWP.skip (thenA_n ?_)
  refine sr fun _ => ?_
  refine mv ?_
  refine ρz cf23 ?_ (hF := fun hg => take_c p (by omega))
  refine mv ?_
  refine ρ6 ?_
  refine ρ6 ?_
  refine ρo (j := 1) zv25 ?_
  refine ρ1 sz25 ?_
  refine mz ?_
  refine AWP.seq ?_
  refine sr fun _ => ?_
  refine mv ?_
  refine ARun.isNil rfl rfl rfl rfl U53 (ep rfl) (fun hg => by first | rfl | exact nilA_aEr _) (.inr ⟨rfl, rfl⟩) optN ?_
  refine ez ?_
  refine ρp (fun h1 => ?_) (fun h1 => ?_)
  · simp only [takeErr_none] at h1
    simp at h1
    refine AWP.seq ?_
    refine AWP.draw mixed (by kernel_rfl) (fun _ => ?_)
    refine ρq U39 sz39 ?_
    refine mv ?_
    refine ρm cf25 (fun hg => code_fn (takeErr p)) ?_
    refine ρj cf27 ?_ (hF := fun hg => told_fn (takeErr p).code [] (by simp))
    refine ρz cf48 ?_ (hF := fun hg => bytes_fn ⟨(takeErr p).code, []⟩ (by simp) (by simp))
    refine ρ1 sz39 ?_
    refine ma ?_
    refine ⟨by kernel_rfl, _, _, rfl, hG, ?_⟩
    refine thenA_n (AWP.ret (thenA_r ?_))
    refine ρf (rs := [.cell 4 39, .tmp 5]) (.cons (.cellA rfl ((hG.at _ _).trans rfl) U39 rfl sz39 rfl rfl) (.cons (.tmp rfl) .nil)) ?_
    rw [applyP, if_pos h0, if_neg h1, takeErr_code]; rfl
  simp only [takeErr_none] at h1
  simp at h1
  refine AWP.skip (thenA_n ?_)
  refine sr fun _ => ?_
  refine ρ5 U39 sz37 ?_
  refine ρa U37 ?_
  refine ρ4 (fo := 0) U25 sz3 ?_
  refine ρd U3 ?_
  refine ρ4 (fo := 1) U25 sz3 ?_
  refine ρd U3 ?_
  refine ARun.call rfl rfl rfl rfl cf49 (ep rfl) (.cons (ep rfl) (.cons (ep rfl) (.cons (ep rfl) .nil))) rfl (fun hg => Ssn.ask_fn s.2 (takeC p).client (takeC p).seq (by omega)) optN ?_
  refine mv ?_
  refine ρ6 ?_
  refine ρ6 ?_
  refine ρ6 ?_
  refine ma ?_
  refine ma ?_
  refine mz ?_
  refine AWP.seq (AWP.block ?_)
  refine sr fun _ => ?_
  refine mv ?_
  refine ρ2 ?_
  refine mz ?_
  refine ρp (fun h2 => ?_) (fun h2 => ?_)
  · simp at h2
    refine AWP.seq ?_
    refine AWP.draw mixed (by kernel_rfl) (fun _ => ?_)
    refine ρq U39 sz39 ?_
    refine mv ?_
    refine ρj cf27 ?_ (hF := fun hg => told_fn (asP s p).2.2 [] (by simp))
    refine ρz cf48 ?_ (hF := fun hg => bytes_fn ⟨(asP s p).2.2, []⟩ (by simp) (by simp))
    refine ρ1 sz39 ?_
    refine ma ?_
    refine ⟨by kernel_rfl, _, _, rfl, hG, ?_⟩
    refine thenA_n (AWP.ret ?_)
    refine blockA_r (thenA_r ?_)
    refine ρf (rs := [.cell 4 39, .tmp 5]) (.cons (.cellA rfl ((hG.at _ _).trans rfl) U39 rfl sz39 rfl rfl) (.cons (.tmp rfl) .nil)) ?_
    rw [applyP, if_pos h0, if_pos h1, if_neg h2]; rfl
  simp at h2
  refine sr fun _ => ?_
  refine mv ?_
  refine mz ?_
  refine ρp (fun h3 => ?_) (fun h3 => ?_)
  · refine sr fun _ => ?_
    refine ρq U39 sz39 ?_
    refine mv ?_
    refine ρ1 sz39 ?_
    refine mz ?_
    refine AWP.ret (blockA_r (thenA_r ?_))
    refine ρf (rs := [.cell 4 39, .tmp 5]) (.cons (.cellA rfl ((hG.at _ _).trans rfl) U39 rfl sz39 rfl rfl) (.cons (.tmp rfl) .nil)) ?_
    rw [applyP, if_pos h0, if_pos h1, if_pos h2, if_pos h3]; rfl
  try simp at h3
  have hnz := note_zero h1 (by omega) h2 h3
  refine AWP.skip (blockA_n (thenA_n ?_))
  refine sr fun _ => ?_
  refine ρ5 U39 sz22 ?_
  refine ρa U22 ?_
  refine ρi U25 sz25 ?_
  refine ρj cf9 ?_ (hF := fun hg => do_fn s.1 (takeC p) (by omega) (by omega))
  refine mv ?_
  refine ρ6 ?_
  refine ρ6 ?_
  refine ρo (j := 2) zv31 ?_
  refine ma ?_
  refine ρ1 sz31 ?_
  refine ez ?_
  refine sr fun _ => ?_
  refine ρi U31 sz31 ?_
  refine ρz cf48 ?_ (hF := fun hg => bytes_fn (doP s.1 (takeC p)).2 (by have := (do_fine s.1 (takeC p)).len; omega) (do_fine s.1 (takeC p)).num)
  refine mz ?_
  refine sr fun _ => ?_
  refine ρ5 U39 sz37 ?_
  refine ρa U37 ?_
  refine ρ4 (fo := 0) U25 sz3 ?_
  refine ρd U3 ?_
  refine ρ4 (fo := 1) U25 sz3 ?_
  refine ρd U3 ?_
  refine mv ?_
  refine ARun.build rfl rfl rfl rfl so60 (.cons (ep rfl) (.cons (ep rfl) (.cons (ep rfl) .nil))) rfl rfl optN ?_
  refine ρj cf50 ?_ (hF := fun hg => Ssn.note_fn s.2 (nwP s p) (by omega) (by show (putR _).size ≤ _; omega))
  refine mv ?_
  refine ρ6 ?_
  refine ρ6 ?_
  refine ma ?_
  refine mz ?_
  refine AWP.seq ?_
  refine sr fun _ => ?_
  refine mv ?_
  refine ρ2 ?_
  refine ez ?_
  refine ρp (fun h4 => ?_) (fun h4 => ?_)
  · simp [hnz] at h4
  refine AWP.skip (thenA_n ?_)
  refine sr fun _ => ?_
  refine mv ?_
  refine ρz cf51 ?_ (hF := fun hg => cloneIt_fn (doP s.1 (takeC p)).1 (by omega))
  refine mv ?_
  refine ARun.build rfl rfl rfl rfl so39 (.cons (ep rfl) (.cons (ep rfl) .nil)) rfl rfl optN ?_
  refine mv ?_
  refine ρ1 sz39 ?_
  refine mz ?_
  refine AWP.ret ?_
  refine ρf (rs := [.cell 4 39, .tmp 5]) (.cons (.cellA rfl ((hG.at _ _).trans rfl) U39 rfl sz39 rfl rfl) (.cons (.tmp rfl) .nil)) ?_
  rw [applyP, if_pos h0, if_pos h1, if_pos h2, if_neg (by simp [h3])]; rfl
set_option maxHeartbeats 1000000 in
theorem doR1_fn (l : Its) (c : Cl) (hl : l.length ≤ 100) (hc : c.lines.length ≤ 1000) (hk : c.kind = 1) : FnP Tryz.prog 10 [.sl (l.map Stk.aIt), aCl c] (.tup [.sl ((doP l c).1.map Stk.aIt), aRp (doP l c).2]) := by
  have hol := one_len l c.item c.qty
  refine FnP.of Tryz.func10 rfl rfl (by simp) (by simp [AV.cells, aIn, aOut, aLn, aCl, aRp, Stk.aIt, Ssn.aSe, aSt]) (fun G hG => ?_)
  have hN : NoH G.length (.tup [.sl ((doP l c).1.map Stk.aIt), aRp (doP l c).2]) := (by simp [AV.cells, aIn, aOut, aLn, aCl, aRp, Stk.aIt, Ssn.aSe, aSt])
  refine sr fun _ => ?_
  refine ρx ?_
  refine ma ?_
  refine ρo (j := 0) zv31 ?_
  refine ez ?_
  refine AWP.seq ?_
  refine sr fun _ => ?_
  refine mv ?_
  refine ρm cf30 (fun hg => Stk.checkR_fn l) ?_
  refine ρ2 ?_
  refine ez ?_
  refine ρp (fun h0 => ?_) (fun h0 => ?_)
  · simp at h0
    refine sr fun _ => ?_
    refine mv ?_
    refine ρg cf31 (fun hg => toldR_fn 2 []) ?_
    refine ma ?_
    refine ρ1 sz31 ?_
    refine ez ?_
    refine AWP.ret (thenA_r ?_)
    refine ρf (rs := [.tmp 4, .cell 5 31]) (.cons (.tmp rfl) (.cons (.cellA rfl ((hG.at _ _).trans rfl) U31 rfl sz31 rfl rfl) .nil)) ?_
    rw [do_0 h0]; rfl
  simp at h0
  refine AWP.skip (thenA_n ?_)
  refine sr fun _ => ?_
  refine ρq U25 sz25 ?_
  refine ρz cf32 ?_ (hF := fun hg => checkR_fn c (by omega))
  refine mz ?_
  refine AWP.seq ?_
  refine sr fun _ => ?_
  refine mv ?_
  refine ρ2 ?_
  refine ez ?_
  refine ρp (fun h1 => ?_) (fun h1 => ?_)
  · simp at h1
    refine sr fun _ => ?_
    refine mv ?_
    refine mv ?_
    refine ρg cf31 (fun hg => toldR_fn (checkP c) []) ?_
    refine ma ?_
    refine ρ1 sz31 ?_
    refine ez ?_
    refine AWP.ret (thenA_r ?_)
    refine ρf (rs := [.tmp 4, .cell 5 31]) (.cons (.tmp rfl) (.cons (.cellA rfl ((hG.at _ _).trans rfl) U31 rfl sz31 rfl rfl) .nil)) ?_
    rw [do_1 h0 h1]; rfl
  simp at h1
  refine AWP.skip (thenA_n ?_)
  refine sr fun _ => ?_
  refine mv ?_
  refine mz ?_
  refine AWP.seq ?_
  refine sr fun _ => ?_
  refine ρ5 U25 sz3 ?_
  refine ρa U3 ?_
  refine ez ?_
  refine AWP.block ?_
  refine sr fun _ => ?_
  refine ρ2 ?_
  refine mz ?_
  refine ρp (fun h2 => ?_) (fun h2 => ?_)
  · refine AWP.region (fun _ => ?_)
    refine mv ?_
    refine ρ5 U25 sz3 ?_
    refine ρa U3 ?_
    refine ρ5 U25 sz3 ?_
    refine ρa U3 ?_
    refine ARun.call rfl rfl rfl rfl cf33 (ep rfl) (.cons (ep rfl) (.cons (ep rfl) (.cons (ep rfl) .nil))) rfl (fun hg => Stk.createR_fn l c.item c.qty (by omega)) optN ?_
    refine mv ?_
    refine ρ6 ?_
    refine ρ6 ?_
    refine ma ?_
    refine ma ?_
    refine ⟨_, _, rfl, hG, ?_⟩
    refine blockA_n (thenA_n (AWP.seq ?_))
    refine sr fun _ => ?_
    refine mv ?_
    refine ρ2 ?_
    refine ez ?_
    refine ρp (fun h3 => ?_) (fun h3 => ?_)
    · simp at h3
      refine sr fun _ => ?_
      refine mv ?_
      refine mv ?_
      refine ρg cf31 (fun hg => toldR_fn (Stk.createP l c.item c.qty).2 []) ?_
      refine ma ?_
      refine ρ1 sz31 ?_
      refine ez ?_
      refine AWP.ret (thenA_r ?_)
      refine ρf (rs := [.tmp 4, .cell 5 31]) (.cons (.tmp rfl) (.cons (.cellA rfl ((hG.at _ _).trans rfl) U31 rfl sz31 rfl rfl) .nil)) ?_
      rw [do_2 h0 h1, kind_o (by omega), oneR_n (one_1 hk) h3]; rfl
    simp at h3
    refine AWP.skip (thenA_n (AWP.seq ?_))
    refine sr fun _ => ?_
    refine ρ5 U25 sz3 ?_
    refine ρa U3 ?_
    refine ρ2 ?_
    refine ez ?_
    refine ρp (fun h4 => ?_) (fun h4 => ?_)
    · simp [hk] at h4
    refine AWP.skip (thenA_n ?_)
    refine sr fun _ => ?_
    refine mv ?_
    refine mv ?_
    refine ρ5 U25 sz3 ?_
    refine ρa U3 ?_
    refine ρj cf40 ?_ (hF := fun hg => numbers_fn (Stk.createP l c.item c.qty).1 c.item (by omega))
    refine ρg cf31 (fun hg => toldR_fn 0 (numsP (Stk.createP l c.item c.qty).1 c.item)) ?_
    refine ma ?_
    refine ρ1 sz31 ?_
    refine ez ?_
    refine AWP.ret ?_
    refine ρf (rs := [.tmp 4, .cell 5 31]) (.cons (.tmp rfl) (.cons (.cellA rfl ((hG.at _ _).trans rfl) U31 rfl sz31 rfl rfl) .nil)) ?_
    rw [do_2 h0 h1, kind_o (by omega), oneR_y (one_1 hk) h3]; rfl
  simp [hk] at h2
set_option maxHeartbeats 1000000 in
theorem doR2_fn (l : Its) (c : Cl) (hl : l.length ≤ 100) (hc : c.lines.length ≤ 1000) (hk : c.kind = 2) : FnP Tryz.prog 10 [.sl (l.map Stk.aIt), aCl c] (.tup [.sl ((doP l c).1.map Stk.aIt), aRp (doP l c).2]) := by
  have hol := one_len l c.item c.qty
  refine FnP.of Tryz.func10 rfl rfl (by simp) (by simp [AV.cells, aIn, aOut, aLn, aCl, aRp, Stk.aIt, Ssn.aSe, aSt]) (fun G hG => ?_)
  have hN : NoH G.length (.tup [.sl ((doP l c).1.map Stk.aIt), aRp (doP l c).2]) := (by simp [AV.cells, aIn, aOut, aLn, aCl, aRp, Stk.aIt, Ssn.aSe, aSt])
  refine sr fun _ => ?_
  refine ρx ?_
  refine ma ?_
  refine ρo (j := 0) zv31 ?_
  refine ez ?_
  refine AWP.seq ?_
  refine sr fun _ => ?_
  refine mv ?_
  refine ρm cf30 (fun hg => Stk.checkR_fn l) ?_
  refine ρ2 ?_
  refine ez ?_
  refine ρp (fun h0 => ?_) (fun h0 => ?_)
  · simp at h0
    refine sr fun _ => ?_
    refine mv ?_
    refine ρg cf31 (fun hg => toldR_fn 2 []) ?_
    refine ma ?_
    refine ρ1 sz31 ?_
    refine ez ?_
    refine AWP.ret (thenA_r ?_)
    refine ρf (rs := [.tmp 4, .cell 5 31]) (.cons (.tmp rfl) (.cons (.cellA rfl ((hG.at _ _).trans rfl) U31 rfl sz31 rfl rfl) .nil)) ?_
    rw [do_0 h0]; rfl
  simp at h0
  refine AWP.skip (thenA_n ?_)
  refine sr fun _ => ?_
  refine ρq U25 sz25 ?_
  refine ρz cf32 ?_ (hF := fun hg => checkR_fn c (by omega))
  refine mz ?_
  refine AWP.seq ?_
  refine sr fun _ => ?_
  refine mv ?_
  refine ρ2 ?_
  refine ez ?_
  refine ρp (fun h1 => ?_) (fun h1 => ?_)
  · simp at h1
    refine sr fun _ => ?_
    refine mv ?_
    refine mv ?_
    refine ρg cf31 (fun hg => toldR_fn (checkP c) []) ?_
    refine ma ?_
    refine ρ1 sz31 ?_
    refine ez ?_
    refine AWP.ret (thenA_r ?_)
    refine ρf (rs := [.tmp 4, .cell 5 31]) (.cons (.tmp rfl) (.cons (.cellA rfl ((hG.at _ _).trans rfl) U31 rfl sz31 rfl rfl) .nil)) ?_
    rw [do_1 h0 h1]; rfl
  simp at h1
  refine AWP.skip (thenA_n ?_)
  refine sr fun _ => ?_
  refine mv ?_
  refine mz ?_
  refine AWP.seq ?_
  refine sr fun _ => ?_
  refine ρ5 U25 sz3 ?_
  refine ρa U3 ?_
  refine ez ?_
  refine AWP.block ?_
  refine sr fun _ => ?_
  refine ρ2 ?_
  refine mz ?_
  refine ρp (fun h2 => ?_) (fun h2 => ?_)
  · simp [hk] at h2
  refine sr fun _ => ?_
  refine ρ2 ?_
  refine mz ?_
  refine ρp (fun h3 => ?_) (fun h3 => ?_)
  · refine AWP.region (fun _ => ?_)
    refine mv ?_
    refine ρ5 U25 sz3 ?_
    refine ρa U3 ?_
    refine ρ5 U25 sz3 ?_
    refine ρa U3 ?_
    refine ARun.call rfl rfl rfl rfl cf34 (ep rfl) (.cons (ep rfl) (.cons (ep rfl) (.cons (ep rfl) .nil))) rfl (fun hg => Stk.restockR_fn l c.item c.qty (by omega)) optN ?_
    refine mv ?_
    refine ρ6 ?_
    refine ρ6 ?_
    refine ma ?_
    refine ma ?_
    refine ⟨_, _, rfl, hG, ?_⟩
    refine blockA_n (thenA_n (AWP.seq ?_))
    refine sr fun _ => ?_
    refine mv ?_
    refine ρ2 ?_
    refine ez ?_
    refine ρp (fun h4 => ?_) (fun h4 => ?_)
    · simp at h4
      refine sr fun _ => ?_
      refine mv ?_
      refine mv ?_
      refine ρg cf31 (fun hg => toldR_fn (StockP.withP (StockP.inG c.qty) l c.item c.qty).2 []) ?_
      refine ma ?_
      refine ρ1 sz31 ?_
      refine ez ?_
      refine AWP.ret (thenA_r ?_)
      refine ρf (rs := [.tmp 4, .cell 5 31]) (.cons (.tmp rfl) (.cons (.cellA rfl ((hG.at _ _).trans rfl) U31 rfl sz31 rfl rfl) .nil)) ?_
      rw [do_2 h0 h1, kind_o (by omega), oneR_n (one_2 hk) h4]; rfl
    simp at h4
    refine AWP.skip (thenA_n (AWP.seq ?_))
    refine sr fun _ => ?_
    refine ρ5 U25 sz3 ?_
    refine ρa U3 ?_
    refine ρ2 ?_
    refine ez ?_
    refine ρp (fun h5 => ?_) (fun h5 => ?_)
    · simp [hk] at h5
    refine AWP.skip (thenA_n ?_)
    refine sr fun _ => ?_
    refine mv ?_
    refine mv ?_
    refine ρ5 U25 sz3 ?_
    refine ρa U3 ?_
    refine ρj cf40 ?_ (hF := fun hg => numbers_fn (StockP.withP (StockP.inG c.qty) l c.item c.qty).1 c.item (by omega))
    refine ρg cf31 (fun hg => toldR_fn 0 (numsP (StockP.withP (StockP.inG c.qty) l c.item c.qty).1 c.item)) ?_
    refine ma ?_
    refine ρ1 sz31 ?_
    refine ez ?_
    refine AWP.ret ?_
    refine ρf (rs := [.tmp 4, .cell 5 31]) (.cons (.tmp rfl) (.cons (.cellA rfl ((hG.at _ _).trans rfl) U31 rfl sz31 rfl rfl) .nil)) ?_
    rw [do_2 h0 h1, kind_o (by omega), oneR_y (one_2 hk) h4]; rfl
  simp [hk] at h3
set_option maxHeartbeats 1000000 in
theorem doR3_fn (l : Its) (c : Cl) (hl : l.length ≤ 100) (hc : c.lines.length ≤ 1000) (hk : c.kind = 3) : FnP Tryz.prog 10 [.sl (l.map Stk.aIt), aCl c] (.tup [.sl ((doP l c).1.map Stk.aIt), aRp (doP l c).2]) := by
  have hol := one_len l c.item c.qty
  have hgm := Stk.goesM_1 l c.item c.qty
  have hgl : (Stk.goesM l c.item c.qty 1).1.length ≤ l.length := by rw [hgm]; exact hol.2.2.1
  refine FnP.of Tryz.func10 rfl rfl (by simp) (by simp [AV.cells, aIn, aOut, aLn, aCl, aRp, Stk.aIt, Ssn.aSe, aSt]) (fun G hG => ?_)
  have hN : NoH G.length (.tup [.sl ((doP l c).1.map Stk.aIt), aRp (doP l c).2]) := (by simp [AV.cells, aIn, aOut, aLn, aCl, aRp, Stk.aIt, Ssn.aSe, aSt])
  refine sr fun _ => ?_
  refine ρx ?_
  refine ma ?_
  refine ρo (j := 0) zv31 ?_
  refine ez ?_
  refine AWP.seq ?_
  refine sr fun _ => ?_
  refine mv ?_
  refine ρm cf30 (fun hg => Stk.checkR_fn l) ?_
  refine ρ2 ?_
  refine ez ?_
  refine ρp (fun h0 => ?_) (fun h0 => ?_)
  · simp at h0
    refine sr fun _ => ?_
    refine mv ?_
    refine ρg cf31 (fun hg => toldR_fn 2 []) ?_
    refine ma ?_
    refine ρ1 sz31 ?_
    refine ez ?_
    refine AWP.ret (thenA_r ?_)
    refine ρf (rs := [.tmp 4, .cell 5 31]) (.cons (.tmp rfl) (.cons (.cellA rfl ((hG.at _ _).trans rfl) U31 rfl sz31 rfl rfl) .nil)) ?_
    rw [do_0 h0]; rfl
  simp at h0
  refine AWP.skip (thenA_n ?_)
  refine sr fun _ => ?_
  refine ρq U25 sz25 ?_
  refine ρz cf32 ?_ (hF := fun hg => checkR_fn c (by omega))
  refine mz ?_
  refine AWP.seq ?_
  refine sr fun _ => ?_
  refine mv ?_
  refine ρ2 ?_
  refine ez ?_
  refine ρp (fun h1 => ?_) (fun h1 => ?_)
  · simp at h1
    refine sr fun _ => ?_
    refine mv ?_
    refine mv ?_
    refine ρg cf31 (fun hg => toldR_fn (checkP c) []) ?_
    refine ma ?_
    refine ρ1 sz31 ?_
    refine ez ?_
    refine AWP.ret (thenA_r ?_)
    refine ρf (rs := [.tmp 4, .cell 5 31]) (.cons (.tmp rfl) (.cons (.cellA rfl ((hG.at _ _).trans rfl) U31 rfl sz31 rfl rfl) .nil)) ?_
    rw [do_1 h0 h1]; rfl
  simp at h1
  refine AWP.skip (thenA_n ?_)
  refine sr fun _ => ?_
  refine mv ?_
  refine mz ?_
  refine AWP.seq ?_
  refine sr fun _ => ?_
  refine ρ5 U25 sz3 ?_
  refine ρa U3 ?_
  refine ez ?_
  refine AWP.block ?_
  refine sr fun _ => ?_
  refine ρ2 ?_
  refine mz ?_
  refine ρp (fun h2 => ?_) (fun h2 => ?_)
  · simp [hk] at h2
  refine sr fun _ => ?_
  refine ρ2 ?_
  refine mz ?_
  refine ρp (fun h3 => ?_) (fun h3 => ?_)
  · simp [hk] at h3
  refine AWP.seq ?_
  refine sr fun _ => ?_
  refine ρ2 ?_
  refine mz ?_
  refine ρp (fun h4 => ?_) (fun h4 => ?_)
  · refine AWP.skip (thenA_n ?_)
    refine ρp (fun h5 => ?_) (fun h5 => ?_)
    · refine AWP.region (fun _ => ?_)
      refine mv ?_
      refine ρ5 U25 sz3 ?_
      refine ρa U3 ?_
      refine ρ5 U25 sz3 ?_
      refine ρa U3 ?_
      refine ρ5 U25 sz3 ?_
      refine ρa U3 ?_
      first | refine ARun.arith rfl rfl rfl rfl (ep rfl) (ep rfl) rfl (fun hg => i64w (by (try simp at hg); first | omega | exact Nat.zero_lt_succ _)) optN ?_ | refine ρl ?_
      refine ARun.call rfl rfl rfl rfl cf35 (ep rfl) (.cons (ep rfl) (.cons (ep rfl) (.cons (ep rfl) (.cons (ep rfl) .nil)))) rfl (fun hg => (show FnP Tryz.prog 35 [.sl (l.map Stk.aIt), .int .i64 c.item, .int .i64 c.qty, .int .i64 (c.kind - 2)] _ from by rw [hk]; exact Stk.goesR_fn l c.item c.qty 1 (by omega))) optN ?_
      refine mv ?_
      refine ρ6 ?_
      refine ρ6 ?_
      refine ma ?_
      refine ma ?_
      refine ⟨_, _, rfl, hG, ?_⟩
      refine blockA_n (thenA_n (AWP.seq ?_))
      refine sr fun _ => ?_
      refine mv ?_
      refine ρ2 ?_
      refine ez ?_
      refine ρp (fun h6 => ?_) (fun h6 => ?_)
      · simp at h6
        refine sr fun _ => ?_
        refine mv ?_
        refine mv ?_
        refine ρg cf31 (fun hg => toldR_fn (Stk.goesM l c.item c.qty 1).2 []) ?_
        refine ma ?_
        refine ρ1 sz31 ?_
        refine ez ?_
        refine AWP.ret (thenA_r ?_)
        refine ρf (rs := [.tmp 4, .cell 5 31]) (.cons (.tmp rfl) (.cons (.cellA rfl ((hG.at _ _).trans rfl) U31 rfl sz31 rfl rfl) .nil)) ?_
        rw [do_2 h0 h1, kind_o (by omega), oneR_n ((one_3 hk).trans hgm.symm) h6]; rfl
      simp at h6
      refine AWP.skip (thenA_n (AWP.seq ?_))
      refine sr fun _ => ?_
      refine ρ5 U25 sz3 ?_
      refine ρa U3 ?_
      refine ρ2 ?_
      refine ez ?_
      refine ρp (fun h7 => ?_) (fun h7 => ?_)
      · simp [hk] at h7
      refine AWP.skip (thenA_n ?_)
      refine sr fun _ => ?_
      refine mv ?_
      refine mv ?_
      refine ρ5 U25 sz3 ?_
      refine ρa U3 ?_
      refine ρj cf40 ?_ (hF := fun hg => numbers_fn (Stk.goesM l c.item c.qty 1).1 c.item (by omega))
      refine ρg cf31 (fun hg => toldR_fn 0 (numsP (Stk.goesM l c.item c.qty 1).1 c.item)) ?_
      refine ma ?_
      refine ρ1 sz31 ?_
      refine ez ?_
      refine AWP.ret ?_
      refine ρf (rs := [.tmp 4, .cell 5 31]) (.cons (.tmp rfl) (.cons (.cellA rfl ((hG.at _ _).trans rfl) U31 rfl sz31 rfl rfl) .nil)) ?_
      rw [do_2 h0 h1, kind_o (by omega), oneR_y ((one_3 hk).trans hgm.symm) h6]; rfl
    simp [hk] at h5
  simp [hk] at h4
set_option maxHeartbeats 1000000 in
theorem doR4_fn (l : Its) (c : Cl) (hl : l.length ≤ 100) (hc : c.lines.length ≤ 1000) (hk : c.kind = 4) : FnP Tryz.prog 10 [.sl (l.map Stk.aIt), aCl c] (.tup [.sl ((doP l c).1.map Stk.aIt), aRp (doP l c).2]) := by
  have hol := one_len l c.item c.qty
  have hgm := goesM_2 l c.item c.qty
  have hgl : (Stk.goesM l c.item c.qty 2).1.length ≤ l.length := by rw [hgm]; exact hol.2.2.2.1
  refine FnP.of Tryz.func10 rfl rfl (by simp) (by simp [AV.cells, aIn, aOut, aLn, aCl, aRp, Stk.aIt, Ssn.aSe, aSt]) (fun G hG => ?_)
  have hN : NoH G.length (.tup [.sl ((doP l c).1.map Stk.aIt), aRp (doP l c).2]) := (by simp [AV.cells, aIn, aOut, aLn, aCl, aRp, Stk.aIt, Ssn.aSe, aSt])
  refine sr fun _ => ?_
  refine ρx ?_
  refine ma ?_
  refine ρo (j := 0) zv31 ?_
  refine ez ?_
  refine AWP.seq ?_
  refine sr fun _ => ?_
  refine mv ?_
  refine ρm cf30 (fun hg => Stk.checkR_fn l) ?_
  refine ρ2 ?_
  refine ez ?_
  refine ρp (fun h0 => ?_) (fun h0 => ?_)
  · simp at h0
    refine sr fun _ => ?_
    refine mv ?_
    refine ρg cf31 (fun hg => toldR_fn 2 []) ?_
    refine ma ?_
    refine ρ1 sz31 ?_
    refine ez ?_
    refine AWP.ret (thenA_r ?_)
    refine ρf (rs := [.tmp 4, .cell 5 31]) (.cons (.tmp rfl) (.cons (.cellA rfl ((hG.at _ _).trans rfl) U31 rfl sz31 rfl rfl) .nil)) ?_
    rw [do_0 h0]; rfl
  simp at h0
  refine AWP.skip (thenA_n ?_)
  refine sr fun _ => ?_
  refine ρq U25 sz25 ?_
  refine ρz cf32 ?_ (hF := fun hg => checkR_fn c (by omega))
  refine mz ?_
  refine AWP.seq ?_
  refine sr fun _ => ?_
  refine mv ?_
  refine ρ2 ?_
  refine ez ?_
  refine ρp (fun h1 => ?_) (fun h1 => ?_)
  · simp at h1
    refine sr fun _ => ?_
    refine mv ?_
    refine mv ?_
    refine ρg cf31 (fun hg => toldR_fn (checkP c) []) ?_
    refine ma ?_
    refine ρ1 sz31 ?_
    refine ez ?_
    refine AWP.ret (thenA_r ?_)
    refine ρf (rs := [.tmp 4, .cell 5 31]) (.cons (.tmp rfl) (.cons (.cellA rfl ((hG.at _ _).trans rfl) U31 rfl sz31 rfl rfl) .nil)) ?_
    rw [do_1 h0 h1]; rfl
  simp at h1
  refine AWP.skip (thenA_n ?_)
  refine sr fun _ => ?_
  refine mv ?_
  refine mz ?_
  refine AWP.seq ?_
  refine sr fun _ => ?_
  refine ρ5 U25 sz3 ?_
  refine ρa U3 ?_
  refine ez ?_
  refine AWP.block ?_
  refine sr fun _ => ?_
  refine ρ2 ?_
  refine mz ?_
  refine ρp (fun h2 => ?_) (fun h2 => ?_)
  · simp [hk] at h2
  refine sr fun _ => ?_
  refine ρ2 ?_
  refine mz ?_
  refine ρp (fun h3 => ?_) (fun h3 => ?_)
  · simp [hk] at h3
  refine AWP.seq ?_
  refine sr fun _ => ?_
  refine ρ2 ?_
  refine mz ?_
  refine ρp (fun h4 => ?_) (fun h4 => ?_)
  · simp [hk] at h4
  refine sr fun _ => ?_
  refine ρ2 ?_
  refine mz ?_
  refine ρp (fun h5 => ?_) (fun h5 => ?_)
  · refine AWP.skip (thenA_n ?_)
    refine ρp (fun h6 => ?_) (fun h6 => ?_)
    · refine AWP.region (fun _ => ?_)
      refine mv ?_
      refine ρ5 U25 sz3 ?_
      refine ρa U3 ?_
      refine ρ5 U25 sz3 ?_
      refine ρa U3 ?_
      refine ρ5 U25 sz3 ?_
      refine ρa U3 ?_
      first | refine ARun.arith rfl rfl rfl rfl (ep rfl) (ep rfl) rfl (fun hg => i64w (by (try simp at hg); first | omega | exact Nat.zero_lt_succ _)) optN ?_ | refine ρl ?_
      refine ARun.call rfl rfl rfl rfl cf35 (ep rfl) (.cons (ep rfl) (.cons (ep rfl) (.cons (ep rfl) (.cons (ep rfl) .nil)))) rfl (fun hg => (show FnP Tryz.prog 35 [.sl (l.map Stk.aIt), .int .i64 c.item, .int .i64 c.qty, .int .i64 (c.kind - 2)] _ from by rw [hk]; exact Stk.goesR_fn l c.item c.qty 2 (by omega))) optN ?_
      refine mv ?_
      refine ρ6 ?_
      refine ρ6 ?_
      refine ma ?_
      refine ma ?_
      refine ⟨_, _, rfl, hG, ?_⟩
      refine blockA_n (thenA_n (AWP.seq ?_))
      refine sr fun _ => ?_
      refine mv ?_
      refine ρ2 ?_
      refine ez ?_
      refine ρp (fun h7 => ?_) (fun h7 => ?_)
      · simp at h7
        refine sr fun _ => ?_
        refine mv ?_
        refine mv ?_
        refine ρg cf31 (fun hg => toldR_fn (Stk.goesM l c.item c.qty 2).2 []) ?_
        refine ma ?_
        refine ρ1 sz31 ?_
        refine ez ?_
        refine AWP.ret (thenA_r ?_)
        refine ρf (rs := [.tmp 4, .cell 5 31]) (.cons (.tmp rfl) (.cons (.cellA rfl ((hG.at _ _).trans rfl) U31 rfl sz31 rfl rfl) .nil)) ?_
        rw [do_2 h0 h1, kind_o (by omega), oneR_n ((one_4 hk).trans hgm.symm) h7]; rfl
      simp at h7
      refine AWP.skip (thenA_n (AWP.seq ?_))
      refine sr fun _ => ?_
      refine ρ5 U25 sz3 ?_
      refine ρa U3 ?_
      refine ρ2 ?_
      refine ez ?_
      refine ρp (fun h8 => ?_) (fun h8 => ?_)
      · simp [hk] at h8
      refine AWP.skip (thenA_n ?_)
      refine sr fun _ => ?_
      refine mv ?_
      refine mv ?_
      refine ρ5 U25 sz3 ?_
      refine ρa U3 ?_
      refine ρj cf40 ?_ (hF := fun hg => numbers_fn (Stk.goesM l c.item c.qty 2).1 c.item (by omega))
      refine ρg cf31 (fun hg => toldR_fn 0 (numsP (Stk.goesM l c.item c.qty 2).1 c.item)) ?_
      refine ma ?_
      refine ρ1 sz31 ?_
      refine ez ?_
      refine AWP.ret ?_
      refine ρf (rs := [.tmp 4, .cell 5 31]) (.cons (.tmp rfl) (.cons (.cellA rfl ((hG.at _ _).trans rfl) U31 rfl sz31 rfl rfl) .nil)) ?_
      rw [do_2 h0 h1, kind_o (by omega), oneR_y ((one_4 hk).trans hgm.symm) h7]; rfl
    simp [hk] at h6
  simp [hk] at h5
set_option maxHeartbeats 1000000 in
theorem doR5_fn (l : Its) (c : Cl) (hl : l.length ≤ 100) (hc : c.lines.length ≤ 1000) (hk : c.kind = 5) : FnP Tryz.prog 10 [.sl (l.map Stk.aIt), aCl c] (.tup [.sl ((doP l c).1.map Stk.aIt), aRp (doP l c).2]) := by
  have hol := one_len l c.item c.qty
  have hgm := goesM_3 l c.item c.qty
  have hgl : (Stk.goesM l c.item c.qty 3).1.length ≤ l.length := by rw [hgm]; exact hol.2.2.2.2
  refine FnP.of Tryz.func10 rfl rfl (by simp) (by simp [AV.cells, aIn, aOut, aLn, aCl, aRp, Stk.aIt, Ssn.aSe, aSt]) (fun G hG => ?_)
  have hN : NoH G.length (.tup [.sl ((doP l c).1.map Stk.aIt), aRp (doP l c).2]) := (by simp [AV.cells, aIn, aOut, aLn, aCl, aRp, Stk.aIt, Ssn.aSe, aSt])
  refine sr fun _ => ?_
  refine ρx ?_
  refine ma ?_
  refine ρo (j := 0) zv31 ?_
  refine ez ?_
  refine AWP.seq ?_
  refine sr fun _ => ?_
  refine mv ?_
  refine ρm cf30 (fun hg => Stk.checkR_fn l) ?_
  refine ρ2 ?_
  refine ez ?_
  refine ρp (fun h0 => ?_) (fun h0 => ?_)
  · simp at h0
    refine sr fun _ => ?_
    refine mv ?_
    refine ρg cf31 (fun hg => toldR_fn 2 []) ?_
    refine ma ?_
    refine ρ1 sz31 ?_
    refine ez ?_
    refine AWP.ret (thenA_r ?_)
    refine ρf (rs := [.tmp 4, .cell 5 31]) (.cons (.tmp rfl) (.cons (.cellA rfl ((hG.at _ _).trans rfl) U31 rfl sz31 rfl rfl) .nil)) ?_
    rw [do_0 h0]; rfl
  simp at h0
  refine AWP.skip (thenA_n ?_)
  refine sr fun _ => ?_
  refine ρq U25 sz25 ?_
  refine ρz cf32 ?_ (hF := fun hg => checkR_fn c (by omega))
  refine mz ?_
  refine AWP.seq ?_
  refine sr fun _ => ?_
  refine mv ?_
  refine ρ2 ?_
  refine ez ?_
  refine ρp (fun h1 => ?_) (fun h1 => ?_)
  · simp at h1
    refine sr fun _ => ?_
    refine mv ?_
    refine mv ?_
    refine ρg cf31 (fun hg => toldR_fn (checkP c) []) ?_
    refine ma ?_
    refine ρ1 sz31 ?_
    refine ez ?_
    refine AWP.ret (thenA_r ?_)
    refine ρf (rs := [.tmp 4, .cell 5 31]) (.cons (.tmp rfl) (.cons (.cellA rfl ((hG.at _ _).trans rfl) U31 rfl sz31 rfl rfl) .nil)) ?_
    rw [do_1 h0 h1]; rfl
  simp at h1
  refine AWP.skip (thenA_n ?_)
  refine sr fun _ => ?_
  refine mv ?_
  refine mz ?_
  refine AWP.seq ?_
  refine sr fun _ => ?_
  refine ρ5 U25 sz3 ?_
  refine ρa U3 ?_
  refine ez ?_
  refine AWP.block ?_
  refine sr fun _ => ?_
  refine ρ2 ?_
  refine mz ?_
  refine ρp (fun h2 => ?_) (fun h2 => ?_)
  · simp [hk] at h2
  refine sr fun _ => ?_
  refine ρ2 ?_
  refine mz ?_
  refine ρp (fun h3 => ?_) (fun h3 => ?_)
  · simp [hk] at h3
  refine AWP.seq ?_
  refine sr fun _ => ?_
  refine ρ2 ?_
  refine mz ?_
  refine ρp (fun h4 => ?_) (fun h4 => ?_)
  · simp [hk] at h4
  refine sr fun _ => ?_
  refine ρ2 ?_
  refine mz ?_
  refine ρp (fun h5 => ?_) (fun h5 => ?_)
  · simp [hk] at h5
  refine AWP.region (fun _ => ?_)
  refine ρ2 ?_
  refine mz ?_
  refine ρp (fun h6 => ?_) (fun h6 => ?_)
  · refine AWP.region (fun _ => ?_)
    refine mv ?_
    refine ρ5 U25 sz3 ?_
    refine ρa U3 ?_
    refine ρ5 U25 sz3 ?_
    refine ρa U3 ?_
    refine ρ5 U25 sz3 ?_
    refine ρa U3 ?_
    first | refine ARun.arith rfl rfl rfl rfl (ep rfl) (ep rfl) rfl (fun hg => i64w (by (try simp at hg); first | omega | exact Nat.zero_lt_succ _)) optN ?_ | refine ρl ?_
    refine ARun.call rfl rfl rfl rfl cf35 (ep rfl) (.cons (ep rfl) (.cons (ep rfl) (.cons (ep rfl) (.cons (ep rfl) .nil)))) rfl (fun hg => (show FnP Tryz.prog 35 [.sl (l.map Stk.aIt), .int .i64 c.item, .int .i64 c.qty, .int .i64 (c.kind - 2)] _ from by rw [hk]; exact Stk.goesR_fn l c.item c.qty 3 (by omega))) optN ?_
    refine mv ?_
    refine ρ6 ?_
    refine ρ6 ?_
    refine ma ?_
    refine ma ?_
    refine ⟨_, _, rfl, hG, ?_⟩
    refine blockA_n (thenA_n (AWP.seq ?_))
    refine sr fun _ => ?_
    refine mv ?_
    refine ρ2 ?_
    refine ez ?_
    refine ρp (fun h7 => ?_) (fun h7 => ?_)
    · simp at h7
      refine sr fun _ => ?_
      refine mv ?_
      refine mv ?_
      refine ρg cf31 (fun hg => toldR_fn (Stk.goesM l c.item c.qty 3).2 []) ?_
      refine ma ?_
      refine ρ1 sz31 ?_
      refine ez ?_
      refine AWP.ret (thenA_r ?_)
      refine ρf (rs := [.tmp 4, .cell 5 31]) (.cons (.tmp rfl) (.cons (.cellA rfl ((hG.at _ _).trans rfl) U31 rfl sz31 rfl rfl) .nil)) ?_
      rw [do_2 h0 h1, kind_o (by omega), oneR_n ((one_5 hk).trans hgm.symm) h7]; rfl
    simp at h7
    refine AWP.skip (thenA_n (AWP.seq ?_))
    refine sr fun _ => ?_
    refine ρ5 U25 sz3 ?_
    refine ρa U3 ?_
    refine ρ2 ?_
    refine ez ?_
    refine ρp (fun h8 => ?_) (fun h8 => ?_)
    · simp [hk] at h8
    refine AWP.skip (thenA_n ?_)
    refine sr fun _ => ?_
    refine mv ?_
    refine mv ?_
    refine ρ5 U25 sz3 ?_
    refine ρa U3 ?_
    refine ρj cf40 ?_ (hF := fun hg => numbers_fn (Stk.goesM l c.item c.qty 3).1 c.item (by omega))
    refine ρg cf31 (fun hg => toldR_fn 0 (numsP (Stk.goesM l c.item c.qty 3).1 c.item)) ?_
    refine ma ?_
    refine ρ1 sz31 ?_
    refine ez ?_
    refine AWP.ret ?_
    refine ρf (rs := [.tmp 4, .cell 5 31]) (.cons (.tmp rfl) (.cons (.cellA rfl ((hG.at _ _).trans rfl) U31 rfl sz31 rfl rfl) .nil)) ?_
    rw [do_2 h0 h1, kind_o (by omega), oneR_y ((one_5 hk).trans hgm.symm) h7]; rfl
  simp [hk] at h6
set_option maxHeartbeats 1000000 in
theorem doR6_fn (l : Its) (c : Cl) (hl : l.length ≤ 100) (hc : c.lines.length ≤ 1000) (hk : c.kind = 6) : FnP Tryz.prog 10 [.sl (l.map Stk.aIt), aCl c] (.tup [.sl ((doP l c).1.map Stk.aIt), aRp (doP l c).2]) := by
  have hml : (mvP l c).1.length ≤ l.length := Stk.move_len l c.item c.to_ c.qty
  refine FnP.of Tryz.func10 rfl rfl (by simp) (by simp [AV.cells, aIn, aOut, aLn, aCl, aRp, Stk.aIt, Ssn.aSe, aSt]) (fun G hG => ?_)
  have hN : NoH G.length (.tup [.sl ((doP l c).1.map Stk.aIt), aRp (doP l c).2]) := (by simp [AV.cells, aIn, aOut, aLn, aCl, aRp, Stk.aIt, Ssn.aSe, aSt])
  refine sr fun _ => ?_
  refine ρx ?_
  refine ma ?_
  refine ρo (j := 0) zv31 ?_
  refine ez ?_
  refine AWP.seq ?_
  refine sr fun _ => ?_
  refine mv ?_
  refine ρm cf30 (fun hg => Stk.checkR_fn l) ?_
  refine ρ2 ?_
  refine ez ?_
  refine ρp (fun h0 => ?_) (fun h0 => ?_)
  · simp at h0
    refine sr fun _ => ?_
    refine mv ?_
    refine ρg cf31 (fun hg => toldR_fn 2 []) ?_
    refine ma ?_
    refine ρ1 sz31 ?_
    refine ez ?_
    refine AWP.ret (thenA_r ?_)
    refine ρf (rs := [.tmp 4, .cell 5 31]) (.cons (.tmp rfl) (.cons (.cellA rfl ((hG.at _ _).trans rfl) U31 rfl sz31 rfl rfl) .nil)) ?_
    rw [do_0 h0]; rfl
  simp at h0
  refine AWP.skip (thenA_n ?_)
  refine sr fun _ => ?_
  refine ρq U25 sz25 ?_
  refine ρz cf32 ?_ (hF := fun hg => checkR_fn c (by omega))
  refine mz ?_
  refine AWP.seq ?_
  refine sr fun _ => ?_
  refine mv ?_
  refine ρ2 ?_
  refine ez ?_
  refine ρp (fun h1 => ?_) (fun h1 => ?_)
  · simp at h1
    refine sr fun _ => ?_
    refine mv ?_
    refine mv ?_
    refine ρg cf31 (fun hg => toldR_fn (checkP c) []) ?_
    refine ma ?_
    refine ρ1 sz31 ?_
    refine ez ?_
    refine AWP.ret (thenA_r ?_)
    refine ρf (rs := [.tmp 4, .cell 5 31]) (.cons (.tmp rfl) (.cons (.cellA rfl ((hG.at _ _).trans rfl) U31 rfl sz31 rfl rfl) .nil)) ?_
    rw [do_1 h0 h1]; rfl
  simp at h1
  refine AWP.skip (thenA_n ?_)
  refine sr fun _ => ?_
  refine mv ?_
  refine mz ?_
  refine AWP.seq ?_
  refine sr fun _ => ?_
  refine ρ5 U25 sz3 ?_
  refine ρa U3 ?_
  refine ez ?_
  refine AWP.block ?_
  refine sr fun _ => ?_
  refine ρ2 ?_
  refine mz ?_
  refine ρp (fun h2 => ?_) (fun h2 => ?_)
  · simp [hk] at h2
  refine sr fun _ => ?_
  refine ρ2 ?_
  refine mz ?_
  refine ρp (fun h3 => ?_) (fun h3 => ?_)
  · simp [hk] at h3
  refine AWP.seq ?_
  refine sr fun _ => ?_
  refine ρ2 ?_
  refine mz ?_
  refine ρp (fun h4 => ?_) (fun h4 => ?_)
  · simp [hk] at h4
  refine sr fun _ => ?_
  refine ρ2 ?_
  refine mz ?_
  refine ρp (fun h5 => ?_) (fun h5 => ?_)
  · simp [hk] at h5
  refine AWP.region (fun _ => ?_)
  refine ρ2 ?_
  refine mz ?_
  refine ρp (fun h6 => ?_) (fun h6 => ?_)
  · simp [hk] at h6
  refine sr fun _ => ?_
  refine ρ2 ?_
  refine mz ?_
  refine ρp (fun h7 => ?_) (fun h7 => ?_)
  · refine AWP.region (fun _ => ?_)
    refine mv ?_
    refine ρ5 U25 sz3 ?_
    refine ρa U3 ?_
    refine ρ5 U25 sz3 ?_
    refine ρa U3 ?_
    refine ρ5 U25 sz3 ?_
    refine ρa U3 ?_
    refine ARun.call rfl rfl rfl rfl cf36 (ep rfl) (.cons (ep rfl) (.cons (ep rfl) (.cons (ep rfl) (.cons (ep rfl) .nil)))) rfl (fun hg => Stk.moveR_fn l c.item c.to_ c.qty (by omega)) optN ?_
    refine mv ?_
    refine ρ6 ?_
    refine ρ6 ?_
    refine ma ?_
    refine ma ?_
    refine ⟨_, _, rfl, hG, ?_⟩
    refine blockA_n (thenA_n (AWP.seq ?_))
    refine sr fun _ => ?_
    refine mv ?_
    refine ρ2 ?_
    refine ez ?_
    refine ρp (fun h8 => ?_) (fun h8 => ?_)
    · simp at h8
      refine sr fun _ => ?_
      refine mv ?_
      refine mv ?_
      refine ρg cf31 (fun hg => toldR_fn (mvP l c).2 []) ?_
      refine ma ?_
      refine ρ1 sz31 ?_
      refine ez ?_
      refine AWP.ret (thenA_r ?_)
      refine ρf (rs := [.tmp 4, .cell 5 31]) (.cons (.tmp rfl) (.cons (.cellA rfl ((hG.at _ _).trans rfl) U31 rfl sz31 rfl rfl) .nil)) ?_
      rw [do_2 h0 h1, kind_6 hk, moveR, if_neg h8]; rfl
    simp at h8
    refine AWP.skip (thenA_n (AWP.seq ?_))
    refine sr fun _ => ?_
    refine ρ5 U25 sz3 ?_
    refine ρa U3 ?_
    refine ρ2 ?_
    refine ez ?_
    refine ρp (fun h9 => ?_) (fun h9 => ?_)
    · refine AWP.seq ?_
      refine AWP.draw mixed (by kernel_rfl) (fun _ => ?_)
      refine mv ?_
      refine mv ?_
      refine ρ5 U25 sz3 ?_
      refine ρa U3 ?_
      refine ρj cf40 ?_ (hF := fun hg => numbers_fn (mvP l c).1 c.item (by omega))
      first | refine ARun.indexSl rfl rfl rfl rfl U29 sz3 (ep rfl) (ep rfl) (fun _ => rfl) (fun hg => getMap _ _ _ (by (try simp at hg); first | omega | exact Nat.zero_lt_succ _)) rfl rfl optN ?_ | refine ARun.indexSl rfl rfl rfl rfl U29 sz3 (ep rfl) (ep rfl) (fun hg => ofNonneg (by (try simp at hg); first | omega | exact Nat.zero_lt_succ _)) (fun hg => getMap _ _ _ (by (try simp at hg); first | omega | exact Nat.zero_lt_succ _)) rfl rfl optN ?_
      refine ρa U3 ?_
      refine mv ?_
      refine ρ5 U25 sz3 ?_
      refine ρa U3 ?_
      refine ρj cf40 ?_ (hF := fun hg => numbers_fn (mvP l c).1 c.to_ (by omega))
      first | refine ARun.indexSl rfl rfl rfl rfl U29 sz3 (ep rfl) (ep rfl) (fun _ => rfl) (fun hg => getMap _ _ _ (by (try simp at hg); first | omega | exact Nat.zero_lt_succ _)) rfl rfl optN ?_ | refine ARun.indexSl rfl rfl rfl rfl U29 sz3 (ep rfl) (ep rfl) (fun hg => ofNonneg (by (try simp at hg); first | omega | exact Nat.zero_lt_succ _)) (fun hg => getMap _ _ _ (by (try simp at hg); first | omega | exact Nat.zero_lt_succ _)) rfl rfl optN ?_
      refine ρa U3 ?_
      refine ARun.buildSl rfl rfl rfl rfl U29 sz3 zv3 rfl (by decide) (.cons (ep rfl) (.cons (ep rfl) .nil)) rfl rfl rfl rfl (by decide) rfl rfl optN ?_
      refine ρg cf31 (fun hg => toldR_fn 0 [(tF (mvP l c).1 c.item).free, (tF (mvP l c).1 c.to_).free]) ?_
      refine ma ?_
      refine ρ1 sz31 ?_
      refine ⟨by kernel_rfl, _, _, rfl, hG, ?_⟩
      refine thenA_n (AWP.ret (thenA_r ?_))
      refine ρf (rs := [.tmp 4, .cell 5 31]) (.cons (.tmp rfl) (.cons (.cellA rfl ((hG.at _ _).trans rfl) U31 rfl sz31 rfl rfl) .nil)) ?_
      rw [do_2 h0 h1, kind_6 hk, moveR, if_pos h8]; rfl
    simp [hk] at h9
  simp [hk] at h7
set_option maxHeartbeats 1000000 in
theorem doR7_fn (l : Its) (c : Cl) (hl : l.length ≤ 100) (hc : c.lines.length ≤ 1000) (hk : c.kind = 7) : FnP Tryz.prog 10 [.sl (l.map Stk.aIt), aCl c] (.tup [.sl ((doP l c).1.map Stk.aIt), aRp (doP l c).2]) := by
  refine FnP.of Tryz.func10 rfl rfl (by simp) (by simp [AV.cells, aIn, aOut, aLn, aCl, aRp, Stk.aIt, Ssn.aSe, aSt]) (fun G hG => ?_)
  have hN : NoH G.length (.tup [.sl ((doP l c).1.map Stk.aIt), aRp (doP l c).2]) := (by simp [AV.cells, aIn, aOut, aLn, aCl, aRp, Stk.aIt, Ssn.aSe, aSt])
  refine sr fun _ => ?_
  refine ρx ?_
  refine ma ?_
  refine ρo (j := 0) zv31 ?_
  refine ez ?_
  refine AWP.seq ?_
  refine sr fun _ => ?_
  refine mv ?_
  refine ρm cf30 (fun hg => Stk.checkR_fn l) ?_
  refine ρ2 ?_
  refine ez ?_
  refine ρp (fun h0 => ?_) (fun h0 => ?_)
  · simp at h0
    refine sr fun _ => ?_
    refine mv ?_
    refine ρg cf31 (fun hg => toldR_fn 2 []) ?_
    refine ma ?_
    refine ρ1 sz31 ?_
    refine ez ?_
    refine AWP.ret (thenA_r ?_)
    refine ρf (rs := [.tmp 4, .cell 5 31]) (.cons (.tmp rfl) (.cons (.cellA rfl ((hG.at _ _).trans rfl) U31 rfl sz31 rfl rfl) .nil)) ?_
    rw [do_0 h0]; rfl
  simp at h0
  refine AWP.skip (thenA_n ?_)
  refine sr fun _ => ?_
  refine ρq U25 sz25 ?_
  refine ρz cf32 ?_ (hF := fun hg => checkR_fn c (by omega))
  refine mz ?_
  refine AWP.seq ?_
  refine sr fun _ => ?_
  refine mv ?_
  refine ρ2 ?_
  refine ez ?_
  refine ρp (fun h1 => ?_) (fun h1 => ?_)
  · simp at h1
    refine sr fun _ => ?_
    refine mv ?_
    refine mv ?_
    refine ρg cf31 (fun hg => toldR_fn (checkP c) []) ?_
    refine ma ?_
    refine ρ1 sz31 ?_
    refine ez ?_
    refine AWP.ret (thenA_r ?_)
    refine ρf (rs := [.tmp 4, .cell 5 31]) (.cons (.tmp rfl) (.cons (.cellA rfl ((hG.at _ _).trans rfl) U31 rfl sz31 rfl rfl) .nil)) ?_
    rw [do_1 h0 h1]; rfl
  simp at h1
  refine AWP.skip (thenA_n ?_)
  refine sr fun _ => ?_
  refine mv ?_
  refine mz ?_
  refine AWP.seq ?_
  refine sr fun _ => ?_
  refine ρ5 U25 sz3 ?_
  refine ρa U3 ?_
  refine ez ?_
  refine AWP.block ?_
  refine sr fun _ => ?_
  refine ρ2 ?_
  refine mz ?_
  refine ρp (fun h2 => ?_) (fun h2 => ?_)
  · simp [hk] at h2
  refine sr fun _ => ?_
  refine ρ2 ?_
  refine mz ?_
  refine ρp (fun h3 => ?_) (fun h3 => ?_)
  · simp [hk] at h3
  refine AWP.seq ?_
  refine sr fun _ => ?_
  refine ρ2 ?_
  refine mz ?_
  refine ρp (fun h4 => ?_) (fun h4 => ?_)
  · simp [hk] at h4
  refine sr fun _ => ?_
  refine ρ2 ?_
  refine mz ?_
  refine ρp (fun h5 => ?_) (fun h5 => ?_)
  · simp [hk] at h5
  refine AWP.region (fun _ => ?_)
  refine ρ2 ?_
  refine mz ?_
  refine ρp (fun h6 => ?_) (fun h6 => ?_)
  · simp [hk] at h6
  refine sr fun _ => ?_
  refine ρ2 ?_
  refine mz ?_
  refine ρp (fun h7 => ?_) (fun h7 => ?_)
  · simp [hk] at h7
  refine sr fun _ => ?_
  refine ρ2 ?_
  refine mz ?_
  refine ρp (fun h8 => ?_) (fun h8 => ?_)
  · refine sr fun _ => ?_
    refine mv ?_
    refine ρ5 U25 sz3 ?_
    refine ρa U3 ?_
    refine ρj cf37 ?_ (hF := fun hg => Stk.findR_fn l c.item (by omega))
    refine mv ?_
    refine ρ6 ?_
    refine ρ6 ?_
    refine ρo (j := 1) zv64 ?_
    refine ρ1 sz64 ?_
    refine mz ?_
    refine sr fun _ => ?_
    refine mv ?_
    refine ρC ?_
    refine ez ?_
    refine ρp (fun h9 => ?_) (fun h9 => ?_)
    · simp at h9
      refine AWP.region (fun _ => ?_)
      refine ma ?_
      refine ⟨_, _, rfl, hG, ?_⟩
      refine blockA_n (thenA_n (AWP.seq ?_))
      refine sr fun _ => ?_
      refine mv ?_
      refine ρ2 ?_
      refine ez ?_
      refine ρp (fun h10 => ?_) (fun h10 => ?_)
      · refine sr fun _ => ?_
        refine mv ?_
        refine mv ?_
        refine ρg cf31 (fun hg => toldR_fn 40 []) ?_
        refine ma ?_
        refine ρ1 sz31 ?_
        refine ez ?_
        refine AWP.ret (thenA_r ?_)
        refine ρf (rs := [.tmp 4, .cell 5 31]) (.cons (.tmp rfl) (.cons (.cellA rfl ((hG.at _ _).trans rfl) U31 rfl sz31 rfl rfl) .nil)) ?_
        rw [do_2 h0 h1, kind_7 hk, queryR, if_neg (by simp [h9])]; rfl
      simp at h10
    simp at h9
    refine AWP.skip (blockA_n ?_)
    refine thenA_n (AWP.seq ?_)
    refine sr fun _ => ?_
    refine mv ?_
    refine ρ2 ?_
    refine ez ?_
    refine ρp (fun h11 => ?_) (fun h11 => ?_)
    · simp [h1] at h11
    refine AWP.skip (thenA_n (AWP.seq ?_))
    refine sr fun _ => ?_
    refine ρ5 U25 sz3 ?_
    refine ρa U3 ?_
    refine ρ2 ?_
    refine ez ?_
    refine ρp (fun h12 => ?_) (fun h12 => ?_)
    · simp [hk] at h12
    refine AWP.skip (thenA_n ?_)
    refine sr fun _ => ?_
    refine mv ?_
    refine mv ?_
    refine ρ5 U25 sz3 ?_
    refine ρa U3 ?_
    refine ρj cf40 ?_ (hF := fun hg => numbers_fn l c.item (by omega))
    refine ρg cf31 (fun hg => toldR_fn 0 (numsP l c.item)) ?_
    refine ma ?_
    refine ρ1 sz31 ?_
    refine ez ?_
    refine AWP.ret ?_
    refine ρf (rs := [.tmp 4, .cell 5 31]) (.cons (.tmp rfl) (.cons (.cellA rfl ((hG.at _ _).trans rfl) U31 rfl sz31 rfl rfl) .nil)) ?_
    rw [do_2 h0 h1, kind_7 hk, queryR, if_pos h9]; rfl
  simp [hk] at h8
set_option maxHeartbeats 1000000 in
theorem doR8_fn (l : Its) (c : Cl) (hl : l.length ≤ 100) (hc : c.lines.length ≤ 1000) (hk : c.kind = 8) : FnP Tryz.prog 10 [.sl (l.map Stk.aIt), aCl c] (.tup [.sl ((doP l c).1.map Stk.aIt), aRp (doP l c).2]) := by
  refine FnP.of Tryz.func10 rfl rfl (by simp) (by simp [AV.cells, aIn, aOut, aLn, aCl, aRp, Stk.aIt, Ssn.aSe, aSt]) (fun G hG => ?_)
  have hN : NoH G.length (.tup [.sl ((doP l c).1.map Stk.aIt), aRp (doP l c).2]) := (by simp [AV.cells, aIn, aOut, aLn, aCl, aRp, Stk.aIt, Ssn.aSe, aSt])
  refine sr fun _ => ?_
  refine ρx ?_
  refine ma ?_
  refine ρo (j := 0) zv31 ?_
  refine ez ?_
  refine AWP.seq ?_
  refine sr fun _ => ?_
  refine mv ?_
  refine ρm cf30 (fun hg => Stk.checkR_fn l) ?_
  refine ρ2 ?_
  refine ez ?_
  refine ρp (fun h0 => ?_) (fun h0 => ?_)
  · simp at h0
    refine sr fun _ => ?_
    refine mv ?_
    refine ρg cf31 (fun hg => toldR_fn 2 []) ?_
    refine ma ?_
    refine ρ1 sz31 ?_
    refine ez ?_
    refine AWP.ret (thenA_r ?_)
    refine ρf (rs := [.tmp 4, .cell 5 31]) (.cons (.tmp rfl) (.cons (.cellA rfl ((hG.at _ _).trans rfl) U31 rfl sz31 rfl rfl) .nil)) ?_
    rw [do_0 h0]; rfl
  simp at h0
  refine AWP.skip (thenA_n ?_)
  refine sr fun _ => ?_
  refine ρq U25 sz25 ?_
  refine ρz cf32 ?_ (hF := fun hg => checkR_fn c (by omega))
  refine mz ?_
  refine AWP.seq ?_
  refine sr fun _ => ?_
  refine mv ?_
  refine ρ2 ?_
  refine ez ?_
  refine ρp (fun h1 => ?_) (fun h1 => ?_)
  · simp at h1
    refine sr fun _ => ?_
    refine mv ?_
    refine mv ?_
    refine ρg cf31 (fun hg => toldR_fn (checkP c) []) ?_
    refine ma ?_
    refine ρ1 sz31 ?_
    refine ez ?_
    refine AWP.ret (thenA_r ?_)
    refine ρf (rs := [.tmp 4, .cell 5 31]) (.cons (.tmp rfl) (.cons (.cellA rfl ((hG.at _ _).trans rfl) U31 rfl sz31 rfl rfl) .nil)) ?_
    rw [do_1 h0 h1]; rfl
  simp at h1
  refine AWP.skip (thenA_n ?_)
  refine sr fun _ => ?_
  refine mv ?_
  refine mz ?_
  refine AWP.seq ?_
  refine sr fun _ => ?_
  refine ρ5 U25 sz3 ?_
  refine ρa U3 ?_
  refine ez ?_
  refine AWP.block ?_
  refine sr fun _ => ?_
  refine ρ2 ?_
  refine mz ?_
  refine ρp (fun h2 => ?_) (fun h2 => ?_)
  · simp [hk] at h2
  refine sr fun _ => ?_
  refine ρ2 ?_
  refine mz ?_
  refine ρp (fun h3 => ?_) (fun h3 => ?_)
  · simp [hk] at h3
  refine AWP.seq ?_
  refine sr fun _ => ?_
  refine ρ2 ?_
  refine mz ?_
  refine ρp (fun h4 => ?_) (fun h4 => ?_)
  · simp [hk] at h4
  refine sr fun _ => ?_
  refine ρ2 ?_
  refine mz ?_
  refine ρp (fun h5 => ?_) (fun h5 => ?_)
  · simp [hk] at h5
  refine AWP.region (fun _ => ?_)
  refine ρ2 ?_
  refine mz ?_
  refine ρp (fun h6 => ?_) (fun h6 => ?_)
  · simp [hk] at h6
  refine sr fun _ => ?_
  refine ρ2 ?_
  refine mz ?_
  refine ρp (fun h7 => ?_) (fun h7 => ?_)
  · simp [hk] at h7
  refine sr fun _ => ?_
  refine ρ2 ?_
  refine mz ?_
  refine ρp (fun h8 => ?_) (fun h8 => ?_)
  · simp [hk] at h8
  refine sr fun _ => ?_
  refine mv ?_
  refine ρ5 U25 sz23 ?_
  refine ρa U23 ?_
  refine ARun.call rfl rfl rfl rfl cf38 (ep rfl) (.cons (ep rfl) (.cons (ep rfl) (.cons (ep rfl) .nil))) rfl (fun hg => Stk.goesLR_fn l c.lines (by omega)) optN ?_
  refine mv ?_
  refine ρ6 ?_
  refine ρ6 ?_
  refine ρ6 ?_
  refine ma ?_
  refine ma ?_
  refine mz ?_
  refine AWP.seq ?_
  refine sr fun _ => ?_
  refine mv ?_
  refine ρ2 ?_
  refine ez ?_
  refine ρp (fun h9 => ?_) (fun h9 => ?_)
  · simp at h9
    refine sr fun _ => ?_
    refine mv ?_
    refine mv ?_
    refine mv ?_
    refine ρA U29 sz3 zv3 ?_
    refine ρg cf31 (fun hg => toldR_fn (orP l c).2.2 [(orP l c).2.1]) ?_
    refine ma ?_
    refine ρ1 sz31 ?_
    refine ez ?_
    refine AWP.ret (thenA_r ?_)
    refine blockA_r (thenA_r ?_)
    refine ρf (rs := [.tmp 4, .cell 5 31]) (.cons (.tmp rfl) (.cons (.cellA rfl ((hG.at _ _).trans rfl) U31 rfl sz31 rfl rfl) .nil)) ?_
    rw [do_2 h0 h1, kind_8 hk, orderR, if_neg h9]; rfl
  simp at h9
  refine AWP.skip (thenA_n ?_)
  refine sr fun _ => ?_
  refine mv ?_
  refine ρ5 U25 sz23 ?_
  refine ρa U23 ?_
  refine ρm cf39 (fun hg => Stk.totalR_fn c.lines hc) ?_
  refine ρA U29 sz3 zv3 ?_
  refine ρg cf31 (fun hg => toldR_fn 0 [StockP.totalP c.lines]) ?_
  refine ma ?_
  refine ρ1 sz31 ?_
  refine ez ?_
  refine AWP.ret (blockA_r (thenA_r ?_))
  refine ρf (rs := [.tmp 4, .cell 5 31]) (.cons (.tmp rfl) (.cons (.cellA rfl ((hG.at _ _).trans rfl) U31 rfl sz31 rfl rfl) .nil)) ?_
  rw [do_2 h0 h1, kind_8 hk, orderR, if_pos h9]; rfl
set_option maxHeartbeats 1000000 in
theorem doR0_fn (l : Its) (c : Cl) (hl : l.length ≤ 100) (hc : c.lines.length ≤ 1000) (hk : ¬ checkP c = 0) : FnP Tryz.prog 10 [.sl (l.map Stk.aIt), aCl c] (.tup [.sl ((doP l c).1.map Stk.aIt), aRp (doP l c).2]) := by
  refine FnP.of Tryz.func10 rfl rfl (by simp) (by simp [AV.cells, aIn, aOut, aLn, aCl, aRp, Stk.aIt, Ssn.aSe, aSt]) (fun G hG => ?_)
  have hN : NoH G.length (.tup [.sl ((doP l c).1.map Stk.aIt), aRp (doP l c).2]) := (by simp [AV.cells, aIn, aOut, aLn, aCl, aRp, Stk.aIt, Ssn.aSe, aSt])
  refine sr fun _ => ?_
  refine ρx ?_
  refine ma ?_
  refine ρo (j := 0) zv31 ?_
  refine ez ?_
  refine AWP.seq ?_
  refine sr fun _ => ?_
  refine mv ?_
  refine ρm cf30 (fun hg => Stk.checkR_fn l) ?_
  refine ρ2 ?_
  refine ez ?_
  refine ρp (fun h0 => ?_) (fun h0 => ?_)
  · simp at h0
    refine sr fun _ => ?_
    refine mv ?_
    refine ρg cf31 (fun hg => toldR_fn 2 []) ?_
    refine ma ?_
    refine ρ1 sz31 ?_
    refine ez ?_
    refine AWP.ret (thenA_r ?_)
    refine ρf (rs := [.tmp 4, .cell 5 31]) (.cons (.tmp rfl) (.cons (.cellA rfl ((hG.at _ _).trans rfl) U31 rfl sz31 rfl rfl) .nil)) ?_
    rw [do_0 h0]; rfl
  simp at h0
  refine AWP.skip (thenA_n ?_)
  refine sr fun _ => ?_
  refine ρq U25 sz25 ?_
  refine ρz cf32 ?_ (hF := fun hg => checkR_fn c (by omega))
  refine mz ?_
  refine AWP.seq ?_
  refine sr fun _ => ?_
  refine mv ?_
  refine ρ2 ?_
  refine ez ?_
  refine ρp (fun h1 => ?_) (fun h1 => ?_)
  · simp at h1
    refine sr fun _ => ?_
    refine mv ?_
    refine mv ?_
    refine ρg cf31 (fun hg => toldR_fn (checkP c) []) ?_
    refine ma ?_
    refine ρ1 sz31 ?_
    refine ez ?_
    refine AWP.ret (thenA_r ?_)
    refine ρf (rs := [.tmp 4, .cell 5 31]) (.cons (.tmp rfl) (.cons (.cellA rfl ((hG.at _ _).trans rfl) U31 rfl sz31 rfl rfl) .nil)) ?_
    rw [do_1 h0 h1]; rfl
  simp [hk] at h1
theorem doR_fn (l : Its) (c : Cl) (hl : l.length ≤ 100) (hc : c.lines.length ≤ 1000) : FnP Tryz.prog 10 [.sl (l.map Stk.aIt), aCl c] (.tup [.sl ((doP l c).1.map Stk.aIt), aRp (doP l c).2]) := by
  by_cases h : checkP c = 0
  · have hk := kind_rng h
    rcases (show c.kind = 1 ∨ c.kind = 2 ∨ c.kind = 3 ∨ c.kind = 4 ∨ c.kind = 5 ∨ c.kind = 6 ∨ c.kind = 7 ∨ c.kind = 8 by omega) with h | h | h | h | h | h | h | h
    · exact doR1_fn l c hl hc h
    · exact doR2_fn l c hl hc h
    · exact doR3_fn l c hl hc h
    · exact doR4_fn l c hl hc h
    · exact doR5_fn l c hl hc h
    · exact doR6_fn l c hl hc h
    · exact doR7_fn l c hl hc h
    exact doR8_fn l c hl hc h
  exact doR0_fn l c hl hc h
set_option maxHeartbeats 1000000 in
theorem applyR_fn (s : St) (p : ByteArray) (hp : p.size ≤ 2000) (h1s : s.1.length ≤ 60) (h2s : s.2.length ≤ 60) : FnP Tryz.prog 22 [aSt s, .str p] (.tup [aSt (applyP s p).1, .str (applyP s p).2]) := by
  have hdl := do_len s.1 (takeC p) h1s
  have htl := takeC_len p
  have hrl := putR_len (doP s.1 (takeC p)).2
  refine FnP.of Tryz.func22 rfl rfl (by simp) (by simp [AV.cells, aIn, aOut, aLn, aCl, aRp, Stk.aIt, Ssn.aSe, aSt]) (fun G hG => ?_)
  have hN : NoH G.length (.tup [aSt (applyP s p).1, .str (applyP s p).2]) := (by simp [AV.cells, aIn, aOut, aLn, aCl, aRp, Stk.aIt, Ssn.aSe, aSt])
  refine sr fun _ => ?_
  refine ρx ?_
  refine ρo (j := 0) zv39 ?_
  refine mz ?_
  refine AWP.seq ?_
  refine sr fun _ => ?_
  refine ρq U39 sz39 ?_
  refine ρm cf19 (fun hg => chkR_fn s) ?_
  refine ρ2 ?_
  refine ez ?_
  refine ρp (fun h0 => ?_) (fun h0 => ?_)
  · simp at h0
    refine AWP.seq ?_
    refine AWP.draw mixed (by kernel_rfl) (fun _ => ?_)
    refine ρq U39 sz39 ?_
    refine ρg cf31 (fun hg => toldR_fn 2 []) ?_
    refine ρz cf52 ?_ (hF := fun hg => bytesR_fn ⟨2, []⟩ (by simp) (by simp))
    refine ρ1 sz39 ?_
    refine ma ?_
    refine ⟨by kernel_rfl, _, _, rfl, hG, ?_⟩
    refine thenA_n (AWP.ret (thenA_r ?_))
    refine ρf (rs := [.cell 4 39, .tmp 5]) (.cons (.cellA rfl ((hG.at _ _).trans rfl) U39 rfl sz39 rfl rfl) (.cons (.tmp rfl) .nil)) ?_
    rw [applyP, if_neg h0]; rfl
  simp at h0
  refine AWP.skip (thenA_n ?_)
  refine sr fun _ => ?_
  refine mv ?_
  refine ρz cf53 ?_ (hF := fun hg => take_R p (by omega))
  refine mv ?_
  refine ρ6 ?_
  refine ρ6 ?_
  refine ρo (j := 1) zv25 ?_
  refine ρ1 sz25 ?_
  refine mz ?_
  refine AWP.seq ?_
  refine sr fun _ => ?_
  refine mv ?_
  refine ρ2 ?_
  refine ez ?_
  refine ρp (fun h1 => ?_) (fun h1 => ?_)
  · simp at h1
    refine AWP.seq ?_
    refine AWP.draw mixed (by kernel_rfl) (fun _ => ?_)
    refine ρq U39 sz39 ?_
    refine mv ?_
    refine ρg cf31 (fun hg => toldR_fn (takeE p) []) ?_
    refine ρz cf52 ?_ (hF := fun hg => bytesR_fn ⟨takeE p, []⟩ (by simp) (by simp))
    refine ρ1 sz39 ?_
    refine ma ?_
    refine ⟨by kernel_rfl, _, _, rfl, hG, ?_⟩
    refine thenA_n (AWP.ret (thenA_r ?_))
    refine ρf (rs := [.cell 4 39, .tmp 5]) (.cons (.cellA rfl ((hG.at _ _).trans rfl) U39 rfl sz39 rfl rfl) (.cons (.tmp rfl) .nil)) ?_
    rw [applyP, if_pos h0, if_neg h1]; rfl
  simp at h1
  refine AWP.skip (thenA_n ?_)
  refine sr fun _ => ?_
  refine ρ5 U39 sz37 ?_
  refine ρa U37 ?_
  refine ρ4 (fo := 0) U25 sz3 ?_
  refine ρd U3 ?_
  refine ρ4 (fo := 1) U25 sz3 ?_
  refine ρd U3 ?_
  refine ARun.call rfl rfl rfl rfl cf54 (ep rfl) (.cons (ep rfl) (.cons (ep rfl) (.cons (ep rfl) .nil))) rfl (fun hg => Ssn.askR_fn s.2 (takeC p).client (takeC p).seq (by omega)) optN ?_
  refine mv ?_
  refine ρ6 ?_
  refine ρ6 ?_
  refine ρ6 ?_
  refine ma ?_
  refine ma ?_
  refine mz ?_
  refine AWP.seq ?_
  refine sr fun _ => ?_
  refine mv ?_
  refine ρ2 ?_
  refine ez ?_
  refine ρp (fun h2 => ?_) (fun h2 => ?_)
  · simp at h2
    refine AWP.seq ?_
    refine AWP.draw mixed (by kernel_rfl) (fun _ => ?_)
    refine ρq U39 sz39 ?_
    refine mv ?_
    refine ρg cf31 (fun hg => toldR_fn (asP s p).2.2 []) ?_
    refine ρz cf52 ?_ (hF := fun hg => bytesR_fn ⟨(asP s p).2.2, []⟩ (by simp) (by simp))
    refine ρ1 sz39 ?_
    refine ma ?_
    refine ⟨by kernel_rfl, _, _, rfl, hG, ?_⟩
    refine thenA_n (AWP.ret (thenA_r ?_))
    refine ρf (rs := [.cell 4 39, .tmp 5]) (.cons (.cellA rfl ((hG.at _ _).trans rfl) U39 rfl sz39 rfl rfl) (.cons (.tmp rfl) .nil)) ?_
    rw [applyP, if_pos h0, if_pos h1, if_neg h2]; rfl
  simp at h2
  refine AWP.skip (thenA_n (AWP.seq ?_))
  refine sr fun _ => ?_
  refine mv ?_
  refine ez ?_
  refine ρp (fun h3 => ?_) (fun h3 => ?_)
  · refine sr fun _ => ?_
    refine ρq U39 sz39 ?_
    refine mv ?_
    refine ρ1 sz39 ?_
    refine mz ?_
    refine AWP.ret (thenA_r ?_)
    refine ρf (rs := [.cell 4 39, .tmp 5]) (.cons (.cellA rfl ((hG.at _ _).trans rfl) U39 rfl sz39 rfl rfl) (.cons (.tmp rfl) .nil)) ?_
    rw [applyP, if_pos h0, if_pos h1, if_pos h2, if_pos h3]; rfl
  try simp at h3
  refine AWP.skip (thenA_n ?_)
  refine sr fun _ => ?_
  refine ρ5 U39 sz22 ?_
  refine ρa U22 ?_
  refine ρi U25 sz25 ?_
  refine ρj cf10 ?_ (hF := fun hg => doR_fn s.1 (takeC p) (by omega) (by omega))
  refine mv ?_
  refine ρ6 ?_
  refine ρ6 ?_
  refine ρo (j := 2) zv31 ?_
  refine ma ?_
  refine ρ1 sz31 ?_
  refine ez ?_
  refine sr fun _ => ?_
  refine ρi U31 sz31 ?_
  refine ρz cf52 ?_ (hF := fun hg => bytesR_fn (doP s.1 (takeC p)).2 (by have := (do_fine s.1 (takeC p)).len; omega) (do_fine s.1 (takeC p)).num)
  refine mz ?_
  refine sr fun _ => ?_
  refine ρ5 U39 sz37 ?_
  refine ρa U37 ?_
  refine ρ4 (fo := 0) U25 sz3 ?_
  refine ρd U3 ?_
  refine ρ4 (fo := 1) U25 sz3 ?_
  refine ρd U3 ?_
  refine mv ?_
  refine ARun.build rfl rfl rfl rfl so60 (.cons (ep rfl) (.cons (ep rfl) (.cons (ep rfl) .nil))) rfl rfl optN ?_
  refine ρj cf55 ?_ (hF := fun hg => Ssn.noteR_fn s.2 (nwP s p) (by omega))
  refine mv ?_
  refine ρ6 ?_
  refine ρ6 ?_
  refine ma ?_
  refine mz ?_
  refine sr fun _ => ?_
  refine mv ?_
  refine mv ?_
  refine ARun.build rfl rfl rfl rfl so39 (.cons (ep rfl) (.cons (ep rfl) .nil)) rfl rfl optN ?_
  refine mv ?_
  refine ρ1 sz39 ?_
  refine mz ?_
  refine AWP.ret ?_
  refine ρf (rs := [.cell 4 39, .tmp 5]) (.cons (.cellA rfl ((hG.at _ _).trans rfl) U39 rfl sz39 rfl rfl) (.cons (.tmp rfl) .nil)) ?_
  rw [applyP, if_pos h0, if_pos h1, if_pos h2, if_neg (by simp [h3])]; rfl
end Go.Proofs.YtgebpndhnkkbgaaGreatDoor
namespace Go.Proofs.YtgebpndhnkkbgaaGreatDoor
set_option linter.unusedVariables false
set_option linter.unusedSimpArgs false
open NumP
set_option linter.unusedVariables false
set_option linter.unusedSimpArgs false
set_option maxRecDepth 100000
def noted (l : Ses) (c q : Int) (r : ByteArray) (k : Nat) : Bool := (l.take k).any fun x => decide (x.client = c) && decide (x.seq = q) && decide (x.reply = r)
def fewS (s : St) : Bool := decide (s.1.length ≤ 60) && Ssn.fewB s.2
theorem fewS_facts {s : St} (h : fewS s = true) : s.1.length ≤ 60 ∧ s.2.length ≤ 60 ∧ ∀ x, x ∈ s.2 → x.reply.size ≤ 1000 := by
  unfold fewS at h
  rw [Bool.and_eq_true, decide_eq_true_eq] at h
  have h2 := h.2
  unfold Ssn.fewB at h2
  simp only [Bool.and_eq_true, decide_eq_true_eq, List.all_eq_true] at h2
  exact ⟨h.1, h2.1, h2.2⟩
end Go.Proofs.YtgebpndhnkkbgaaGreatDoor
namespace Go.Proofs.YtgebpndhnkkbgaaGreatDoor
set_option linter.unusedVariables false
set_option linter.unusedSimpArgs false
open Go.RowKit
open NumP
set_option maxRecDepth 100000
set_option maxHeartbeats 1000000 in
theorem fewS_fn (s : St) : FnP Tryz.prog 13 [aSt s] (.bool (fewS s)) := by
  refine FnP.of Tryz.func13 rfl rfl (by simp) (by simp [AV.cells, aIn, aOut, aLn, aCl, aRp, Stk.aIt, Ssn.aSe, aSt]) (fun G hG => ?_)
  have hN : NoH G.length (.bool (fewS s)) := (by simp [AV.cells, aIn, aOut, aLn, aCl, aRp, Stk.aIt, Ssn.aSe, aSt])
  refine sr fun _ => ?_
  refine ρx ?_
  refine mz ?_
  refine sr fun _ => ?_
  refine ρ5 U39 sz22 ?_
  refine ρa U22 ?_
  refine ρv U22 ?_
  refine ρ2 ?_
  refine mv ?_
  refine ρc U39 sz37 ?_
  refine ρ8 U37 ?_
  refine ρn cf42 (fun hg => Ssn.few_fn s.2) ?_
  refine ρ0 ?_
  refine mz ?_
  refine AWP.ret ?_
  refine ρh ?_
  rw [show fewS s = (decide ((((s.1.map Stk.aIt).length : Nat) : Int) ≤ 60) && Ssn.fewB s.2) from by unfold fewS; rw [List.length_map]; congr 1; exact decide_eq_decide.2 (by omega)]
set_option maxHeartbeats 1000000 in
theorem sameT_fn (a b : List ByteArray) (hl : a.length ≤ 9223372036854775807) : FnP Tryz.prog 17 [.sl (a.map AV.str), .sl (b.map AV.str)] (.bool (decide (a = b))) := by
  refine FnP.of Tryz.func17 rfl rfl (by simp) (by simp [AV.cells, aIn, aOut, aLn, aCl, aRp, Stk.aIt, Ssn.aSe, aSt]) (fun G hG => ?_)
  have hN : NoH G.length (.bool (decide (a = b))) := (by simp [AV.cells, aIn, aOut, aLn, aCl, aRp, Stk.aIt, Ssn.aSe, aSt])
  refine sr fun _ => ?_
  refine mz ?_
  refine AWP.seq ?_
  refine sr fun _ => ?_
  refine mv ?_
  refine ρv U40 ?_
  refine mv ?_
  refine ρv U40 ?_
  refine ρ2 ?_
  refine ez ?_
  refine ρp (fun h0 => ?_) (fun h0 => ?_)
  · simp [-List.getD_eq_getElem?_getD] at h0
    refine sr fun _ => ?_
    refine mz ?_
    refine AWP.ret (thenA_r ?_)
    refine ρh ?_
    rw [decide_eq_false (fun e => absurd (congrArg List.length e) (by omega))]; rfl
  simp [-List.getD_eq_getElem?_getD] at h0
  refine AWP.skip (thenA_n (AWP.seq ?_))
  refine sr fun _ => ?_
  refine mz ?_
  refine AWP.block ?_
  refine AWP.rounds (fun k => k ≤ a.length ∧ a.take k = b.take k) (fun k => [(0, .sl (a.map AV.str)), (1, .sl (b.map AV.str)), (5, .int .i64 (k : Int))]) (fun k => []) (fun k => a.length - k) 0 0 ⟨by omega, rfl⟩ (by repeat (first | exact .nil | refine .cons rfl ?_)) rfl (fun _ => rfl) (fun _ => ⟨by simp [AV.cells], by simp⟩) (fun k hI => ?_)
  obtain ⟨hk, hs⟩ := hI
  refine AWP.seq ?_
  refine sr fun _ => ?_
  refine mv ?_
  refine mv ?_
  refine ρv U40 ?_
  refine ρ2 ?_
  refine ez ?_
  refine ρp (fun h1 => ?_) (fun h1 => ?_)
  · simp [-List.getD_eq_getElem?_getD] at h1
    refine AWP.skip (thenA_n ?_)
    refine AWP.seq (AWP.block (AWP.seq ?_))
    refine AWP.draw mixed (by kernel_rfl) (fun _ => ?_)
    refine mv ?_
    refine mv ?_
    first | refine ρe U40 sz9 ?_ | refine ρ7 U40 sz9 ?_
    refine ρa U9 ?_
    refine mv ?_
    refine mv ?_
    first | refine ρe U40 sz9 ?_ | refine ρ7 U40 sz9 ?_
    refine ρa U9 ?_
    refine ARun.cmpS rfl rfl rfl rfl (ep rfl) (ep rfl) rfl optN ?_
    refine ⟨by kernel_rfl, _, _, rfl, hG, ?_⟩
    refine thenA_n ?_
    refine ρp (fun h2 => ?_) (fun h2 => ?_)
    · simp [-List.getD_eq_getElem?_getD] at h2
      refine sr fun _ => ?_
      refine mz ?_
      refine AWP.ret (blockA_r ?_)
      refine thenA_r (thenA_r ?_)
      refine blockA_r (thenA_r ?_)
      refine ρh ?_
      rw [decide_eq_false (ne_of_get (k := k) h2)]; rfl
    simp [-List.getD_eq_getElem?_getD] at h2
    refine AWP.skip (blockA_n (thenA_n ?_))
    refine AWP.region (fun _ => ?_)
    refine mv ?_
    first | refine ρb ?_ | refine ρl ?_
    refine ma ?_
    refine ⟨_, _, rfl, hG, ?_⟩
    refine thenA_n ⟨rfl, k + 1, _, ?_, ?_, rfl, ?_⟩
    · exact ⟨by omega, take_eq_go hs h1 (by omega) h2⟩
    · repeat (first | exact .nil | refine .cons rfl ?_)
    omega
  simp [-List.getD_eq_getElem?_getD] at h1
  refine AWP.exit ?_
  refine thenA_x ?_
  refine thenA_x ?_
  refine blockA_h ?_
  refine thenA_n ?_
  refine sr fun _ => ?_
  refine mz ?_
  refine AWP.ret ?_
  refine ρh ?_
  rw [decide_eq_true (by rw [List.take_of_length_le h1, List.take_of_length_le (by omega)] at hs; exact hs)]; rfl
set_option maxHeartbeats 1000000 in
theorem sameS_fn (a b : St) (h1 : a.1.length ≤ 1000) (h2 : a.2.length ≤ 1000) : FnP Tryz.prog 16 [aSt a, aSt b] (.bool (decide (a = b))) := by
  refine FnP.of Tryz.func16 rfl rfl (by simp) (by simp [AV.cells, aIn, aOut, aLn, aCl, aRp, Stk.aIt, Ssn.aSe, aSt]) (fun G hG => ?_)
  have hN : NoH G.length (.bool (decide (a = b))) := (by simp [AV.cells, aIn, aOut, aLn, aCl, aRp, Stk.aIt, Ssn.aSe, aSt])
  refine sr fun _ => ?_
  refine ρx ?_
  refine ρx ?_
  refine mz ?_
  refine sr fun _ => ?_
  refine ρ5 U39 sz22 ?_
  refine ρa U22 ?_
  refine ρ5 U39 sz22 ?_
  refine ρa U22 ?_
  refine ρj cf11 ?_ (hF := fun hg => Stk.same_fn a.1 b.1 (by omega))
  refine mv ?_
  refine ρc U39 sz37 ?_
  refine ρ8 U37 ?_
  refine ρc U39 sz37 ?_
  refine ρ8 U37 ?_
  refine ARun.call rfl rfl rfl rfl cf43 (ep rfl) (.cons (Ev.opt rfl (fun h => h)) (.cons (Ev.opt rfl (fun h => h)) .nil)) rfl (fun hg => Ssn.same_fn a.2 b.2 (by omega)) optS ?_
  refine ρ0 ?_
  refine mz ?_
  refine AWP.ret ?_
  refine ρh ?_
  refine congrArg AV.bool ?_
  rw [← Bool.decide_and]; exact decide_eq_decide.2 (by rw [Prod.ext_iff])
set_option maxHeartbeats 1000000 in
theorem sameV_fn (a b : St) (h1 : a.1.length ≤ 1000) (h2 : a.2.length ≤ 1000) : FnP Tryz.prog 20 [aSt a, aSt b] (.bool (decide (a = b))) := by
  refine FnP.of Tryz.func20 rfl rfl (by simp) (by simp [AV.cells, aIn, aOut, aLn, aCl, aRp, Stk.aIt, Ssn.aSe, aSt]) (fun G hG => ?_)
  have hN : NoH G.length (.bool (decide (a = b))) := (by simp [AV.cells, aIn, aOut, aLn, aCl, aRp, Stk.aIt, Ssn.aSe, aSt])
  refine sr fun _ => ?_
  refine ρx ?_
  refine ρx ?_
  refine mz ?_
  refine sr fun _ => ?_
  refine ρ5 U39 sz22 ?_
  refine ρa U22 ?_
  refine ρ5 U39 sz22 ?_
  refine ρa U22 ?_
  refine ρj cf46 ?_ (hF := fun hg => Stk.eq_fn a.1 b.1 (by omega))
  refine mv ?_
  refine ρc U39 sz37 ?_
  refine ρ8 U37 ?_
  refine ρc U39 sz37 ?_
  refine ρ8 U37 ?_
  refine ARun.call rfl rfl rfl rfl cf47 (ep rfl) (.cons (Ev.opt rfl (fun h => h)) (.cons (Ev.opt rfl (fun h => h)) .nil)) rfl (fun hg => Ssn.sameP_fn a.2 b.2 (by omega)) optS ?_
  refine ρ0 ?_
  refine mz ?_
  refine AWP.ret ?_
  refine ρh ?_
  refine congrArg AV.bool ?_
  rw [← Bool.decide_and]; exact decide_eq_decide.2 (by rw [Prod.ext_iff])
theorem str_snoc (l : List ByteArray) (x : ByteArray) : l.map AV.str ++ [AV.str x] = (l ++ [x]).map AV.str := by simp
set_option maxHeartbeats 1000000 in
theorem fold_fn (s : St) (l : List ByteArray) (hl : l.length ≤ 30) (hs : ∀ x, x ∈ l → x.size ≤ 2000) (h1s : s.1.length ≤ 60) (h2s : s.2.length ≤ 60) : FnP Tryz.prog 14 [aSt s, .sl (l.map AV.str)] (.tup [aSt (foldP s l).1, .sl ((foldP s l).2.map AV.str)]) := by
  have hfl := fold_len s l (fun x hx => by have := hs x hx; omega) h1s h2s
  have hxs : ∀ k, k < l.length → (l.getD k default).size ≤ 2000 := fun k hk => by rw [show l.getD k default = l[k] from by simp [List.getD, hk]]; exact hs _ (List.getElem_mem hk)
  refine FnP.of Tryz.func14 rfl rfl (by simp) (by simp [AV.cells, aIn, aOut, aLn, aCl, aRp, Stk.aIt, Ssn.aSe, aSt]) (fun G hG => ?_)
  have hN : NoH G.length (.tup [aSt (foldP s l).1, .sl ((foldP s l).2.map AV.str)]) := (by simp [AV.cells, aIn, aOut, aLn, aCl, aRp, Stk.aIt, Ssn.aSe, aSt])
  refine sr fun _ => ?_
  refine ARun.box (j := 0) hG rfl rfl rfl rfl rfl (ep rfl) rfl rfl optN ?_
  refine ρo (j := 1) zv39 ?_
  refine mz ?_
  refine sr fun _ => ?_
  refine ARun.nilOwn (e := 9) (z := 1) (j := 2) hG rfl ⟨.inl rfl, rfl⟩ (fun _ => rfl) rfl rfl rfl optN ?_
  refine ez ?_
  refine AWP.seq ?_
  refine sr fun _ => ?_
  refine mv ?_
  refine ρv U40 ?_
  refine mv ?_
  refine ez ?_
  refine AWP.block ?_
  refine AWP.rounds (fun st => st.1 ≤ l.length ∧ foldP s (l.take st.1) = (st.2.2.1, st.2.2.2)) (fun st => [(2, .box (G.length + 0) 0), (4, .box (G.length + 1) 0), (6, .own (G.length + 2) st.2.1), (11, .sl (l.map AV.str)), (12, .int .i64 ((l.map AV.str).length : Int)), (13, .int .i64 (st.1 : Int))]) (fun st => [.box [.sl ((st.2.2.1).1.map Stk.aIt), .sl ((st.2.2.1).2.map Ssn.aSe)], .box [.sl [], .sl []], .row st.2.1 9 1 (st.2.2.2.map AV.str)]) (fun st => l.length - st.1) 3 ((0, 0, s, []) : Nat × Nat × St × List ByteArray) ⟨Nat.zero_le _, rfl⟩ (by repeat (first | exact .nil | refine .cons rfl ?_)) rfl (fun _ => rfl) (fun _ => ⟨by simp [AV.cells], by simp [AO.conts, AV.cells, Stk.aIt, Ssn.aSe]; intro x a _ e; subst e; simp⟩) (fun st hI => ?_)
  obtain ⟨k, g, cur, out⟩ := st
  dsimp only at hI
  show AWP _ _ _ _ _ [(2, .box (G.length + 0) 0), (4, .box (G.length + 1) 0), (6, .own (G.length + 2) g), (11, .sl (l.map AV.str)), (12, .int .i64 ((l.map AV.str).length : Int)), (13, .int .i64 (k : Int))] _ [.box [.sl ((cur).1.map Stk.aIt), .sl ((cur).2.map Ssn.aSe)], .box [.sl [], .sl []], .row g 9 1 (out.map AV.str)]
  obtain ⟨hk, hcur⟩ := hI
  have hfk := hfl k hk
  rw [hcur] at hfk
  obtain ⟨⟨hc1, hc2⟩, hc3⟩ := hfk
  dsimp only at hc1 hc2 hc3
  refine sr fun _ => ?_
  refine ρ2 ?_
  refine ez ?_
  refine AWP.seq ?_
  refine ρp (fun h0 => ?_) (fun h0 => ?_)
  · try simp [-List.getD_eq_getElem?_getD] at h0
    refine AWP.skip (thenA_n ?_)
    refine AWP.seq (AWP.block ?_)
    refine sr fun _ => ?_
    first | refine ρe U40 sz9 ?_ | refine ρ7 U40 sz9 ?_
    refine ρa U9 ?_
    refine mz ?_
    refine sr fun _ => ?_
    refine ρi U39 sz39 ?_
    refine mv ?_
    refine ρj cf21 ?_ (hF := fun hg => apply_fn cur (l.getD k default) (hxs k (by omega)) hc1 hc2)
    refine mv ?_
    refine ρ6 ?_
    refine ρ6 ?_
    refine ρo (j := 3) zv39 ?_
    refine ρ1 sz39 ?_
    refine mz ?_
    refine AWP.frzBox 9 hG rfl rfl rfl ?_
    refine AWP.draw mixed (by kernel_rfl) (fun _ => ?_)
    refine ρq U39 sz39 ?_
    refine mv ?_
    refine mv ?_
    refine ρA U40 sz9 zv9 ?_
    refine ARun.appendL hG rfl rfl rfl rfl U40 ti9 rfl (by decide) (ep rfl) (ep rfl) rfl rfl (by simp [maxLen]; omega) (by simp; omega) (str_snoc out (applyP cur (l.getD k default)).2) optN rfl ?_
    refine ρ1 sz39 ?_
    refine ma ?_
    refine ⟨by kernel_rfl, _, _, rfl, hG, ?_⟩
    refine blockA_n (thenA_n ?_)
    refine AWP.region (fun _ => ?_)
    first | refine ρb ?_ | refine ρl ?_
    refine mv ?_
    refine ⟨_, _, rfl, hG, ?_⟩
    refine thenA_n ⟨rfl, (k + 1, g + 1, (applyP cur (l.getD k default)).1, out ++ [(applyP cur (l.getD k default)).2]), _, ?_, ?_, rfl, ?_⟩
    · refine ⟨by dsimp only; omega, ?_⟩
      rw [fold_at s l k (by omega), hcur]; rfl
    · repeat (first | exact .nil | refine .cons rfl ?_)
    dsimp only; omega
  simp at h0
  obtain rfl : k = l.length := by omega
  rw [List.take_length] at hcur
  refine AWP.exit ?_
  refine thenA_x ?_
  refine thenA_x ?_
  refine blockA_h ?_
  refine thenA_n ?_
  refine sr fun _ => ?_
  refine ρi U39 sz39 ?_
  refine mv ?_
  refine ρ1 sz39 ?_
  refine mz ?_
  refine AWP.frzOwn 5 hG rfl rfl (by decide) (by simp [maxLen]; omega) rfl ?_
  refine AWP.ret ?_
  refine ρf (rs := [.cell 4 39, .tmp 5]) (.cons (.cellA rfl ((hG.at _ _).trans rfl) U39 rfl sz39 rfl rfl) (.cons (.tmp rfl) .nil)) ?_
  rw [hcur]; rfl
set_option maxHeartbeats 1000000 in
theorem foldR_fn (s : St) (l : List ByteArray) (hl : l.length ≤ 30) (hs : ∀ x, x ∈ l → x.size ≤ 2000) (h1s : s.1.length ≤ 60) (h2s : s.2.length ≤ 60) : FnP Tryz.prog 15 [aSt s, .sl (l.map AV.str)] (.tup [aSt (foldP s l).1, .sl ((foldP s l).2.map AV.str)]) := by
  have hfl := fold_len s l (fun x hx => by have := hs x hx; omega) h1s h2s
  have hxs : ∀ k, k < l.length → (l.getD k default).size ≤ 2000 := fun k hk => by rw [show l.getD k default = l[k] from by simp [List.getD, hk]]; exact hs _ (List.getElem_mem hk)
  refine FnP.of Tryz.func15 rfl rfl (by simp) (by simp [AV.cells, aIn, aOut, aLn, aCl, aRp, Stk.aIt, Ssn.aSe, aSt]) (fun G hG => ?_)
  have hN : NoH G.length (.tup [aSt (foldP s l).1, .sl ((foldP s l).2.map AV.str)]) := (by simp [AV.cells, aIn, aOut, aLn, aCl, aRp, Stk.aIt, Ssn.aSe, aSt])
  refine sr fun _ => ?_
  refine ARun.box (j := 0) hG rfl rfl rfl rfl rfl (ep rfl) rfl rfl optN ?_
  refine ρo (j := 1) zv39 ?_
  refine mz ?_
  refine sr fun _ => ?_
  refine ARun.nilOwn (e := 9) (z := 1) (j := 2) hG rfl ⟨.inl rfl, rfl⟩ (fun _ => rfl) rfl rfl rfl optN ?_
  refine ez ?_
  refine AWP.seq ?_
  refine sr fun _ => ?_
  refine mz ?_
  refine AWP.block ?_
  refine AWP.rounds (fun st => st.1 ≤ l.length ∧ foldP s (l.take st.1) = (st.2.2.1, st.2.2.2)) (fun st => [(2, .box (G.length + 0) 0), (4, .box (G.length + 1) 0), (6, .own (G.length + 2) st.2.1), (1, .sl (l.map AV.str)), (7, .int .i64 (st.1 : Int))]) (fun st => [.box [.sl ((st.2.2.1).1.map Stk.aIt), .sl ((st.2.2.1).2.map Ssn.aSe)], .box [.sl [], .sl []], .row st.2.1 9 1 (st.2.2.2.map AV.str)]) (fun st => l.length - st.1) 3 ((0, 0, s, []) : Nat × Nat × St × List ByteArray) ⟨Nat.zero_le _, rfl⟩ (by repeat (first | exact .nil | refine .cons rfl ?_)) rfl (fun _ => rfl) (fun _ => ⟨by simp [AV.cells], by simp [AO.conts, AV.cells, Stk.aIt, Ssn.aSe]; intro x a _ e; subst e; simp⟩) (fun st hI => ?_)
  obtain ⟨k, g, cur, out⟩ := st
  dsimp only at hI
  show AWP _ _ _ _ _ [(2, .box (G.length + 0) 0), (4, .box (G.length + 1) 0), (6, .own (G.length + 2) g), (1, .sl (l.map AV.str)), (7, .int .i64 (k : Int))] _ [.box [.sl ((cur).1.map Stk.aIt), .sl ((cur).2.map Ssn.aSe)], .box [.sl [], .sl []], .row g 9 1 (out.map AV.str)]
  obtain ⟨hk, hcur⟩ := hI
  have hfk := hfl k hk
  rw [hcur] at hfk
  obtain ⟨⟨hc1, hc2⟩, hc3⟩ := hfk
  dsimp only at hc1 hc2 hc3
  refine AWP.seq ?_
  refine sr fun _ => ?_
  refine mv ?_
  refine mv ?_
  refine ρv U40 ?_
  refine ρ2 ?_
  refine ez ?_
  refine ρp (fun h0 => ?_) (fun h0 => ?_)
  · try simp [-List.getD_eq_getElem?_getD] at h0
    refine AWP.skip (thenA_n ?_)
    refine AWP.seq (AWP.block (AWP.seq ?_))
    refine AWP.draw mixed (by kernel_rfl) (fun _ => ?_)
    refine ρi U39 sz39 ?_
    refine mv ?_
    refine mv ?_
    first | refine ρe U40 sz9 ?_ | refine ρ7 U40 sz9 ?_
    refine ρa U9 ?_
    refine ρj cf22 ?_ (hF := fun hg => applyR_fn cur (l.getD k default) (hxs k (by omega)) hc1 hc2)
    refine mv ?_
    refine ρ6 ?_
    refine ρ6 ?_
    refine ρo (j := 3) zv39 ?_
    refine ρ1 sz39 ?_
    refine ma ?_
    refine ⟨by kernel_rfl, _, _, rfl, hG, ?_⟩
    refine thenA_n ?_
    refine sr fun _ => ?_
    refine ρi U39 sz39 ?_
    refine ρ1 sz39 ?_
    refine ez ?_
    refine AWP.region (fun _ => ?_)
    refine mv ?_
    refine mv ?_
    refine ρA U40 sz9 zv9 ?_
    refine ARun.appendL hG rfl rfl rfl rfl U40 ti9 rfl (by decide) (ep rfl) (ep rfl) rfl rfl (by simp [maxLen]; omega) (by simp; omega) (str_snoc out (applyP cur (l.getD k default)).2) optN rfl ?_
    refine ma ?_
    refine ⟨_, _, rfl, hG, ?_⟩
    refine blockA_n (thenA_n ?_)
    refine AWP.region (fun _ => ?_)
    refine mv ?_
    first | refine ρb ?_ | refine ρl ?_
    refine ma ?_
    refine ⟨_, _, rfl, hG, ?_⟩
    refine thenA_n ⟨rfl, (k + 1, g + 1, (applyP cur (l.getD k default)).1, out ++ [(applyP cur (l.getD k default)).2]), _, ?_, ?_, rfl, ?_⟩
    · refine ⟨by dsimp only; omega, ?_⟩
      rw [fold_at s l k (by omega), hcur]; rfl
    · repeat (first | exact .nil | refine .cons rfl ?_)
    dsimp only; omega
  simp at h0
  obtain rfl : k = l.length := by omega
  rw [List.take_length] at hcur
  refine AWP.exit ?_
  refine thenA_x ?_
  refine thenA_x ?_
  refine blockA_h ?_
  refine thenA_n ?_
  refine sr fun _ => ?_
  refine ρi U39 sz39 ?_
  refine mv ?_
  refine ρ1 sz39 ?_
  refine mz ?_
  refine AWP.frzOwn 5 hG rfl rfl (by decide) (by simp [maxLen]; omega) rfl ?_
  refine AWP.ret ?_
  refine ρf (rs := [.cell 4 39, .tmp 5]) (.cons (.cellA rfl ((hG.at _ _).trans rfl) U39 rfl sz39 rfl rfl) (.cons (.tmp rfl) .nil)) ?_
  rw [hcur]; rfl
end Go.Proofs.YtgebpndhnkkbgaaGreatDoor
namespace Go.Proofs.YtgebpndhnkkbgaaGreatDoor
set_option linter.unusedVariables false
set_option linter.unusedSimpArgs false
open Go.RowKit
open NumP
set_option maxRecDepth 100000
def sS1 : St := (applyP (([], []) : St) (⟨#[1, 1, 1, 7, 0, 5, 0]⟩ : ByteArray)).1
theorem s1_len : sS1.1.length = 1 ∧ sS1.2.length = 1 := by decide +kernel
theorem f2_len : (foldP sS1 [(⟨#[1, 1, 1, 7, 0, 5, 0]⟩ : ByteArray), (⟨#[120]⟩ : ByteArray)]).2.length = 2 := by decide +kernel
theorem a2_len : (applyP sS1 (⟨#[1, 1, 1, 7, 0, 5, 0]⟩ : ByteArray)).1.1.length = 1 ∧ (applyP sS1 (⟨#[1, 1, 1, 7, 0, 5, 0]⟩ : ByteArray)).1.2.length = 1 := by decide +kernel
set_option maxHeartbeats 1000000 in
theorem awake_fn  : FnP Tryz.prog 8 [] (.bool true) := by
  obtain ⟨l1, l2⟩ := s1_len
  obtain ⟨a1, a2⟩ := a2_len
  have f2 := f2_len
  refine FnP.of Tryz.func8 rfl rfl (by simp) (by simp [AV.cells, aIn, aOut, aLn, aCl, aRp, Stk.aIt, Ssn.aSe, aSt]) (fun G hG => ?_)
  have hN : NoH G.length (.bool true) := (by simp [AV.cells, aIn, aOut, aLn, aCl, aRp, Stk.aIt, Ssn.aSe, aSt])
  refine sr fun _ => ?_
  refine mz ?_
  refine sr fun _ => ?_
  refine ARun.build rfl rfl rfl rfl so39 .nil rfl rfl optN ?_
  refine ρj cf21 ?_ (hF := fun hg => (show FnP Tryz.prog 21 [aSt (([], []) : St), .str (⟨#[1, 1, 1, 7, 0, 5, 0]⟩ : ByteArray)] (.tup [aSt sS1, .str (applyP (([], []) : St) (⟨#[1, 1, 1, 7, 0, 5, 0]⟩ : ByteArray)).2]) from apply_fn (([], []) : St) (⟨#[1, 1, 1, 7, 0, 5, 0]⟩ : ByteArray) (by decide) (by decide) (by decide)))
  refine mv ?_
  refine ρ6 ?_
  refine ρ6 ?_
  refine ρo (j := 0) zv39 ?_
  refine ρ1 sz39 ?_
  refine mz ?_
  refine sr fun _ => ?_
  refine ρi U39 sz39 ?_
  refine ρj cf21 ?_ (hF := fun hg => apply_fn sS1 (⟨#[1, 1, 1, 7, 0, 5, 0]⟩ : ByteArray) (by decide) (by omega) (by omega))
  refine mv ?_
  refine ρ6 ?_
  refine ρ6 ?_
  refine ρo (j := 1) zv39 ?_
  refine ρ1 sz39 ?_
  refine mz ?_
  refine sr fun _ => ?_
  refine ρi U39 sz39 ?_
  refine ARun.buildSl rfl rfl rfl rfl U40 sz9 zv9 rfl (by decide) (.cons (ep rfl) (.cons (ep rfl) .nil)) rfl rfl rfl rfl (by decide) rfl rfl optN ?_
  refine ρj cf14 ?_ (hF := fun hg => fold_fn sS1 [(⟨#[1, 1, 1, 7, 0, 5, 0]⟩ : ByteArray), (⟨#[120]⟩ : ByteArray)] (by decide) (by simp; decide) (by omega) (by omega))
  refine mv ?_
  refine ρ6 ?_
  refine ρ6 ?_
  refine ρo (j := 2) zv39 ?_
  refine ρ1 sz39 ?_
  refine mz ?_
  refine sr fun _ => ?_
  refine ρ4 (fo := 0) U39 sz22 ?_
  refine ρd U22 ?_
  refine ARun.build rfl rfl rfl rfl so25 (.cons (ep rfl) (.cons (ep rfl) (.cons (ep rfl) (.cons (ep rfl) (.cons (ep rfl) .nil))))) rfl rfl optN ?_
  refine ρj cf9 ?_ (hF := fun hg => do_fn sS1.1 (⟨1, 2, 3, 7, 0, 6, []⟩ : Cl) (by omega) (by decide))
  refine mv ?_
  refine ρ6 ?_
  refine ρ6 ?_
  refine ρo (j := 3) zv31 ?_
  refine ma ?_
  refine ρ1 sz31 ?_
  refine ez ?_
  refine sr fun _ => ?_
  refine mv ?_
  refine ARun.cmpS rfl rfl rfl rfl (ep rfl) (ep rfl) rfl optN ?_
  refine mv ?_
  refine ρt (fo := 0) U39 sz22 ?_
  refine ρr U22 ?_
  refine ARun.lenSl rfl rfl rfl rfl U22 (Ev.opt rfl (fun h => h)) optS ?_
  refine ρ9 ?_
  refine ρ0 ?_
  refine mv ?_
  refine ρt (fo := 1) U39 sz37 ?_
  refine ρr U37 ?_
  refine ARun.lenSl rfl rfl rfl rfl U37 (Ev.opt rfl (fun h => h)) optS ?_
  refine ρ9 ?_
  refine ρ0 ?_
  refine mv ?_
  refine ρk ?_
  refine ρk ?_
  refine ARun.cmpS rfl rfl rfl rfl (Ev.opt rfl (fun h => h)) (Ev.opt rfl (fun h => h)) rfl optS ?_
  refine ρ0 ?_
  refine mv ?_
  refine ARun.loadBoxA rfl rfl rfl rfl U39 rfl sz39 (ep rfl) ((hG.at _ _).trans rfl) rfl rfl optS ?_
  refine ARun.loadBoxA rfl rfl rfl rfl U39 rfl sz39 (ep rfl) ((hG.at _ _).trans rfl) rfl rfl optS ?_
  refine ARun.call rfl rfl rfl rfl cf16 (ep rfl) (.cons (Ev.opt rfl (fun h => h)) (.cons (Ev.opt rfl (fun h => h)) .nil)) rfl (fun hg => sameS_fn sS1 (applyP sS1 (⟨#[1, 1, 1, 7, 0, 5, 0]⟩ : ByteArray)).1 (by omega) (by omega)) optS ?_
  refine ρ0 ?_
  refine mv ?_
  refine ρk ?_
  refine ARun.lenSl rfl rfl rfl rfl U40 (Ev.opt rfl (fun h => h)) optS ?_
  refine ρ9 ?_
  refine ρ0 ?_
  refine mv ?_
  refine ρk ?_
  first | refine ARun.indexSl rfl rfl rfl rfl U40 sz9 (Ev.opt rfl (fun h => h)) (ep rfl) (fun _ => rfl) (fun hg => getMap _ _ _ (by (try simp at hg); omega)) rfl rfl optS ?_ | refine ARun.indexSl rfl rfl rfl rfl U40 sz9 (Ev.opt rfl (fun h => h)) (ep rfl) (fun hg => ofNonneg (by (try simp at hg); omega)) (fun hg => getMap _ _ _ (by (try simp at hg); omega)) rfl rfl optS ?_
  refine ρ8 U9 ?_
  refine ρk ?_
  refine ARun.cmpS rfl rfl rfl rfl (Ev.opt rfl (fun h => h)) (Ev.opt rfl (fun h => h)) rfl optS ?_
  refine ρ0 ?_
  refine mv ?_
  refine ρk ?_
  first | refine ARun.indexSl rfl rfl rfl rfl U40 sz9 (Ev.opt rfl (fun h => h)) (ep rfl) (fun _ => rfl) (fun hg => getMap _ _ _ (by (try simp at hg); omega)) rfl rfl optS ?_ | refine ARun.indexSl rfl rfl rfl rfl U40 sz9 (Ev.opt rfl (fun h => h)) (ep rfl) (fun hg => ofNonneg (by (try simp at hg); omega)) (fun hg => getMap _ _ _ (by (try simp at hg); omega)) rfl rfl optS ?_
  refine ρ8 U9 ?_
  refine ARun.cmpS rfl rfl rfl rfl (Ev.opt rfl (fun h => h)) (ep rfl) rfl optS ?_
  refine ρ0 ?_
  refine mv ?_
  refine ρt (fo := 0) U31 sz28 ?_
  refine ρr U28 ?_
  refine ρ9 ?_
  refine ρ0 ?_
  refine mv ?_
  refine ρk ?_
  refine ARun.lenSl rfl rfl rfl rfl U22 (Ev.opt rfl (fun h => h)) optS ?_
  refine ρ9 ?_
  refine ρ0 ?_
  refine mv ?_
  refine ARun.loadBoxA rfl rfl rfl rfl U39 rfl sz39 (ep rfl) ((hG.at _ _).trans rfl) rfl rfl optS ?_
  refine ρn cf18 (fun hg => chkS_fn sS1) ?_
  refine ρ9 ?_
  refine ρ0 ?_
  refine mv ?_
  refine ARun.build rfl rfl rfl rfl so64 .nil rfl rfl optS ?_
  refine ARun.buildSl rfl rfl rfl rfl U22 sz64 zv64 rfl (by decide) (.cons (Ev.opt rfl (fun h => h)) .nil) rfl rfl rfl rfl (by decide) rfl rfl optS ?_
  refine ARun.build rfl rfl rfl rfl so39 (.cons (Ev.opt rfl (fun h => h)) .nil) rfl rfl optS ?_
  refine ρn cf18 (fun hg => chkS_fn ([default], [])) ?_
  refine ρ9 ?_
  refine ρ0 ?_
  refine mv ?_
  refine ARun.loadBoxA rfl rfl rfl rfl U39 rfl sz39 (ep rfl) ((hG.at _ _).trans rfl) rfl rfl optS ?_
  refine ARun.loadBoxA rfl rfl rfl rfl U39 rfl sz39 (ep rfl) ((hG.at _ _).trans rfl) rfl rfl optS ?_
  refine ARun.call rfl rfl rfl rfl cf20 (ep rfl) (.cons (Ev.opt rfl (fun h => h)) (.cons (Ev.opt rfl (fun h => h)) .nil)) rfl (fun hg => sameV_fn sS1 (applyP sS1 (⟨#[1, 1, 1, 7, 0, 5, 0]⟩ : ByteArray)).1 (by omega) (by omega)) optS ?_
  refine ρ0 ?_
  refine mv ?_
  refine ARun.loadBoxA rfl rfl rfl rfl U39 rfl sz39 (ep rfl) ((hG.at _ _).trans rfl) rfl rfl optS ?_
  refine ARun.build rfl rfl rfl rfl so39 .nil rfl rfl optS ?_
  refine ARun.call rfl rfl rfl rfl cf20 (ep rfl) (.cons (Ev.opt rfl (fun h => h)) (.cons (Ev.opt rfl (fun h => h)) .nil)) rfl (fun hg => sameV_fn sS1 (([], []) : St) (by omega) (by omega)) optS ?_
  refine ARun.not rfl rfl rfl rfl (Ev.opt rfl (fun h => h)) optS ?_
  refine ρ0 ?_
  refine mz ?_
  refine AWP.ret ?_
  refine ρh ?_
  refine congrArg AV.bool ?_
  decide +kernel
set_option maxHeartbeats 1000000 in
theorem applies_fn (s t : St) (l : List ByteArray) : FnP Tryz.prog 4 [aSt s, aSt t, .sl (l.map AV.str)] (.bool true) := by
  refine FnP.of Tryz.func4 rfl rfl (by simp) (by simp [AV.cells, aIn, aOut, aLn, aCl, aRp, Stk.aIt, Ssn.aSe, aSt]) (fun G hG => ?_)
  have hN : NoH G.length (.bool true) := (by simp [AV.cells, aIn, aOut, aLn, aCl, aRp, Stk.aIt, Ssn.aSe, aSt])
  refine sr fun _ => ?_
  refine ARun.box (j := 0) hG rfl rfl rfl rfl rfl (ep rfl) rfl rfl optN ?_
  refine ρx ?_
  refine mz ?_
  refine AWP.seq ?_
  refine sr fun _ => ?_
  refine ρi U39 sz39 ?_
  refine ρm cf13 (fun hg => fewS_fn s) ?_
  refine ρC ?_
  refine mv ?_
  refine ARun.loadPeA rfl rfl rfl rfl U39 rfl sz39 (ep rfl) rfl optS ?_
  refine ρn cf13 (fun hg => fewS_fn t) ?_
  refine ARun.not rfl rfl rfl rfl (Ev.opt rfl (fun h => h)) optS ?_
  refine ρ3 ?_
  refine mv ?_
  refine ρk ?_
  refine ARun.lenSl rfl rfl rfl rfl U40 (Ev.opt rfl (fun h => h)) optS ?_
  refine ρ9 ?_
  refine ρ3 ?_
  refine ez ?_
  refine ρp (fun h0 => ?_) (fun h0 => ?_)
  · refine sr fun _ => ?_
    refine ARun.call rfl rfl rfl rfl cf8 (ep rfl) .nil rfl (fun hg => awake_fn) optN ?_
    refine mz ?_
    refine AWP.ret (thenA_r ?_)
    refine ρh ?_
    rfl
  simp only [Bool.or_eq_false_iff, Bool.not_eq_false', decide_eq_false_iff_not, List.length_map] at h0
  obtain ⟨⟨hf1, hf2⟩, hl30⟩ := h0
  obtain ⟨s1, s2, s3⟩ := fewS_facts hf1
  obtain ⟨t1, t2, t3⟩ := fewS_facts hf2
  refine AWP.skip (thenA_n (AWP.seq ?_))
  refine sr fun _ => ?_
  refine mz ?_
  refine AWP.block ?_
  refine AWP.rounds (fun k => k ≤ l.length ∧ ∀ j, j < k → (l.getD j default).size ≤ 2000) (fun k => [(2, .sl (l.map AV.str)), (3, .box (G.length + 0) 0), (4, .pe (aSt t).cells), (7, .int .i64 (k : Int))]) (fun k => [.box [.sl ((s).1.map Stk.aIt), .sl ((s).2.map Ssn.aSe)]]) (fun k => l.length - k) 1 0 ⟨Nat.zero_le _, fun j h => by omega⟩ (by repeat (first | exact .nil | refine .cons rfl ?_)) rfl (fun _ => rfl) (fun _ => ⟨by simp [AV.cells, aSt, Stk.aIt, Ssn.aSe], by simp [AO.conts, AV.cells, Stk.aIt, Ssn.aSe]⟩) (fun k hI => ?_)
  obtain ⟨hk, hno⟩ := hI
  refine AWP.seq ?_
  refine sr fun _ => ?_
  refine mv ?_
  refine mv ?_
  refine ρv U40 ?_
  refine ρ2 ?_
  refine ez ?_
  refine ρp (fun h1 => ?_) (fun h1 => ?_)
  · try simp [-List.getD_eq_getElem?_getD] at h1
    refine AWP.skip (thenA_n ?_)
    refine AWP.seq (AWP.block ?_)
    refine sr fun _ => ?_
    refine mv ?_
    refine mv ?_
    first | refine ρe U40 sz9 ?_ | refine ρ7 U40 sz9 ?_
    refine ρa U9 ?_
    refine ARun.lenStr rfl rfl rfl rfl U9 (ep rfl) optN ?_
    refine ρ2 ?_
    refine ez ?_
    refine ρp (fun h2 => ?_) (fun h2 => ?_)
    · try simp [-List.getD_eq_getElem?_getD] at h2
      refine sr fun _ => ?_
      refine ARun.call rfl rfl rfl rfl cf8 (ep rfl) .nil rfl (fun hg => awake_fn) optN ?_
      refine mz ?_
      refine AWP.ret (blockA_r ?_)
      refine thenA_r (thenA_r ?_)
      refine blockA_r (thenA_r ?_)
      refine ρh ?_
      rfl
    try simp [-List.getD_eq_getElem?_getD] at h2
    refine AWP.skip (blockA_n (thenA_n ?_))
    refine AWP.region (fun _ => ?_)
    refine mv ?_
    first | refine ρb ?_ | refine ρl ?_
    refine ma ?_
    refine ⟨_, _, rfl, hG, ?_⟩
    refine thenA_n ⟨rfl, k + 1, _, ?_, ?_, rfl, ?_⟩
    · refine ⟨by omega, fun j hj => ?_⟩
      by_cases e : j = k
      · subst e; omega
      exact hno j (by omega)
    · repeat (first | exact .nil | refine .cons rfl ?_)
    omega
  simp at h1
  obtain rfl : k = l.length := by omega
  have hs : ∀ x, x ∈ l → x.size ≤ 2000 := fun x hx => by
    obtain ⟨j, hj, rfl⟩ := List.mem_iff_getElem.1 hx
    have := hno j hj
    rwa [show l.getD j default = l[j] from by simp [List.getD, hj]] at this
  have hfl := fold_len s l (fun x hx => by have := hs x hx; omega) s1 s2
  have hxs : ∀ k, k < l.length → (l.getD k default).size ≤ 2000 := hno
  have hfa := hfl l.length (Nat.le_refl _)
  rw [List.take_length] at hfa
  obtain ⟨⟨fa1, fa2⟩, fa3⟩ := hfa
  refine AWP.exit ?_
  refine thenA_x ?_
  refine thenA_x ?_
  refine blockA_h ?_
  refine thenA_n ?_
  refine sr fun _ => ?_
  refine ρi U39 sz39 ?_
  refine mv ?_
  refine ρj cf14 ?_ (hF := fun hg => fold_fn s l (by omega) hs (by omega) (by omega))
  refine mv ?_
  refine ρ6 ?_
  refine ρ6 ?_
  refine ρo (j := 1) zv39 ?_
  refine ρ1 sz39 ?_
  refine mz ?_
  refine sr fun _ => ?_
  refine ρi U39 sz39 ?_
  refine mv ?_
  refine ρj cf15 ?_ (hF := fun hg => foldR_fn s l (by omega) hs (by omega) (by omega))
  refine mv ?_
  refine ρ6 ?_
  refine ρ6 ?_
  refine ρo (j := 2) zv39 ?_
  refine ρ1 sz39 ?_
  refine mz ?_
  refine AWP.seq (AWP.seq ?_)
  refine AWP.draw mixed (by kernel_rfl) (fun _ => ?_)
  refine ρi U39 sz39 ?_
  refine ρi U39 sz39 ?_
  refine ρj cf16 ?_ (hF := fun hg => sameS_fn (foldP s l).1 (foldP s l).1 (by omega) (by omega))
  refine ρC ?_
  refine mv ?_
  refine ρk ?_
  refine ρk ?_
  refine ARun.call rfl rfl rfl rfl cf17 (ep rfl) (.cons (Ev.opt rfl (fun h => h)) (.cons (Ev.opt rfl (fun h => h)) .nil)) rfl (fun hg => sameT_fn (foldP s l).2 (foldP s l).2 (by omega)) optS ?_
  refine ARun.not rfl rfl rfl rfl (Ev.opt rfl (fun h => h)) optS ?_
  refine ρ3 ?_
  refine mv ?_
  refine ARun.loadBoxA rfl rfl rfl rfl U39 rfl sz39 (ep rfl) ((hG.at _ _).trans rfl) rfl rfl optS ?_
  refine ρn cf18 (fun hg => chkS_fn s) ?_
  refine ARun.loadBoxA rfl rfl rfl rfl U39 rfl sz39 (ep rfl) ((hG.at _ _).trans rfl) rfl rfl optS ?_
  refine ρn cf19 (fun hg => chkR_fn s) ?_
  refine ρu ?_
  refine ρ3 ?_
  refine mv ?_
  refine ARun.loadBoxA rfl rfl rfl rfl U39 rfl sz39 (ep rfl) ((hG.at _ _).trans rfl) rfl rfl optS ?_
  refine ARun.loadPeA rfl rfl rfl rfl U39 rfl sz39 (ep rfl) rfl optS ?_
  refine ARun.call rfl rfl rfl rfl cf20 (ep rfl) (.cons (Ev.opt rfl (fun h => h)) (.cons (Ev.opt rfl (fun h => h)) .nil)) rfl (fun hg => sameV_fn s t (by omega) (by omega)) optS ?_
  refine ARun.loadBoxA rfl rfl rfl rfl U39 rfl sz39 (ep rfl) ((hG.at _ _).trans rfl) rfl rfl optS ?_
  refine ARun.loadPeA rfl rfl rfl rfl U39 rfl sz39 (ep rfl) rfl optS ?_
  refine ARun.call rfl rfl rfl rfl cf16 (ep rfl) (.cons (Ev.opt rfl (fun h => h)) (.cons (Ev.opt rfl (fun h => h)) .nil)) rfl (fun hg => sameS_fn s t (by omega) (by omega)) optS ?_
  refine ARun.cmpB rfl rfl rfl rfl U4 (Ev.opt rfl (fun h => h)) (Ev.opt rfl (fun h => h)) rfl optS ?_
  refine ρ3 ?_
  refine ⟨by kernel_rfl, _, _, rfl, hG, ?_⟩
  refine thenA_n ?_
  refine ρp (fun h3 => ?_) (fun h3 => ?_)
  · simp at h3
  refine AWP.skip (thenA_n (AWP.seq ?_))
  refine sr fun _ => ?_
  refine mz ?_
  refine AWP.block ?_
  refine AWP.rounds (fun st => st.1 ≤ l.length ∧ (foldP s (l.take st.1)).1 = st.2) (fun st => [(2, .sl (l.map AV.str)), (3, .box (G.length + 0) 0), (12, .int .i64 (st.1 : Int))]) (fun st => [.box [.sl ((st.2).1.map Stk.aIt), .sl ((st.2).2.map Ssn.aSe)], .box [.sl (((foldP s l).1).1.map Stk.aIt), .sl (((foldP s l).1).2.map Ssn.aSe)], .box [.sl (((foldP s l).1).1.map Stk.aIt), .sl (((foldP s l).1).2.map Ssn.aSe)]]) (fun st => l.length - st.1) 3 ((0, s) : Nat × St) ⟨Nat.zero_le _, rfl⟩ (by repeat (first | exact .nil | refine .cons rfl ?_)) rfl (fun _ => rfl) (fun _ => ⟨by simp [AV.cells], by simp [AO.conts, AV.cells, Stk.aIt, Ssn.aSe]⟩) (fun st hI => ?_)
  obtain ⟨k, cur⟩ := st
  dsimp only at hI
  show AWP _ _ _ _ _ [(2, .sl (l.map AV.str)), (3, .box (G.length + 0) 0), (12, .int .i64 (k : Int))] _ [.box [.sl ((cur).1.map Stk.aIt), .sl ((cur).2.map Ssn.aSe)], .box [.sl (((foldP s l).1).1.map Stk.aIt), .sl (((foldP s l).1).2.map Ssn.aSe)], .box [.sl (((foldP s l).1).1.map Stk.aIt), .sl (((foldP s l).1).2.map Ssn.aSe)]]
  obtain ⟨hk, hcur⟩ := hI
  have hfk := (hfl k hk).1
  rw [hcur] at hfk
  obtain ⟨hc1, hc2⟩ := hfk
  refine AWP.seq ?_
  refine sr fun _ => ?_
  refine mv ?_
  refine mv ?_
  refine ρv U40 ?_
  refine ρ2 ?_
  refine ez ?_
  refine ρp (fun h4 => ?_) (fun h4 => ?_)
  · simp at h4
    have hal := apply_len cur (l.getD k default) (by have := hxs k (by omega); omega) hc1 hc2
    obtain ⟨al1, al2⟩ := hal
    refine AWP.skip (thenA_n ?_)
    refine AWP.seq (AWP.block (AWP.seq ?_))
    refine AWP.draw mixed (by kernel_rfl) (fun _ => ?_)
    refine ρi U39 sz39 ?_
    refine mv ?_
    refine mv ?_
    first | refine ρe U40 sz9 ?_ | refine ρ7 U40 sz9 ?_
    refine ρa U9 ?_
    refine ρj cf21 ?_ (hF := fun hg => apply_fn cur (l.getD k default) (hxs k (by omega)) hc1 hc2)
    refine mv ?_
    refine ρ6 ?_
    refine ρ6 ?_
    refine ρo (j := 3) zv39 ?_
    refine ρ1 sz39 ?_
    refine ma ?_
    refine ⟨by kernel_rfl, _, _, rfl, hG, ?_⟩
    refine thenA_n (AWP.seq ?_)
    refine AWP.draw mixed (by kernel_rfl) (fun _ => ?_)
    refine ρi U39 sz39 ?_
    refine mv ?_
    refine mv ?_
    first | refine ρe U40 sz9 ?_ | refine ρ7 U40 sz9 ?_
    refine ρa U9 ?_
    refine ρj cf22 ?_ (hF := fun hg => applyR_fn cur (l.getD k default) (hxs k (by omega)) hc1 hc2)
    refine mv ?_
    refine ρ6 ?_
    refine ρ6 ?_
    refine ρo (j := 4) zv39 ?_
    refine ρ1 sz39 ?_
    refine ma ?_
    refine ⟨by kernel_rfl, _, _, rfl, hG, ?_⟩
    refine thenA_n (AWP.seq ?_)
    refine sr fun _ => ?_
    refine ρi U39 sz39 ?_
    refine ρi U39 sz39 ?_
    refine ρj cf16 ?_ (hF := fun hg => sameS_fn (applyP cur (l.getD k default)).1 (applyP cur (l.getD k default)).1 (by omega) (by omega))
    refine ρC ?_
    refine mv ?_
    refine ρk ?_
    refine ρk ?_
    refine ARun.cmpS rfl rfl rfl rfl (Ev.opt rfl (fun h => h)) (Ev.opt rfl (fun h => h)) rfl optS ?_
    refine ρ3 ?_
    refine ez ?_
    refine ρp (fun h5 => ?_) (fun h5 => ?_)
    · simp at h5
    refine AWP.skip (thenA_n ?_)
    refine AWP.region (fun _ => ?_)
    refine ρi U39 sz39 ?_
    refine ρ1 sz39 ?_
    refine ⟨_, _, rfl, hG, ?_⟩
    refine blockA_n (thenA_n ?_)
    refine AWP.region (fun _ => ?_)
    refine mv ?_
    first | refine ρb ?_ | refine ρl ?_
    refine ma ?_
    refine ⟨_, _, rfl, hG, ?_⟩
    refine thenA_n ⟨rfl, (k + 1, (applyP cur (l.getD k default)).1), _, ?_, ?_, rfl, ?_⟩
    · refine ⟨by dsimp only; omega, ?_⟩
      rw [fold_at s l k (by omega)]
      show (applyP (foldP s (l.take k)).1 _).1 = _
      rw [hcur]
    · repeat (first | exact .nil | refine .cons rfl ?_)
    dsimp only; omega
  refine AWP.exit ?_
  refine thenA_x ?_
  refine thenA_x ?_
  refine blockA_h ?_
  refine thenA_n ?_
  refine sr fun _ => ?_
  refine ARun.call rfl rfl rfl rfl cf8 (ep rfl) .nil rfl (fun hg => awake_fn) optN ?_
  refine mz ?_
  refine AWP.ret ?_
  refine ρh ?_
  rfl
end Go.Proofs.YtgebpndhnkkbgaaGreatDoor
namespace Go.Proofs.YtgebpndhnkkbgaaGreatDoor
set_option linter.unusedVariables false
set_option linter.unusedSimpArgs false
open Go.ChangeShapes Go.WideShapes Go.ChangeAt Go.RowKit
set_option maxRecDepth 100000
theorem exists_list {α : Type} {Q : Nat → α → Prop} (n : Nat) (h : ∀ i, i < n → ∃ x, Q i x) : ∃ l : List α, l.length = n ∧ ∀ i, (hi : i < l.length) → Q i l[i] := by
  induction n with
  | zero => exact ⟨[], rfl, fun i hi => absurd hi (Nat.not_lt_zero i)⟩
  | succ n ih =>
    obtain ⟨l, hl, hq⟩ := ih fun i hi => h i (by omega)
    obtain ⟨x, hx⟩ := h n (by omega)
    refine ⟨l ++ [x], by simp [hl], fun i hi => ?_⟩
    by_cases e : i < l.length
    · rw [List.getElem_append_left e]; exact hq i e
    · obtain rfl : i = l.length := by simp at hi; omega
      rw [List.getElem_append_right (Nat.le_refl _)]
      simpa [hl] using hx
def fit1 (x : Int) : Prop := -9223372036854775808 ≤ x ∧ x ≤ 9223372036854775807
end Go.Proofs.YtgebpndhnkkbgaaGreatDoor
namespace Go.Proofs.YtgebpndhnkkbgaaGreatDoor
set_option linter.unusedVariables false
set_option linter.unusedSimpArgs false
open Go.ChangeShapes Go.WideShapes Go.ChangeAt Go.RowKit
def CL (W : World) (cs : List Value) (ys : List AV) : Prop := cs.length = ys.length ∧ ∀ (j : Nat) (u : Value) (z : AV), cs[j]? = some u → ys[j]? = some z → VRep [] W u z
theorem CL.one {W : World} {u : Value} {z : AV} (h : VRep [] W u z) : CL W [u] [z] := ⟨rfl, fun j u' z' h1 h2 => by
  cases j with
  | zero => simp at h1 h2; subst h1 h2; exact h
  | succ j => simp at h1⟩
theorem CL.join {W : World} {l : List Value} {o s o2 : Nat} {a b : List AV} (h : CL W ((l.drop o).take s) a) (k : CL W (l.drop o2) b) (e : o2 = o + s) (hs : a.length = s) : CL W (l.drop o) (a ++ b) := by
  subst e
  obtain ⟨h1, h2⟩ := h
  obtain ⟨k1, k2⟩ := k
  have e1 : l.drop o = (l.drop o).take s ++ l.drop (o + s) := by rw [← List.drop_drop, List.take_append_drop]
  have hl : ((l.drop o).take s).length = s := by rw [h1, hs]
  refine ⟨by rw [e1, List.length_append, h1, k1, List.length_append], fun j u z p q => ?_⟩
  rw [e1] at p
  by_cases hj : j < s
  · rw [List.getElem?_append_left (by omega)] at p
    rw [List.getElem?_append_left (by omega)] at q
    exact h2 j u z p q
  · rw [List.getElem?_append_right (by omega), hl] at p
    rw [List.getElem?_append_right (by omega), hs] at q
    exact k2 _ u z p q
theorem CL.last {W : World} {l : List Value} {o s : Nat} {a : List AV} (h : CL W ((l.drop o).take s) a) (hl : l.length = o + s) : CL W (l.drop o) a := by
  rwa [List.take_of_length_le (by simp; omega)] at h
def Opn (P : Program) (T : TypeId) {α : Type} (av : α → AV) (good : α → Prop) : Prop :=
  ∀ {H : Type} (encH : TypeId × Value → H) (W : World) (bb : Nat) (spare : Nat → Bool) (held : Bool) (m : Nat) (cs : List Value) (y : DataW H × List MemPlace), DataW.trod encH P W bb spare held m T cs = some y → ∃ x : α, CL W cs (av x).cells ∧ good x
theorem opn_i64 {P : Program} {T : TypeId} (ht : P.underlying T = some (.int .i64)) : Opn P T (AV.int .i64) fit1 := by
  intro H encH W bb spare held m cs y h
  obtain ⟨n, rfl, _, hw⟩ := DataW.trod_int ht h
  exact ⟨n, CL.one (.int _ _), wf64 hw⟩
theorem opn_str {P : Program} {T : TypeId} (ht : P.underlying T = some .string) : Opn P T AV.str (fun s => s.size ≤ maxLen) := by
  intro H encH W bb spare held m cs y h
  obtain ⟨n, rfl, _, hw⟩ := DataW.trod_string ht h
  exact ⟨n, CL.one (.str _), hw⟩
theorem opn_slice {P : Program} {T e : TypeId} {α : Type} {av : α → AV} {good : α → Prop} {z : Nat} (ht : P.underlying T = some (.slice e)) (hc : P.cellsOf e = z) (hz0 : 0 < z) (hz : ∀ x, (av x).cells.length = z) (he : Opn P e av good) :
    Opn P T (fun l : List α => .sl (l.map av)) (fun l => l.length ≤ maxLen ∧ ∀ x, x ∈ l → good x) := by
  intro H encH W bb spare held m cs y h
  rcases DataW.trod_slice ht h with ⟨rfl, _⟩ | ⟨x, len, cap, elems, rest, n, _, rfl, _, _, hl, hm, hlen, hgot, _, _⟩
  · exact ⟨[], CL.one .slnil, Nat.zero_le _, fun x hx => by cases hx⟩
  · have each : ∀ i, i < len → ∃ y : α, good y ∧ ∃ cs, W.cells? bb (x.add (i * z)) z = some cs ∧ CL W cs (av y).cells := by
      intro i hi
      have h1 := hgot i hi
      rw [hc, List.getElem?_eq_getElem (by omega), Option.bind_eq_some_iff] at h1
      obtain ⟨cs, h2, h3⟩ := h1
      obtain ⟨y, hy, hg⟩ := he encH W bb spare held n cs _ h3
      exact ⟨y, hg, cs, h2, hy⟩
    obtain ⟨xs, hxl, hxs⟩ := exists_list len each
    subst hxl
    refine ⟨xs, CL.one ?_, by omega, fun y hy => ?_⟩
    · by_cases h0 : xs = []
      · subst h0; exact .slemp x cap hm
      · have hpos : 0 < xs.length := List.length_pos_iff.2 h0
        obtain ⟨_, cs0, g2, g3⟩ := hxs 0 hpos
        obtain ⟨_, gl, gcell⟩ := World.cells?_some g2
        have g4 := gcell 0 hz0
        rw [List.getElem?_eq_getElem (by omega)] at g4
        have e1 : (x.add (0 * z)).add 0 = x := by simp [Addr.add]
        rw [e1] at g4
        have hs1 := World.cell?_spot g4
        obtain ⟨b, off, spot⟩ := x
        simp only at hs1
        subst hs1
        have hb := World.block_lt_of_cell? W _ g4
        have hcell : ∀ (i j : Nat) (X y : AV), (xs.map av)[i]? = some X → X.cells[j]? = some y → ∃ u, W.cell? ⟨b, off + i * z + j, none⟩ = some u ∧ VRep [] W u y := by
          intro i j X y hi hj
          rw [List.getElem?_map, Option.map_eq_some_iff] at hi
          obtain ⟨q, hq, rfl⟩ := hi
          have hlt := (List.getElem?_eq_some_iff.1 hq).1
          obtain ⟨_, cs, c1, c2, c3⟩ := hxs i hlt
          have hqe : xs[i] = q := by rw [List.getElem?_eq_getElem hlt] at hq; exact Option.some.inj hq
          rw [hqe] at c2 c3
          obtain ⟨_, cl, ccell⟩ := World.cells?_some c1
          have hjz : j < z := by have := (List.getElem?_eq_some_iff.1 hj).1; rw [hz] at this; exact this
          have h3 := ccell j hjz
          rw [addr_add, addr_add] at h3
          rw [h3, List.getElem?_eq_getElem (by omega)]
          exact ⟨_, rfl, c3 j _ y (List.getElem?_eq_getElem (by omega)) hj⟩
        have : VRep [] W (.slice (some ⟨b, off, none⟩) (xs.map av).length cap) (.sl (xs.map av)) := by
          refine .sl b off cap z _ (by rw [List.length_map]; omega) hm hb (fun h hh => by cases hh) (fun X hX => ?_) (fun i j X y hi hj => ?_) (fun i j X y u hi hj hu => ?_)
          · obtain ⟨q, _, rfl⟩ := List.mem_map.1 hX
            exact hz q
          · obtain ⟨u, h1, _⟩ := hcell i j X y hi hj
            exact ⟨u, h1⟩
          · obtain ⟨u', h1, h2⟩ := hcell i j X y hi hj
            rw [h1] at hu; cases hu; exact h2
        rwa [List.length_map] at this
    · obtain ⟨i, hi, rfl⟩ := List.getElem_of_mem hy
      exact (hxs i hi).1
section
variable {P : Program} {T : TypeId} {α : Type} {av : α → AV} {good : α → Prop} {H : Type} {encH : TypeId × Value → H} {W : World} {b0 bb : Nat} {spare : Nat → Bool} {held : Bool} {v : Value} {d : DataW H} {p : List MemPlace} {r : Reach}
theorem top_one (ho : Opn P T av good) (hc : v.cells = #[v]) (h1 : ∀ x, (av x).cells = [av x]) (h : DataW.Trod encH P W bb spare held T v d p) : ∃ x : α, VRep [] W v (av x) ∧ good x := by
  obtain ⟨fuel, hf⟩ := h
  obtain ⟨x, hx, hg⟩ := ho encH W bb spare held fuel _ _ hf
  rw [hc, h1] at hx
  exact ⟨x, hx.2 0 _ _ rfl rfl, hg⟩
theorem top_slice {e : TypeId} (ht : P.underlying T = some (.slice e)) (ho : Opn P T av good) (h1 : ∀ x, (av x).cells = [av x]) (hv : Value.okWide P W r b0 T v) (h : DataW.Trod encH P W bb spare held T v d p) : ∃ x : α, VRep [] W v (av x) ∧ good x := by
  obtain ⟨a, l, c, rfl⟩ := okWide_slice ht hv
  exact top_one ho rfl h1 h
theorem top_agg {u : TypeDesc} (ht : P.underlying T = some u) (hA : isA u = true) (ho : Opn P T av good) (h1 : ∀ x, av x = .agg (av x).cells) (hv : Value.okWide P W r b0 T v) (h : DataW.Trod encH P W bb spare held T v d p) : ∃ x : α, VRep [] W v (av x) ∧ good x := by
  have hv2 : ∃ cs : Array Value, v = .agg cs := by
    simp only [Value.okWide, ht] at hv
    cases u <;> cases hA
    · obtain ⟨cs, h1, _⟩ := hv; exact ⟨cs, h1⟩
    · obtain ⟨cs, h1, _⟩ := hv; exact ⟨cs, h1⟩
  obtain ⟨cs, rfl⟩ := hv2
  obtain ⟨fuel, hf⟩ := h
  obtain ⟨x, hx, hg⟩ := ho encH W bb spare held fuel _ _ hf
  refine ⟨x, ?_, hg⟩
  rw [h1 x]
  exact .agg _ _ (by have := hx.1; simpa [Value.cells] using this) fun j u' z k1 k2 => hx.2 j u' z (by simpa [Value.cells] using k1) k2
end
end Go.Proofs.YtgebpndhnkkbgaaGreatDoor
namespace Go.Proofs.YtgebpndhnkkbgaaGreatDoor
set_option linter.unusedVariables false
set_option linter.unusedSimpArgs false
open Go.ChangeShapes Go.WideShapes Go.ChangeAt Go.RowKit
set_option maxRecDepth 100000
theorem cz3 : Tryz.prog.cellsOf 3 = 1 := by kernel_rfl
theorem cz9 : Tryz.prog.cellsOf 9 = 1 := by kernel_rfl
theorem cz22 : Tryz.prog.cellsOf 22 = 1 := by kernel_rfl
theorem cz37 : Tryz.prog.cellsOf 37 = 1 := by kernel_rfl
theorem cz39 : Tryz.prog.cellsOf 39 = 2 := by kernel_rfl
theorem cz60 : Tryz.prog.cellsOf 60 = 3 := by kernel_rfl
theorem cz64 : Tryz.prog.cellsOf 64 = 4 := by kernel_rfl
def good_Stk.aIt (x : StockP.It) : Prop := (fit1) x.id ∧ (fit1) x.free ∧ (fit1) x.held ∧ (fit1) x.gone
theorem opn_Stk.aIt : Opn Tryz.prog 64 Stk.aIt good_Stk.aIt := by
  intro H encH W bb spare held m cs y h
  obtain ⟨xs, m2, _, _, hl, hxl, hel⟩ := DataW.trod_struct U64 h
  have hn : xs.length = 4 := hxl
  rw [cz64] at hl
  have h0 : DataW.trod encH Tryz.prog W bb spare held m2 3 ((cs.drop 0).take (Tryz.prog.cellsOf 3)) = xs[0]? := hel 0 _ rfl
  rw [List.getElem?_eq_getElem (by omega), cz3] at h0
  obtain ⟨x0, c0, g0⟩ := (opn_i64 U3) encH W bb spare held _ _ _ h0
  have h1 : DataW.trod encH Tryz.prog W bb spare held m2 3 ((cs.drop 1).take (Tryz.prog.cellsOf 3)) = xs[1]? := hel 1 _ rfl
  rw [List.getElem?_eq_getElem (by omega), cz3] at h1
  obtain ⟨x1, c1, g1⟩ := (opn_i64 U3) encH W bb spare held _ _ _ h1
  have h2 : DataW.trod encH Tryz.prog W bb spare held m2 3 ((cs.drop 2).take (Tryz.prog.cellsOf 3)) = xs[2]? := hel 2 _ rfl
  rw [List.getElem?_eq_getElem (by omega), cz3] at h2
  obtain ⟨x2, c2, g2⟩ := (opn_i64 U3) encH W bb spare held _ _ _ h2
  have h3 : DataW.trod encH Tryz.prog W bb spare held m2 3 ((cs.drop 3).take (Tryz.prog.cellsOf 3)) = xs[3]? := hel 3 _ rfl
  rw [List.getElem?_eq_getElem (by omega), cz3] at h3
  obtain ⟨x3, c3, g3⟩ := (opn_i64 U3) encH W bb spare held _ _ _ h3
  have d3 := CL.last c3 (by rw [hl])
  have d2 := CL.join c2 d3 rfl rfl
  have d1 := CL.join c1 d2 rfl rfl
  have d0 := CL.join c0 d1 rfl rfl
  rw [List.drop_zero] at d0
  exact ⟨⟨x0, x1, x2, x3⟩, d0, g0, g1, g2, g3⟩

def good_Ssn.aSe (x : SessP.Se) : Prop := (fit1) x.client ∧ (fit1) x.seq ∧ (fun s => s.size ≤ maxLen) x.reply
theorem opn_Ssn.aSe : Opn Tryz.prog 60 Ssn.aSe good_Ssn.aSe := by
  intro H encH W bb spare held m cs y h
  obtain ⟨xs, m2, _, _, hl, hxl, hel⟩ := DataW.trod_struct U60 h
  have hn : xs.length = 3 := hxl
  rw [cz60] at hl
  have h0 : DataW.trod encH Tryz.prog W bb spare held m2 3 ((cs.drop 0).take (Tryz.prog.cellsOf 3)) = xs[0]? := hel 0 _ rfl
  rw [List.getElem?_eq_getElem (by omega), cz3] at h0
  obtain ⟨x0, c0, g0⟩ := (opn_i64 U3) encH W bb spare held _ _ _ h0
  have h1 : DataW.trod encH Tryz.prog W bb spare held m2 3 ((cs.drop 1).take (Tryz.prog.cellsOf 3)) = xs[1]? := hel 1 _ rfl
  rw [List.getElem?_eq_getElem (by omega), cz3] at h1
  obtain ⟨x1, c1, g1⟩ := (opn_i64 U3) encH W bb spare held _ _ _ h1
  have h2 : DataW.trod encH Tryz.prog W bb spare held m2 9 ((cs.drop 2).take (Tryz.prog.cellsOf 9)) = xs[2]? := hel 2 _ rfl
  rw [List.getElem?_eq_getElem (by omega), cz9] at h2
  obtain ⟨x2, c2, g2⟩ := (opn_str U9) encH W bb spare held _ _ _ h2
  have d2 := CL.last c2 (by rw [hl])
  have d1 := CL.join c1 d2 rfl rfl
  have d0 := CL.join c0 d1 rfl rfl
  rw [List.drop_zero] at d0
  exact ⟨⟨x0, x1, x2⟩, d0, g0, g1, g2⟩

def good_aSt (x : St) : Prop := (fun l => l.length ≤ maxLen ∧ ∀ x, x ∈ l → (good_Stk.aIt) x) x.1 ∧ (fun l => l.length ≤ maxLen ∧ ∀ x, x ∈ l → (good_Ssn.aSe) x) x.2
theorem opn_aSt : Opn Tryz.prog 39 aSt good_aSt := by
  intro H encH W bb spare held m cs y h
  obtain ⟨xs, m2, _, _, hl, hxl, hel⟩ := DataW.trod_struct U39 h
  have hn : xs.length = 2 := hxl
  rw [cz39] at hl
  have h0 : DataW.trod encH Tryz.prog W bb spare held m2 22 ((cs.drop 0).take (Tryz.prog.cellsOf 22)) = xs[0]? := hel 0 _ rfl
  rw [List.getElem?_eq_getElem (by omega), cz22] at h0
  obtain ⟨x0, c0, g0⟩ := (opn_slice U22 cz64 (by decide) (fun _ => rfl) opn_Stk.aIt) encH W bb spare held _ _ _ h0
  have h1 : DataW.trod encH Tryz.prog W bb spare held m2 37 ((cs.drop 1).take (Tryz.prog.cellsOf 37)) = xs[1]? := hel 1 _ rfl
  rw [List.getElem?_eq_getElem (by omega), cz37] at h1
  obtain ⟨x1, c1, g1⟩ := (opn_slice U37 cz60 (by decide) (fun _ => rfl) opn_Ssn.aSe) encH W bb spare held _ _ _ h1
  have d1 := CL.last c1 (by rw [hl])
  have d0 := CL.join c0 d1 rfl rfl
  rw [List.drop_zero] at d0
  exact ⟨⟨x0, x1⟩, d0, g0, g1⟩

end Go.Proofs.YtgebpndhnkkbgaaGreatDoor
namespace Go.Proofs.YtgebpndhnkkbgaaGreatDoor
set_option linter.unusedVariables false
set_option linter.unusedSimpArgs false
open Go.RowKit
open NumP
open Go.WideShapes
set_option maxRecDepth 100000
theorem serviceApplies_law (W : World) (hg : GOk [] W) (v0 : Value) (x0 : St) (rp0 : VRep [] W v0 (aSt x0)) (gd0 : (good_aSt) x0) (v1 : Value) (x1 : St) (rp1 : VRep [] W v1 (aSt x1)) (gd1 : (good_aSt) x1) (v2 : Value) (x2 : (List ByteArray)) (rp2 : VRep [] W v2 ((fun l : List ByteArray => AV.sl (l.map AV.str)) x2)) (gd2 : (fun l => l.length ≤ maxLen ∧ ∀ x, x ∈ l → (fun s => s.size ≤ maxLen) x) x2) :
    Calls Tryz.prog 4 #[v0, v1, v2] W fun e W' => e = .returned (.bool true) ∧ Below W.heap.size W W' := by
  skip
  exact law_of_fn (applies_fn x0 x1 x2 ) hg (.cons rp0 (.cons rp1 (.cons rp2 (.nil))))
end Go.Proofs.YtgebpndhnkkbgaaGreatDoor
