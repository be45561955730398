/- The texts that the law ServiceDoes rests on, part 5: AmServ, ServLaw, AmServL, AmServM, Open, Opn, OpnS, AmServE. -/
import Derived.Test.YtgebpndhnkkbgaaGreatDoorSvD4
import Derived.ChangeOld
import Derived.DataReads
import Derived.ChangeArms
open Go.Proofs.Tryz renaming underlying3 → U3, underlying9 → U9, underlying22 → U22, underlying23 → U23, underlying25 → U25, underlying28 → U28, underlying29 → U29, underlying31 → U31, underlying37 → U37, underlying39 → U39, underlying40 → U40, underlying53 → U53, underlying64 → U64, underlying108 → U108
namespace Go.Proofs.YtgebpndhnkkbgaaGreatDoor
set_option linter.unusedVariables false
set_option linter.unusedSimpArgs false
open Go.RowKit
open NumP
set_option maxRecDepth 100000
def aSt (s : St) : AV := .agg [.sl (s.1.map Stk.aIt), .sl (s.2.map Ssn.aSe)]
theorem cloneIt_fn (l : Its) (hl : l.length ≤ 1000000) : FnP Tryz.prog 51 [.sl (l.map Stk.aIt)] (.sl (l.map Stk.aIt)) :=
  FnP.of_owns Stk.encIt Stk.aIt 4 Stk.encIt_len (fun x => rfl) (fun x u hu => by simp [Stk.encIt] at hu; rcases hu with rfl | rfl | rfl | rfl <;> rfl) l (fun w a cap hr _ _ _ => Stk.cloneIt_any a cap l w hr hl)
theorem takeErr_none (s : ByteArray) : (takeErr s).isNone = decide (takeE s = 0) := by
  unfold takeErr takeE
  split
  · rw [wrap_none, errOf_none]
  split
  · rw [new_none]
  rw [wrap_none, new_none]
theorem okE_two {l : Its} (h : ¬ Stk.okE l = 0) : Stk.okE l = 2 := by unfold Stk.okE at h ⊢; split <;> simp_all
theorem chk_two {s : St} (h : ¬ chkP s = 0) : chkP s = 2 := by unfold chkP at h ⊢; split <;> simp_all
theorem do_0 {l : Its} {c : Cl} (h : ¬ Stk.okE l = 0) : doP l c = (l, ⟨2, []⟩) := if_neg h
theorem do_1 {l : Its} {c : Cl} (h : Stk.okE l = 0) (h1 : ¬ checkP c = 0) : doP l c = (l, ⟨checkP c, []⟩) := by unfold doP; rw [if_pos h, if_neg h1]
theorem do_2 {l : Its} {c : Cl} (h : Stk.okE l = 0) (h1 : checkP c = 0) : doP l c = kindR l c := by unfold doP; rw [if_pos h, if_pos h1]
theorem kind_6 {l : Its} {c : Cl} (h : c.kind = 6) : kindR l c = moveR l c := if_pos h
theorem kind_7 {l : Its} {c : Cl} (h : c.kind = 7) : kindR l c = queryR l c := by unfold kindR; rw [if_neg (by omega), if_pos h]
theorem kind_8 {l : Its} {c : Cl} (h : c.kind = 8) : kindR l c = orderR l c := by unfold kindR; rw [if_neg (by omega), if_neg (by omega), if_pos h]
theorem kind_o {l : Its} {c : Cl} (h : c.kind ≠ 6 ∧ c.kind ≠ 7 ∧ c.kind ≠ 8) : kindR l c = oneR l c := by unfold kindR; rw [if_neg h.1, if_neg h.2.1, if_neg h.2.2]
theorem oneR_y {l : Its} {c : Cl} {m : Its × Int} (hm : oneP l c = m) (h : m.2 = 0) : oneR l c = (m.1, ⟨0, numsP m.1 c.item⟩) := by subst hm; exact if_pos h
theorem oneR_n {l : Its} {c : Cl} {m : Its × Int} (hm : oneP l c = m) (h : ¬ m.2 = 0) : oneR l c = (l, ⟨m.2, []⟩) := by subst hm; exact if_neg h
theorem one_1 {l : Its} {c : Cl} (h : c.kind = 1) : oneP l c = Stk.createP l c.item c.qty := if_pos h
theorem one_2 {l : Its} {c : Cl} (h : c.kind = 2) : oneP l c = StockP.withP (StockP.inG c.qty) l c.item c.qty := by unfold oneP; rw [if_neg (by omega), if_pos h]
theorem one_3 {l : Its} {c : Cl} (h : c.kind = 3) : oneP l c = StockP.withP (StockP.holdG c.qty) l c.item c.qty := by unfold oneP; rw [if_neg (by omega), if_neg (by omega), if_pos h]
theorem one_4 {l : Its} {c : Cl} (h : c.kind = 4) : oneP l c = StockP.withP (StockP.freeG c.qty) l c.item c.qty := by unfold oneP; rw [if_neg (by omega), if_neg (by omega), if_neg (by omega), if_pos h]
theorem one_5 {l : Its} {c : Cl} (h : c.kind = 5) : oneP l c = StockP.withP (StockP.shipG c.qty) l c.item c.qty := by unfold oneP; rw [if_neg (by omega), if_neg (by omega), if_neg (by omega), if_neg (by omega)]
theorem one_len (l : Its) (i q : Int) : (Stk.createP l i q).1.length ≤ l.length + 1 ∧ (StockP.withP (StockP.inG q) l i q).1.length ≤ l.length ∧ (StockP.withP (StockP.holdG q) l i q).1.length ≤ l.length ∧ (StockP.withP (StockP.freeG q) l i q).1.length ≤ l.length ∧ (StockP.withP (StockP.shipG q) l i q).1.length ≤ l.length := ⟨Stk.create_len l i q, Stk.with_len _ l i q, Stk.with_len _ l i q, Stk.with_len _ l i q, Stk.with_len _ l i q⟩
theorem goesM_2 (l : Its) (id q : Int) : Stk.goesM l id q 2 = StockP.withP (StockP.freeG q) l id q := by unfold Stk.goesM; rw [if_neg (by decide), if_pos rfl]
theorem goesM_3 (l : Its) (id q : Int) : Stk.goesM l id q 3 = StockP.withP (StockP.shipG q) l id q := by unfold Stk.goesM; rw [if_neg (by decide), if_neg (by decide)]
set_option maxHeartbeats 1000000 in
theorem toldS_fn (l : Its) (id : Int) (hl : l.length ≤ 1000) : FnP Tryz.prog 106 [.sl (l.map Stk.aIt), .int .i64 id] (aRp ⟨0, numsP l id⟩) := by
  refine FnP.of Tryz.func106 rfl rfl (by simp) (by simp [AV.cells, aIn, aOut, aLn, aCl, aRp, Stk.aIt, Ssn.aSe, aSt]) (fun G hG => ?_)
  have hN : NoH G.length (aRp ⟨0, numsP l id⟩) := (by simp [AV.cells, aIn, aOut, aLn, aCl, aRp, Stk.aIt, Ssn.aSe, aSt])
  refine sr fun _ => ?_
  refine ρs (j := 0) zv31 ?_
  refine ez ?_
  refine sr fun _ => ?_
  refine mv ?_
  refine mv ?_
  refine ρi cf105 ?_ (hF := fun hg => Stk.find_fn l id (by omega))
  refine mv ?_
  refine ρ9 ?_
  refine ρ9 ?_
  refine ρs (j := 1) zv64 ?_
  refine ρ2 sz64 ?_
  refine mz ?_
  refine sr fun _ => ?_
  refine ρ7 (fo := 1) U64 sz3 ?_
  refine ρf U3 ?_
  refine ρ7 (fo := 2) U64 sz3 ?_
  refine ρf U3 ?_
  refine ρ7 (fo := 3) U64 sz3 ?_
  refine ρf U3 ?_
  refine ARun.buildSl rfl rfl rfl rfl U29 sz3 zv3 rfl (by decide) (.cons (ep rfl) (.cons (ep rfl) (.cons (ep rfl) .nil))) rfl rfl rfl rfl (by decide) rfl rfl optN ?_
  refine ρi cf27 ?_ (hF := fun hg => told_fn 0 [(tF l id).free, (tF l id).held, (tF l id).gone] (by simp))
  refine ρ2 sz31 ?_
  refine ez ?_
  refine AWP.ret ?_
  refine endF.one (.inr rfl) rfl (.cellA rfl ((hG.at _ _).trans rfl) U31 rfl sz31 rfl rfl) ?_ hN
  rfl
set_option maxHeartbeats 1000000 in
theorem numbers_fn (l : Its) (id : Int) (hl : l.length ≤ 1000) : FnP Tryz.prog 40 [.sl (l.map Stk.aIt), .int .i64 id] (.sl ((numsP l id).map (AV.int .i64))) := by
  refine FnP.of Tryz.func40 rfl rfl (by simp) (by simp [AV.cells, aIn, aOut, aLn, aCl, aRp, Stk.aIt, Ssn.aSe, aSt]) (fun G hG => ?_)
  have hN : NoH G.length (.sl ((numsP l id).map (AV.int .i64))) := (by simp [AV.cells, aIn, aOut, aLn, aCl, aRp, Stk.aIt, Ssn.aSe, aSt])
  refine sr fun _ => ?_
  refine mz ?_
  refine sr fun _ => ?_
  refine mv ?_
  refine mv ?_
  refine ρi cf37 ?_ (hF := fun hg => Stk.findR_fn l id (by omega))
  refine mv ?_
  refine ρ9 ?_
  refine ρ9 ?_
  refine ρs (j := 0) zv64 ?_
  refine ρ2 sz64 ?_
  refine mz ?_
  refine sr fun _ => ?_
  refine ρ7 (fo := 1) U64 sz3 ?_
  refine ρf U3 ?_
  refine ρ7 (fo := 2) U64 sz3 ?_
  refine ρf U3 ?_
  refine ρ7 (fo := 3) U64 sz3 ?_
  refine ρf U3 ?_
  refine ARun.buildSl rfl rfl rfl rfl U29 sz3 zv3 rfl (by decide) (.cons (ep rfl) (.cons (ep rfl) (.cons (ep rfl) .nil))) rfl rfl rfl rfl (by decide) rfl rfl optN ?_
  refine mz ?_
  refine AWP.ret ?_
  refine ρd ?_
  rfl
set_option maxHeartbeats 1000000 in
theorem toldR_fn (e : Int) (l : List Int) : FnP Tryz.prog 31 [.int .i64 e, .sl (l.map (AV.int .i64))] (aRp ⟨e, l⟩) := by
  refine FnP.of Tryz.func31 rfl rfl (by simp) (by simp [AV.cells, aIn, aOut, aLn, aCl, aRp, Stk.aIt, Ssn.aSe, aSt]) (fun G hG => ?_)
  have hN : NoH G.length (aRp ⟨e, l⟩) := (by simp [AV.cells, aIn, aOut, aLn, aCl, aRp, Stk.aIt, Ssn.aSe, aSt])
  refine sr fun _ => ?_
  refine ρs (j := 0) zv31 ?_
  refine ez ?_
  refine sr fun _ => ?_
  refine mv ?_
  refine mv ?_
  refine ARun.build rfl rfl rfl rfl so31 (.cons (ep rfl) (.cons (ep rfl) .nil)) rfl rfl optN ?_
  refine ρ2 sz31 ?_
  refine ez ?_
  refine AWP.ret ?_
  refine endF.one (.inr rfl) rfl (.cellA rfl ((hG.at _ _).trans rfl) U31 rfl sz31 rfl rfl) ?_ hN
  rfl
set_option maxHeartbeats 1000000 in
theorem one1_fn (l : Its) (c : Cl) (hl : l.length ≤ 100) (hk : c.kind = 1) : FnP Tryz.prog 71 [.sl (l.map Stk.aIt), aCl c] (.tup [.sl ((oneR l c).1.map Stk.aIt), aRp (oneR l c).2]) := by
  have hol := one_len l c.item c.qty
  refine FnP.of Tryz.func71 rfl rfl (by simp) (by simp [AV.cells, aIn, aOut, aLn, aCl, aRp, Stk.aIt, Ssn.aSe, aSt]) (fun G hG => ?_)
  have hN : NoH G.length (.tup [.sl ((oneR l c).1.map Stk.aIt), aRp (oneR l c).2]) := (by simp [AV.cells, aIn, aOut, aLn, aCl, aRp, Stk.aIt, Ssn.aSe, aSt])
  refine sr fun _ => ?_
  refine ρy ?_
  refine ma ?_
  refine ρs (j := 0) zv31 ?_
  refine ez ?_
  refine sr fun _ => ?_
  refine mz ?_
  refine sr fun _ => ?_
  refine mz ?_
  refine AWP.seq ?_
  refine sr fun _ => ?_
  refine ρ5 U25 sz3 ?_
  refine ρb U3 ?_
  refine ez ?_
  refine AWP.block ?_
  refine sr fun _ => ?_
  refine ρ1 ?_
  refine mz ?_
  refine ρn (fun h0 => ?_) (fun h0 => ?_)
  · refine AWP.region (fun _ => ?_)
    refine mv ?_
    refine ρ5 U25 sz3 ?_
    refine ρb U3 ?_
    refine ρ5 U25 sz3 ?_
    refine ρb U3 ?_
    refine ARun.call rfl rfl rfl rfl cf109 (ep rfl) (.cons (ep rfl) (.cons (ep rfl) (.cons (ep rfl) .nil))) rfl (fun hg => Stk.create_fn l c.item c.qty (by omega)) optN ?_
    refine mv ?_
    refine ρ9 ?_
    refine ρ9 ?_
    refine ma ?_
    refine ma ?_
    refine ⟨_, _, rfl, hG, ?_⟩
    refine blockA_n (thenA_n (AWP.seq ?_))
    refine sr fun _ => ?_
    refine mv ?_
    refine ρ1 ?_
    refine ez ?_
    refine ρn (fun h1 => ?_) (fun h1 => ?_)
    · simp at h1
      refine sr fun _ => ?_
      refine mv ?_
      refine mv ?_
      refine ρi cf27 ?_ (hF := fun hg => told_fn (Stk.createP l c.item c.qty).2 [] (by simp))
      refine ma ?_
      refine ρ2 sz31 ?_
      refine ez ?_
      refine AWP.ret (thenA_r ?_)
      refine ρe (rs := [.tmp 4, .cell 5 31]) (.cons (.tmp rfl) (.cons (.cellA rfl ((hG.at _ _).trans rfl) U31 rfl sz31 rfl rfl) .nil)) ?_
      rw [oneR_n (one_1 hk) h1]; rfl
    simp at h1
    refine AWP.skip (thenA_n ?_)
    refine sr fun _ => ?_
    refine mv ?_
    refine mv ?_
    refine ρ5 U25 sz3 ?_
    refine ρb U3 ?_
    refine ρi cf106 ?_ (hF := fun hg => toldS_fn (Stk.createP l c.item c.qty).1 c.item (by omega))
    refine ma ?_
    refine ρ2 sz31 ?_
    refine ez ?_
    refine AWP.ret ?_
    refine ρe (rs := [.tmp 4, .cell 5 31]) (.cons (.tmp rfl) (.cons (.cellA rfl ((hG.at _ _).trans rfl) U31 rfl sz31 rfl rfl) .nil)) ?_
    rw [oneR_y (one_1 hk) h1]; rfl
  simp [hk] at h0
set_option maxHeartbeats 1000000 in
theorem one2_fn (l : Its) (c : Cl) (hl : l.length ≤ 100) (hk : c.kind = 2) : FnP Tryz.prog 71 [.sl (l.map Stk.aIt), aCl c] (.tup [.sl ((oneR l c).1.map Stk.aIt), aRp (oneR l c).2]) := by
  have hol := one_len l c.item c.qty
  refine FnP.of Tryz.func71 rfl rfl (by simp) (by simp [AV.cells, aIn, aOut, aLn, aCl, aRp, Stk.aIt, Ssn.aSe, aSt]) (fun G hG => ?_)
  have hN : NoH G.length (.tup [.sl ((oneR l c).1.map Stk.aIt), aRp (oneR l c).2]) := (by simp [AV.cells, aIn, aOut, aLn, aCl, aRp, Stk.aIt, Ssn.aSe, aSt])
  refine sr fun _ => ?_
  refine ρy ?_
  refine ma ?_
  refine ρs (j := 0) zv31 ?_
  refine ez ?_
  refine sr fun _ => ?_
  refine mz ?_
  refine sr fun _ => ?_
  refine mz ?_
  refine AWP.seq ?_
  refine sr fun _ => ?_
  refine ρ5 U25 sz3 ?_
  refine ρb U3 ?_
  refine ez ?_
  refine AWP.block ?_
  refine sr fun _ => ?_
  refine ρ1 ?_
  refine mz ?_
  refine ρn (fun h0 => ?_) (fun h0 => ?_)
  · simp [hk] at h0
  refine sr fun _ => ?_
  refine ρ1 ?_
  refine mz ?_
  refine ρn (fun h1 => ?_) (fun h1 => ?_)
  · refine AWP.region (fun _ => ?_)
    refine mv ?_
    refine ρ5 U25 sz3 ?_
    refine ρb U3 ?_
    refine ρ5 U25 sz3 ?_
    refine ρb U3 ?_
    refine ARun.call rfl rfl rfl rfl cf110 (ep rfl) (.cons (ep rfl) (.cons (ep rfl) (.cons (ep rfl) .nil))) rfl (fun hg => Stk.restock_fn l c.item c.qty (by omega)) optN ?_
    refine mv ?_
    refine ρ9 ?_
    refine ρ9 ?_
    refine ma ?_
    refine ma ?_
    refine ⟨_, _, rfl, hG, ?_⟩
    refine blockA_n (thenA_n (AWP.seq ?_))
    refine sr fun _ => ?_
    refine mv ?_
    refine ρ1 ?_
    refine ez ?_
    refine ρn (fun h2 => ?_) (fun h2 => ?_)
    · simp at h2
      refine sr fun _ => ?_
      refine mv ?_
      refine mv ?_
      refine ρi cf27 ?_ (hF := fun hg => told_fn (StockP.withP (StockP.inG c.qty) l c.item c.qty).2 [] (by simp))
      refine ma ?_
      refine ρ2 sz31 ?_
      refine ez ?_
      refine AWP.ret (thenA_r ?_)
      refine ρe (rs := [.tmp 4, .cell 5 31]) (.cons (.tmp rfl) (.cons (.cellA rfl ((hG.at _ _).trans rfl) U31 rfl sz31 rfl rfl) .nil)) ?_
      rw [oneR_n (one_2 hk) h2]; rfl
    simp at h2
    refine AWP.skip (thenA_n ?_)
    refine sr fun _ => ?_
    refine mv ?_
    refine mv ?_
    refine ρ5 U25 sz3 ?_
    refine ρb U3 ?_
    refine ρi cf106 ?_ (hF := fun hg => toldS_fn (StockP.withP (StockP.inG c.qty) l c.item c.qty).1 c.item (by omega))
    refine ma ?_
    refine ρ2 sz31 ?_
    refine ez ?_
    refine AWP.ret ?_
    refine ρe (rs := [.tmp 4, .cell 5 31]) (.cons (.tmp rfl) (.cons (.cellA rfl ((hG.at _ _).trans rfl) U31 rfl sz31 rfl rfl) .nil)) ?_
    rw [oneR_y (one_2 hk) h2]; rfl
  simp [hk] at h1
set_option maxHeartbeats 1000000 in
theorem one3_fn (l : Its) (c : Cl) (hl : l.length ≤ 100) (hk : c.kind = 3) : FnP Tryz.prog 71 [.sl (l.map Stk.aIt), aCl c] (.tup [.sl ((oneR l c).1.map Stk.aIt), aRp (oneR l c).2]) := by
  have hol := one_len l c.item c.qty
  refine FnP.of Tryz.func71 rfl rfl (by simp) (by simp [AV.cells, aIn, aOut, aLn, aCl, aRp, Stk.aIt, Ssn.aSe, aSt]) (fun G hG => ?_)
  have hN : NoH G.length (.tup [.sl ((oneR l c).1.map Stk.aIt), aRp (oneR l c).2]) := (by simp [AV.cells, aIn, aOut, aLn, aCl, aRp, Stk.aIt, Ssn.aSe, aSt])
  refine sr fun _ => ?_
  refine ρy ?_
  refine ma ?_
  refine ρs (j := 0) zv31 ?_
  refine ez ?_
  refine sr fun _ => ?_
  refine mz ?_
  refine sr fun _ => ?_
  refine mz ?_
  refine AWP.seq ?_
  refine sr fun _ => ?_
  refine ρ5 U25 sz3 ?_
  refine ρb U3 ?_
  refine ez ?_
  refine AWP.block ?_
  refine sr fun _ => ?_
  refine ρ1 ?_
  refine mz ?_
  refine ρn (fun h0 => ?_) (fun h0 => ?_)
  · simp [hk] at h0
  refine sr fun _ => ?_
  refine ρ1 ?_
  refine mz ?_
  refine ρn (fun h1 => ?_) (fun h1 => ?_)
  · simp [hk] at h1
  refine sr fun _ => ?_
  refine ρ1 ?_
  refine mz ?_
  refine ρn (fun h2 => ?_) (fun h2 => ?_)
  · refine AWP.region (fun _ => ?_)
    refine mv ?_
    refine ρ5 U25 sz3 ?_
    refine ρb U3 ?_
    refine ρ5 U25 sz3 ?_
    refine ρb U3 ?_
    refine ARun.call rfl rfl rfl rfl cf111 (ep rfl) (.cons (ep rfl) (.cons (ep rfl) (.cons (ep rfl) .nil))) rfl (fun hg => Stk.reserve_fn l c.item c.qty (by omega)) optN ?_
    refine mv ?_
    refine ρ9 ?_
    refine ρ9 ?_
    refine ma ?_
    refine ma ?_
    refine ⟨_, _, rfl, hG, ?_⟩
    refine blockA_n (thenA_n (AWP.seq ?_))
    refine sr fun _ => ?_
    refine mv ?_
    refine ρ1 ?_
    refine ez ?_
    refine ρn (fun h3 => ?_) (fun h3 => ?_)
    · simp at h3
      refine sr fun _ => ?_
      refine mv ?_
      refine mv ?_
      refine ρi cf27 ?_ (hF := fun hg => told_fn (StockP.withP (StockP.holdG c.qty) l c.item c.qty).2 [] (by simp))
      refine ma ?_
      refine ρ2 sz31 ?_
      refine ez ?_
      refine AWP.ret (thenA_r ?_)
      refine ρe (rs := [.tmp 4, .cell 5 31]) (.cons (.tmp rfl) (.cons (.cellA rfl ((hG.at _ _).trans rfl) U31 rfl sz31 rfl rfl) .nil)) ?_
      rw [oneR_n (one_3 hk) h3]; rfl
    simp at h3
    refine AWP.skip (thenA_n ?_)
    refine sr fun _ => ?_
    refine mv ?_
    refine mv ?_
    refine ρ5 U25 sz3 ?_
    refine ρb U3 ?_
    refine ρi cf106 ?_ (hF := fun hg => toldS_fn (StockP.withP (StockP.holdG c.qty) l c.item c.qty).1 c.item (by omega))
    refine ma ?_
    refine ρ2 sz31 ?_
    refine ez ?_
    refine AWP.ret ?_
    refine ρe (rs := [.tmp 4, .cell 5 31]) (.cons (.tmp rfl) (.cons (.cellA rfl ((hG.at _ _).trans rfl) U31 rfl sz31 rfl rfl) .nil)) ?_
    rw [oneR_y (one_3 hk) h3]; rfl
  simp [hk] at h2
set_option maxHeartbeats 1000000 in
theorem one4_fn (l : Its) (c : Cl) (hl : l.length ≤ 100) (hk : c.kind = 4) : FnP Tryz.prog 71 [.sl (l.map Stk.aIt), aCl c] (.tup [.sl ((oneR l c).1.map Stk.aIt), aRp (oneR l c).2]) := by
  have hol := one_len l c.item c.qty
  refine FnP.of Tryz.func71 rfl rfl (by simp) (by simp [AV.cells, aIn, aOut, aLn, aCl, aRp, Stk.aIt, Ssn.aSe, aSt]) (fun G hG => ?_)
  have hN : NoH G.length (.tup [.sl ((oneR l c).1.map Stk.aIt), aRp (oneR l c).2]) := (by simp [AV.cells, aIn, aOut, aLn, aCl, aRp, Stk.aIt, Ssn.aSe, aSt])
  refine sr fun _ => ?_
  refine ρy ?_
  refine ma ?_
  refine ρs (j := 0) zv31 ?_
  refine ez ?_
  refine sr fun _ => ?_
  refine mz ?_
  refine sr fun _ => ?_
  refine mz ?_
  refine AWP.seq ?_
  refine sr fun _ => ?_
  refine ρ5 U25 sz3 ?_
  refine ρb U3 ?_
  refine ez ?_
  refine AWP.block ?_
  refine sr fun _ => ?_
  refine ρ1 ?_
  refine mz ?_
  refine ρn (fun h0 => ?_) (fun h0 => ?_)
  · simp [hk] at h0
  refine sr fun _ => ?_
  refine ρ1 ?_
  refine mz ?_
  refine ρn (fun h1 => ?_) (fun h1 => ?_)
  · simp [hk] at h1
  refine sr fun _ => ?_
  refine ρ1 ?_
  refine mz ?_
  refine ρn (fun h2 => ?_) (fun h2 => ?_)
  · simp [hk] at h2
  refine sr fun _ => ?_
  refine ρ1 ?_
  refine mz ?_
  refine ρn (fun h3 => ?_) (fun h3 => ?_)
  · refine AWP.region (fun _ => ?_)
    refine mv ?_
    refine ρ5 U25 sz3 ?_
    refine ρb U3 ?_
    refine ρ5 U25 sz3 ?_
    refine ρb U3 ?_
    refine ARun.call rfl rfl rfl rfl cf112 (ep rfl) (.cons (ep rfl) (.cons (ep rfl) (.cons (ep rfl) .nil))) rfl (fun hg => Stk.release_fn l c.item c.qty (by omega)) optN ?_
    refine mv ?_
    refine ρ9 ?_
    refine ρ9 ?_
    refine ma ?_
    refine ma ?_
    refine ⟨_, _, rfl, hG, ?_⟩
    refine blockA_n (thenA_n (AWP.seq ?_))
    refine sr fun _ => ?_
    refine mv ?_
    refine ρ1 ?_
    refine ez ?_
    refine ρn (fun h4 => ?_) (fun h4 => ?_)
    · simp at h4
      refine sr fun _ => ?_
      refine mv ?_
      refine mv ?_
      refine ρi cf27 ?_ (hF := fun hg => told_fn (StockP.withP (StockP.freeG c.qty) l c.item c.qty).2 [] (by simp))
      refine ma ?_
      refine ρ2 sz31 ?_
      refine ez ?_
      refine AWP.ret (thenA_r ?_)
      refine ρe (rs := [.tmp 4, .cell 5 31]) (.cons (.tmp rfl) (.cons (.cellA rfl ((hG.at _ _).trans rfl) U31 rfl sz31 rfl rfl) .nil)) ?_
      rw [oneR_n (one_4 hk) h4]; rfl
    simp at h4
    refine AWP.skip (thenA_n ?_)
    refine sr fun _ => ?_
    refine mv ?_
    refine mv ?_
    refine ρ5 U25 sz3 ?_
    refine ρb U3 ?_
    refine ρi cf106 ?_ (hF := fun hg => toldS_fn (StockP.withP (StockP.freeG c.qty) l c.item c.qty).1 c.item (by omega))
    refine ma ?_
    refine ρ2 sz31 ?_
    refine ez ?_
    refine AWP.ret ?_
    refine ρe (rs := [.tmp 4, .cell 5 31]) (.cons (.tmp rfl) (.cons (.cellA rfl ((hG.at _ _).trans rfl) U31 rfl sz31 rfl rfl) .nil)) ?_
    rw [oneR_y (one_4 hk) h4]; rfl
  simp [hk] at h3
set_option maxHeartbeats 1000000 in
theorem one5_fn (l : Its) (c : Cl) (hl : l.length ≤ 100) (hk : c.kind = 5) : FnP Tryz.prog 71 [.sl (l.map Stk.aIt), aCl c] (.tup [.sl ((oneR l c).1.map Stk.aIt), aRp (oneR l c).2]) := by
  have hol := one_len l c.item c.qty
  refine FnP.of Tryz.func71 rfl rfl (by simp) (by simp [AV.cells, aIn, aOut, aLn, aCl, aRp, Stk.aIt, Ssn.aSe, aSt]) (fun G hG => ?_)
  have hN : NoH G.length (.tup [.sl ((oneR l c).1.map Stk.aIt), aRp (oneR l c).2]) := (by simp [AV.cells, aIn, aOut, aLn, aCl, aRp, Stk.aIt, Ssn.aSe, aSt])
  refine sr fun _ => ?_
  refine ρy ?_
  refine ma ?_
  refine ρs (j := 0) zv31 ?_
  refine ez ?_
  refine sr fun _ => ?_
  refine mz ?_
  refine sr fun _ => ?_
  refine mz ?_
  refine AWP.seq ?_
  refine sr fun _ => ?_
  refine ρ5 U25 sz3 ?_
  refine ρb U3 ?_
  refine ez ?_
  refine AWP.block ?_
  refine sr fun _ => ?_
  refine ρ1 ?_
  refine mz ?_
  refine ρn (fun h0 => ?_) (fun h0 => ?_)
  · simp [hk] at h0
  refine sr fun _ => ?_
  refine ρ1 ?_
  refine mz ?_
  refine ρn (fun h1 => ?_) (fun h1 => ?_)
  · simp [hk] at h1
  refine sr fun _ => ?_
  refine ρ1 ?_
  refine mz ?_
  refine ρn (fun h2 => ?_) (fun h2 => ?_)
  · simp [hk] at h2
  refine sr fun _ => ?_
  refine ρ1 ?_
  refine mz ?_
  refine ρn (fun h3 => ?_) (fun h3 => ?_)
  · simp [hk] at h3
  refine AWP.region (fun _ => ?_)
  refine mv ?_
  refine ρ5 U25 sz3 ?_
  refine ρb U3 ?_
  refine ρ5 U25 sz3 ?_
  refine ρb U3 ?_
  refine ARun.call rfl rfl rfl rfl cf113 (ep rfl) (.cons (ep rfl) (.cons (ep rfl) (.cons (ep rfl) .nil))) rfl (fun hg => Stk.ship_fn l c.item c.qty (by omega)) optN ?_
  refine mv ?_
  refine ρ9 ?_
  refine ρ9 ?_
  refine ma ?_
  refine ma ?_
  refine ⟨_, _, rfl, hG, ?_⟩
  refine blockA_n (thenA_n (AWP.seq ?_))
  refine sr fun _ => ?_
  refine mv ?_
  refine ρ1 ?_
  refine ez ?_
  refine ρn (fun h4 => ?_) (fun h4 => ?_)
  · simp at h4
    refine sr fun _ => ?_
    refine mv ?_
    refine mv ?_
    refine ρi cf27 ?_ (hF := fun hg => told_fn (StockP.withP (StockP.shipG c.qty) l c.item c.qty).2 [] (by simp))
    refine ma ?_
    refine ρ2 sz31 ?_
    refine ez ?_
    refine AWP.ret (thenA_r ?_)
    refine ρe (rs := [.tmp 4, .cell 5 31]) (.cons (.tmp rfl) (.cons (.cellA rfl ((hG.at _ _).trans rfl) U31 rfl sz31 rfl rfl) .nil)) ?_
    rw [oneR_n (one_5 hk) h4]; rfl
  simp at h4
  refine AWP.skip (thenA_n ?_)
  refine sr fun _ => ?_
  refine mv ?_
  refine mv ?_
  refine ρ5 U25 sz3 ?_
  refine ρb U3 ?_
  refine ρi cf106 ?_ (hF := fun hg => toldS_fn (StockP.withP (StockP.shipG c.qty) l c.item c.qty).1 c.item (by omega))
  refine ma ?_
  refine ρ2 sz31 ?_
  refine ez ?_
  refine AWP.ret ?_
  refine ρe (rs := [.tmp 4, .cell 5 31]) (.cons (.tmp rfl) (.cons (.cellA rfl ((hG.at _ _).trans rfl) U31 rfl sz31 rfl rfl) .nil)) ?_
  rw [oneR_y (one_5 hk) h4]; rfl
theorem one_fn (l : Its) (c : Cl) (hl : l.length ≤ 100) (hk : 1 ≤ c.kind ∧ c.kind ≤ 5) : FnP Tryz.prog 71 [.sl (l.map Stk.aIt), aCl c] (.tup [.sl ((oneR l c).1.map Stk.aIt), aRp (oneR l c).2]) := by
  rcases (show c.kind = 1 ∨ c.kind = 2 ∨ c.kind = 3 ∨ c.kind = 4 ∨ c.kind = 5 by omega) with h | h | h | h | h
  · exact one1_fn l c hl h
  · exact one2_fn l c hl h
  · exact one3_fn l c hl h
  · exact one4_fn l c hl h
  exact one5_fn l c hl h
set_option maxHeartbeats 1000000 in
theorem moveS_fn (l : Its) (c : Cl) (hl : l.length ≤ 100) : FnP Tryz.prog 68 [.sl (l.map Stk.aIt), aCl c] (.tup [.sl ((moveR l c).1.map Stk.aIt), aRp (moveR l c).2]) := by
  have hml : (mvP l c).1.length ≤ l.length := Stk.move_len l c.item c.to_ c.qty
  refine FnP.of Tryz.func68 rfl rfl (by simp) (by simp [AV.cells, aIn, aOut, aLn, aCl, aRp, Stk.aIt, Ssn.aSe, aSt]) (fun G hG => ?_)
  have hN : NoH G.length (.tup [.sl ((moveR l c).1.map Stk.aIt), aRp (moveR l c).2]) := (by simp [AV.cells, aIn, aOut, aLn, aCl, aRp, Stk.aIt, Ssn.aSe, aSt])
  refine sr fun _ => ?_
  refine ρy ?_
  refine ma ?_
  refine ρs (j := 0) zv31 ?_
  refine ez ?_
  refine sr fun _ => ?_
  refine mv ?_
  refine ρ5 U25 sz3 ?_
  refine ρb U3 ?_
  refine ρ5 U25 sz3 ?_
  refine ρb U3 ?_
  refine ρ5 U25 sz3 ?_
  refine ρb U3 ?_
  refine ARun.call rfl rfl rfl rfl cf104 (ep rfl) (.cons (ep rfl) (.cons (ep rfl) (.cons (ep rfl) (.cons (ep rfl) .nil)))) rfl (fun hg => Stk.move_fn l c.item c.to_ c.qty (by omega)) optN ?_
  refine mv ?_
  refine ρ9 ?_
  refine ρ9 ?_
  refine ma ?_
  refine mz ?_
  refine AWP.seq ?_
  refine sr fun _ => ?_
  refine mv ?_
  refine ρ1 ?_
  refine ez ?_
  refine ρn (fun h0 => ?_) (fun h0 => ?_)
  · simp at h0
    refine sr fun _ => ?_
    refine mv ?_
    refine mv ?_
    refine ρi cf27 ?_ (hF := fun hg => told_fn (mvP l c).2 [] (by simp))
    refine ma ?_
    refine ρ2 sz31 ?_
    refine ez ?_
    refine AWP.ret (thenA_r ?_)
    refine ρe (rs := [.tmp 4, .cell 5 31]) (.cons (.tmp rfl) (.cons (.cellA rfl ((hG.at _ _).trans rfl) U31 rfl sz31 rfl rfl) .nil)) ?_
    rw [moveR, if_neg h0]; rfl
  simp at h0
  refine AWP.skip (thenA_n ?_)
  refine sr fun _ => ?_
  refine mv ?_
  refine ρ5 U25 sz3 ?_
  refine ρb U3 ?_
  refine ρi cf105 ?_ (hF := fun hg => Stk.find_fn (mvP l c).1 c.item (by omega))
  refine mv ?_
  refine ρ9 ?_
  refine ρ9 ?_
  refine ρs (j := 1) zv64 ?_
  refine ρ2 sz64 ?_
  refine mz ?_
  refine sr fun _ => ?_
  refine mv ?_
  refine ρ5 U25 sz3 ?_
  refine ρb U3 ?_
  refine ρi cf105 ?_ (hF := fun hg => Stk.find_fn (mvP l c).1 c.to_ (by omega))
  refine mv ?_
  refine ρ9 ?_
  refine ρ9 ?_
  refine ρs (j := 2) zv64 ?_
  refine ρ2 sz64 ?_
  refine mz ?_
  refine sr fun _ => ?_
  refine mv ?_
  refine ρ7 (fo := 1) U64 sz3 ?_
  refine ρf U3 ?_
  refine ρ7 (fo := 1) U64 sz3 ?_
  refine ρf U3 ?_
  refine ARun.buildSl rfl rfl rfl rfl U29 sz3 zv3 rfl (by decide) (.cons (ep rfl) (.cons (ep rfl) .nil)) rfl rfl rfl rfl (by decide) rfl rfl optN ?_
  refine ρi cf27 ?_ (hF := fun hg => told_fn 0 [(tF (mvP l c).1 c.item).free, (tF (mvP l c).1 c.to_).free] (by simp))
  refine ma ?_
  refine ρ2 sz31 ?_
  refine ez ?_
  refine AWP.ret ?_
  refine ρe (rs := [.tmp 4, .cell 5 31]) (.cons (.tmp rfl) (.cons (.cellA rfl ((hG.at _ _).trans rfl) U31 rfl sz31 rfl rfl) .nil)) ?_
  rw [moveR, if_pos h0]; rfl
set_option maxHeartbeats 1000000 in
theorem queryS_fn (l : Its) (c : Cl) (hl : l.length ≤ 100) : FnP Tryz.prog 69 [.sl (l.map Stk.aIt), aCl c] (.tup [.sl ((queryR l c).1.map Stk.aIt), aRp (queryR l c).2]) := by
  refine FnP.of Tryz.func69 rfl rfl (by simp) (by simp [AV.cells, aIn, aOut, aLn, aCl, aRp, Stk.aIt, Ssn.aSe, aSt]) (fun G hG => ?_)
  have hN : NoH G.length (.tup [.sl ((queryR l c).1.map Stk.aIt), aRp (queryR l c).2]) := (by simp [AV.cells, aIn, aOut, aLn, aCl, aRp, Stk.aIt, Ssn.aSe, aSt])
  refine sr fun _ => ?_
  refine ρy ?_
  refine ma ?_
  refine ρs (j := 0) zv31 ?_
  refine ez ?_
  refine AWP.seq ?_
  refine sr fun _ => ?_
  refine mv ?_
  refine ρ5 U25 sz3 ?_
  refine ρb U3 ?_
  refine ρi cf105 ?_ (hF := fun hg => Stk.find_fn l c.item (by omega))
  refine mv ?_
  refine ρ9 ?_
  refine ρ9 ?_
  refine ρs (j := 1) zv64 ?_
  refine ρ2 sz64 ?_
  refine mz ?_
  refine sr fun _ => ?_
  refine mv ?_
  refine ρA ?_
  refine ez ?_
  refine ρn (fun h0 => ?_) (fun h0 => ?_)
  · simp at h0
    refine sr fun _ => ?_
    refine mv ?_
    refine ρi cf27 ?_ (hF := fun hg => told_fn 40 [] (by simp))
    refine ma ?_
    refine ρ2 sz31 ?_
    refine ez ?_
    refine AWP.ret (thenA_r ?_)
    refine ρe (rs := [.tmp 4, .cell 5 31]) (.cons (.tmp rfl) (.cons (.cellA rfl ((hG.at _ _).trans rfl) U31 rfl sz31 rfl rfl) .nil)) ?_
    rw [queryR, if_neg (by simp [h0])]; rfl
  simp at h0
  refine AWP.skip (thenA_n ?_)
  refine sr fun _ => ?_
  refine mv ?_
  refine mv ?_
  refine ρ5 U25 sz3 ?_
  refine ρb U3 ?_
  refine ρi cf106 ?_ (hF := fun hg => toldS_fn l c.item (by omega))
  refine ma ?_
  refine ρ2 sz31 ?_
  refine ez ?_
  refine AWP.ret ?_
  refine ρe (rs := [.tmp 4, .cell 5 31]) (.cons (.tmp rfl) (.cons (.cellA rfl ((hG.at _ _).trans rfl) U31 rfl sz31 rfl rfl) .nil)) ?_
  rw [queryR, if_pos h0]; rfl
set_option maxHeartbeats 1000000 in
theorem orderS_fn (l : Its) (c : Cl) (hl : l.length ≤ 100) (hc : c.lines.length ≤ 1000) : FnP Tryz.prog 70 [.sl (l.map Stk.aIt), aCl c] (.tup [.sl ((orderR l c).1.map Stk.aIt), aRp (orderR l c).2]) := by
  refine FnP.of Tryz.func70 rfl rfl (by simp) (by simp [AV.cells, aIn, aOut, aLn, aCl, aRp, Stk.aIt, Ssn.aSe, aSt]) (fun G hG => ?_)
  have hN : NoH G.length (.tup [.sl ((orderR l c).1.map Stk.aIt), aRp (orderR l c).2]) := (by simp [AV.cells, aIn, aOut, aLn, aCl, aRp, Stk.aIt, Ssn.aSe, aSt])
  refine sr fun _ => ?_
  refine ρy ?_
  refine ma ?_
  refine ρs (j := 0) zv31 ?_
  refine ez ?_
  refine sr fun _ => ?_
  refine mv ?_
  refine ρ5 U25 sz23 ?_
  refine ρb U23 ?_
  refine ρi cf107 ?_ (hF := fun hg => Stk.holdB_fn l c.lines (by omega))
  refine mv ?_
  refine ρ9 ?_
  refine ρ9 ?_
  refine ρ9 ?_
  refine ma ?_
  refine ma ?_
  refine mz ?_
  refine AWP.seq ?_
  refine sr fun _ => ?_
  refine mv ?_
  refine ρ1 ?_
  refine ez ?_
  refine ρn (fun h0 => ?_) (fun h0 => ?_)
  · simp at h0
    refine sr fun _ => ?_
    refine mv ?_
    refine mv ?_
    refine mv ?_
    refine ARun.buildSl rfl rfl rfl rfl U29 sz3 zv3 rfl (by decide) (.cons (ep rfl) .nil) rfl rfl rfl rfl (by decide) rfl rfl optN ?_
    refine ρi cf27 ?_ (hF := fun hg => told_fn (orP l c).2.2 [(orP l c).2.1] (by simp))
    refine ma ?_
    refine ρ2 sz31 ?_
    refine ez ?_
    refine AWP.ret (thenA_r ?_)
    refine ρe (rs := [.tmp 4, .cell 5 31]) (.cons (.tmp rfl) (.cons (.cellA rfl ((hG.at _ _).trans rfl) U31 rfl sz31 rfl rfl) .nil)) ?_
    rw [orderR, if_neg h0]; rfl
  simp at h0
  refine AWP.skip (thenA_n ?_)
  refine sr fun _ => ?_
  refine mv ?_
  refine ρ5 U25 sz23 ?_
  refine ρb U23 ?_
  refine ρl cf108 (fun hg => Stk.total_fn c.lines hc) ?_
  refine ARun.buildSl rfl rfl rfl rfl U29 sz3 zv3 rfl (by decide) (.cons (ep rfl) .nil) rfl rfl rfl rfl (by decide) rfl rfl optN ?_
  refine ρi cf27 ?_ (hF := fun hg => told_fn 0 [StockP.totalP c.lines] (by simp))
  refine ma ?_
  refine ρ2 sz31 ?_
  refine ez ?_
  refine AWP.ret ?_
  refine ρe (rs := [.tmp 4, .cell 5 31]) (.cons (.tmp rfl) (.cons (.cellA rfl ((hG.at _ _).trans rfl) U31 rfl sz31 rfl rfl) .nil)) ?_
  rw [orderR, if_pos h0]; rfl
set_option maxHeartbeats 1000000 in
theorem of6_fn (l : Its) (k : Int) (hk : k = 6) : FnP Tryz.prog 29 [.sl (l.map Stk.aIt), .int .i64 k] (.fn (.func 68) [.sl (l.map Stk.aIt)] []) := by
  refine FnP.of Tryz.func29 rfl rfl (by simp) (by simp [AV.cells, Stk.aIt]) (fun G hG => ?_)
  have hN : NoH G.length (.fn (.func 68) [.sl (l.map Stk.aIt)] []) := (by simp [AV.cells, Stk.aIt])
  refine sr fun _ => ?_
  refine mz ?_
  refine AWP.seq ?_
  refine sr fun _ => ?_
  refine mv ?_
  refine ez ?_
  refine AWP.block ?_
  refine sr fun _ => ?_
  refine ρ1 ?_
  refine mz ?_
  refine ρn (fun h0 => ?_) (fun h0 => ?_)
  · refine sr fun _ => ?_
    refine mv ?_
    refine ARun.makeFunc rfl rfl rfl rfl (.cons (ep rfl) .nil) .nil optN ?_
    refine mz ?_
    refine AWP.ret (blockA_r (thenA_r ?_))
    refine ρd ?_
    rfl
  simp [hk] at h0
set_option maxHeartbeats 1000000 in
theorem of7_fn (l : Its) (k : Int) (hk : k = 7) : FnP Tryz.prog 29 [.sl (l.map Stk.aIt), .int .i64 k] (.fn (.func 69) [.sl (l.map Stk.aIt)] []) := by
  refine FnP.of Tryz.func29 rfl rfl (by simp) (by simp [AV.cells, Stk.aIt]) (fun G hG => ?_)
  have hN : NoH G.length (.fn (.func 69) [.sl (l.map Stk.aIt)] []) := (by simp [AV.cells, Stk.aIt])
  refine sr fun _ => ?_
  refine mz ?_
  refine AWP.seq ?_
  refine sr fun _ => ?_
  refine mv ?_
  refine ez ?_
  refine AWP.block ?_
  refine sr fun _ => ?_
  refine ρ1 ?_
  refine mz ?_
  refine ρn (fun h0 => ?_) (fun h0 => ?_)
  · simp [hk] at h0
  refine sr fun _ => ?_
  refine ρ1 ?_
  refine mz ?_
  refine ρn (fun h1 => ?_) (fun h1 => ?_)
  · refine sr fun _ => ?_
    refine mv ?_
    refine ARun.makeFunc rfl rfl rfl rfl (.cons (ep rfl) .nil) .nil optN ?_
    refine mz ?_
    refine AWP.ret (blockA_r (thenA_r ?_))
    refine ρd ?_
    rfl
  simp [hk] at h1
set_option maxHeartbeats 1000000 in
theorem of8_fn (l : Its) (k : Int) (hk : k = 8) : FnP Tryz.prog 29 [.sl (l.map Stk.aIt), .int .i64 k] (.fn (.func 70) [.sl (l.map Stk.aIt)] []) := by
  refine FnP.of Tryz.func29 rfl rfl (by simp) (by simp [AV.cells, Stk.aIt]) (fun G hG => ?_)
  have hN : NoH G.length (.fn (.func 70) [.sl (l.map Stk.aIt)] []) := (by simp [AV.cells, Stk.aIt])
  refine sr fun _ => ?_
  refine mz ?_
  refine AWP.seq ?_
  refine sr fun _ => ?_
  refine mv ?_
  refine ez ?_
  refine AWP.block ?_
  refine sr fun _ => ?_
  refine ρ1 ?_
  refine mz ?_
  refine ρn (fun h0 => ?_) (fun h0 => ?_)
  · simp [hk] at h0
  refine sr fun _ => ?_
  refine ρ1 ?_
  refine mz ?_
  refine ρn (fun h1 => ?_) (fun h1 => ?_)
  · simp [hk] at h1
  refine sr fun _ => ?_
  refine ρ1 ?_
  refine mz ?_
  refine ρn (fun h2 => ?_) (fun h2 => ?_)
  · refine sr fun _ => ?_
    refine mv ?_
    refine ARun.makeFunc rfl rfl rfl rfl (.cons (ep rfl) .nil) .nil optN ?_
    refine mz ?_
    refine AWP.ret (blockA_r (thenA_r ?_))
    refine ρd ?_
    rfl
  simp [hk] at h2
set_option maxHeartbeats 1000000 in
theorem of1_fn (l : Its) (k : Int) (hk : k ≠ 6 ∧ k ≠ 7 ∧ k ≠ 8) : FnP Tryz.prog 29 [.sl (l.map Stk.aIt), .int .i64 k] (.fn (.func 71) [.sl (l.map Stk.aIt)] []) := by
  refine FnP.of Tryz.func29 rfl rfl (by simp) (by simp [AV.cells, Stk.aIt]) (fun G hG => ?_)
  have hN : NoH G.length (.fn (.func 71) [.sl (l.map Stk.aIt)] []) := (by simp [AV.cells, Stk.aIt])
  refine sr fun _ => ?_
  refine mz ?_
  refine AWP.seq ?_
  refine sr fun _ => ?_
  refine mv ?_
  refine ez ?_
  refine AWP.block ?_
  refine sr fun _ => ?_
  refine ρ1 ?_
  refine mz ?_
  refine ρn (fun h0 => ?_) (fun h0 => ?_)
  · simp [hk] at h0
  refine sr fun _ => ?_
  refine ρ1 ?_
  refine mz ?_
  refine ρn (fun h1 => ?_) (fun h1 => ?_)
  · simp [hk] at h1
  refine sr fun _ => ?_
  refine ρ1 ?_
  refine mz ?_
  refine ρn (fun h2 => ?_) (fun h2 => ?_)
  · simp [hk] at h2
  refine AWP.skip (blockA_n (thenA_n ?_))
  refine sr fun _ => ?_
  refine mv ?_
  refine ARun.makeFunc rfl rfl rfl rfl (.cons (ep rfl) .nil) .nil optN ?_
  refine mz ?_
  refine AWP.ret ?_
  refine ρd ?_
  rfl
set_option maxHeartbeats 1000000 in
theorem do6_fn (l : Its) (c : Cl) (hl : l.length ≤ 100) (hc : c.lines.length ≤ 1000) (hk : c.kind = 6) : FnP Tryz.prog 9 [.sl (l.map Stk.aIt), aCl c] (.tup [.sl ((doP l c).1.map Stk.aIt), aRp (doP l c).2]) := by
  refine FnP.of Tryz.func9 rfl rfl (by simp) (by simp [AV.cells, aIn, aOut, aLn, aCl, aRp, Stk.aIt, Ssn.aSe, aSt]) (fun G hG => ?_)
  have hN : NoH G.length (.tup [.sl ((doP l c).1.map Stk.aIt), aRp (doP l c).2]) := (by simp [AV.cells, aIn, aOut, aLn, aCl, aRp, Stk.aIt, Ssn.aSe, aSt])
  refine sr fun _ => ?_
  refine ρy ?_
  refine ma ?_
  refine ρs (j := 0) zv31 ?_
  refine ez ?_
  refine AWP.seq ?_
  refine sr fun _ => ?_
  refine mv ?_
  refine ρl cf26 (fun hg => Stk.check_fn l) ?_
  refine mz ?_
  refine sr fun _ => ?_
  refine mv ?_
  refine ρ1 ?_
  refine ez ?_
  refine ρn (fun h0 => ?_) (fun h0 => ?_)
  · simp at h0
    refine sr fun _ => ?_
    refine mv ?_
    refine mv ?_
    refine ρi cf27 ?_ (hF := fun hg => told_fn (Stk.okE l) [] (by simp))
    refine ma ?_
    refine ρ2 sz31 ?_
    refine ez ?_
    refine AWP.ret (thenA_r ?_)
    refine ρe (rs := [.tmp 4, .cell 5 31]) (.cons (.tmp rfl) (.cons (.cellA rfl ((hG.at _ _).trans rfl) U31 rfl sz31 rfl rfl) .nil)) ?_
    rw [do_0 h0, okE_two h0]; rfl
  simp at h0
  refine AWP.skip (thenA_n (AWP.seq ?_))
  refine sr fun _ => ?_
  refine ρq U25 sz25 ?_
  refine ARun.call rfl rfl rfl rfl cf28 (ep rfl) (.cons (ep rfl) .nil) rfl (fun hg => check_fn c (by omega)) optN ?_
  refine mz ?_
  refine sr fun _ => ?_
  refine mv ?_
  refine ARun.isNil rfl rfl rfl rfl U53 (ep rfl) (fun hg => by first | rfl | exact nilA_aEr _) (.inr ⟨rfl, rfl⟩) optN ?_
  refine ez ?_
  refine ρn (fun h1 => ?_) (fun h1 => ?_)
  · simp only [new_none] at h1
    simp at h1
    refine sr fun _ => ?_
    refine mv ?_
    refine mv ?_
    refine ρl cf25 (fun hg => code_fn (Er.new tCall (checkP c))) ?_
    refine ρi cf27 ?_ (hF := fun hg => told_fn (Er.new tCall (checkP c)).code [] (by simp))
    refine ma ?_
    refine ρ2 sz31 ?_
    refine ez ?_
    refine AWP.ret (thenA_r ?_)
    refine ρe (rs := [.tmp 4, .cell 5 31]) (.cons (.tmp rfl) (.cons (.cellA rfl ((hG.at _ _).trans rfl) U31 rfl sz31 rfl rfl) .nil)) ?_
    rw [do_1 h0 h1, new_code]; rfl
  simp only [new_none] at h1
  simp at h1
  refine AWP.skip (thenA_n ?_)
  refine sr fun _ => ?_
  refine mv ?_
  refine ρ5 U25 sz3 ?_
  refine ρb U3 ?_
  refine ρg cf29 (fun hg => of6_fn l c.kind hk) ?_
  refine mz ?_
  refine sr fun _ => ?_
  refine mv ?_
  refine ρq U25 sz25 ?_
  refine ρl cf68 (fun hg => moveS_fn l c hl) ?_
  refine ρ9 ?_
  refine ρ9 ?_
  refine ma ?_
  refine ρ2 sz31 ?_
  refine ez ?_
  refine AWP.ret ?_
  refine ρe (rs := [.tmp 4, .cell 5 31]) (.cons (.tmp rfl) (.cons (.cellA rfl ((hG.at _ _).trans rfl) U31 rfl sz31 rfl rfl) .nil)) ?_
  rw [do_2 h0 h1, kind_6 hk]; rfl
set_option maxHeartbeats 1000000 in
theorem do7_fn (l : Its) (c : Cl) (hl : l.length ≤ 100) (hc : c.lines.length ≤ 1000) (hk : c.kind = 7) : FnP Tryz.prog 9 [.sl (l.map Stk.aIt), aCl c] (.tup [.sl ((doP l c).1.map Stk.aIt), aRp (doP l c).2]) := by
  refine FnP.of Tryz.func9 rfl rfl (by simp) (by simp [AV.cells, aIn, aOut, aLn, aCl, aRp, Stk.aIt, Ssn.aSe, aSt]) (fun G hG => ?_)
  have hN : NoH G.length (.tup [.sl ((doP l c).1.map Stk.aIt), aRp (doP l c).2]) := (by simp [AV.cells, aIn, aOut, aLn, aCl, aRp, Stk.aIt, Ssn.aSe, aSt])
  refine sr fun _ => ?_
  refine ρy ?_
  refine ma ?_
  refine ρs (j := 0) zv31 ?_
  refine ez ?_
  refine AWP.seq ?_
  refine sr fun _ => ?_
  refine mv ?_
  refine ρl cf26 (fun hg => Stk.check_fn l) ?_
  refine mz ?_
  refine sr fun _ => ?_
  refine mv ?_
  refine ρ1 ?_
  refine ez ?_
  refine ρn (fun h0 => ?_) (fun h0 => ?_)
  · simp at h0
    refine sr fun _ => ?_
    refine mv ?_
    refine mv ?_
    refine ρi cf27 ?_ (hF := fun hg => told_fn (Stk.okE l) [] (by simp))
    refine ma ?_
    refine ρ2 sz31 ?_
    refine ez ?_
    refine AWP.ret (thenA_r ?_)
    refine ρe (rs := [.tmp 4, .cell 5 31]) (.cons (.tmp rfl) (.cons (.cellA rfl ((hG.at _ _).trans rfl) U31 rfl sz31 rfl rfl) .nil)) ?_
    rw [do_0 h0, okE_two h0]; rfl
  simp at h0
  refine AWP.skip (thenA_n (AWP.seq ?_))
  refine sr fun _ => ?_
  refine ρq U25 sz25 ?_
  refine ARun.call rfl rfl rfl rfl cf28 (ep rfl) (.cons (ep rfl) .nil) rfl (fun hg => check_fn c (by omega)) optN ?_
  refine mz ?_
  refine sr fun _ => ?_
  refine mv ?_
  refine ARun.isNil rfl rfl rfl rfl U53 (ep rfl) (fun hg => by first | rfl | exact nilA_aEr _) (.inr ⟨rfl, rfl⟩) optN ?_
  refine ez ?_
  refine ρn (fun h1 => ?_) (fun h1 => ?_)
  · simp only [new_none] at h1
    simp at h1
    refine sr fun _ => ?_
    refine mv ?_
    refine mv ?_
    refine ρl cf25 (fun hg => code_fn (Er.new tCall (checkP c))) ?_
    refine ρi cf27 ?_ (hF := fun hg => told_fn (Er.new tCall (checkP c)).code [] (by simp))
    refine ma ?_
    refine ρ2 sz31 ?_
    refine ez ?_
    refine AWP.ret (thenA_r ?_)
    refine ρe (rs := [.tmp 4, .cell 5 31]) (.cons (.tmp rfl) (.cons (.cellA rfl ((hG.at _ _).trans rfl) U31 rfl sz31 rfl rfl) .nil)) ?_
    rw [do_1 h0 h1, new_code]; rfl
  simp only [new_none] at h1
  simp at h1
  refine AWP.skip (thenA_n ?_)
  refine sr fun _ => ?_
  refine mv ?_
  refine ρ5 U25 sz3 ?_
  refine ρb U3 ?_
  refine ρg cf29 (fun hg => of7_fn l c.kind hk) ?_
  refine mz ?_
  refine sr fun _ => ?_
  refine mv ?_
  refine ρq U25 sz25 ?_
  refine ρl cf69 (fun hg => queryS_fn l c hl) ?_
  refine ρ9 ?_
  refine ρ9 ?_
  refine ma ?_
  refine ρ2 sz31 ?_
  refine ez ?_
  refine AWP.ret ?_
  refine ρe (rs := [.tmp 4, .cell 5 31]) (.cons (.tmp rfl) (.cons (.cellA rfl ((hG.at _ _).trans rfl) U31 rfl sz31 rfl rfl) .nil)) ?_
  rw [do_2 h0 h1, kind_7 hk]; rfl
set_option maxHeartbeats 1000000 in
theorem do8_fn (l : Its) (c : Cl) (hl : l.length ≤ 100) (hc : c.lines.length ≤ 1000) (hk : c.kind = 8) : FnP Tryz.prog 9 [.sl (l.map Stk.aIt), aCl c] (.tup [.sl ((doP l c).1.map Stk.aIt), aRp (doP l c).2]) := by
  refine FnP.of Tryz.func9 rfl rfl (by simp) (by simp [AV.cells, aIn, aOut, aLn, aCl, aRp, Stk.aIt, Ssn.aSe, aSt]) (fun G hG => ?_)
  have hN : NoH G.length (.tup [.sl ((doP l c).1.map Stk.aIt), aRp (doP l c).2]) := (by simp [AV.cells, aIn, aOut, aLn, aCl, aRp, Stk.aIt, Ssn.aSe, aSt])
  refine sr fun _ => ?_
  refine ρy ?_
  refine ma ?_
  refine ρs (j := 0) zv31 ?_
  refine ez ?_
  refine AWP.seq ?_
  refine sr fun _ => ?_
  refine mv ?_
  refine ρl cf26 (fun hg => Stk.check_fn l) ?_
  refine mz ?_
  refine sr fun _ => ?_
  refine mv ?_
  refine ρ1 ?_
  refine ez ?_
  refine ρn (fun h0 => ?_) (fun h0 => ?_)
  · simp at h0
    refine sr fun _ => ?_
    refine mv ?_
    refine mv ?_
    refine ρi cf27 ?_ (hF := fun hg => told_fn (Stk.okE l) [] (by simp))
    refine ma ?_
    refine ρ2 sz31 ?_
    refine ez ?_
    refine AWP.ret (thenA_r ?_)
    refine ρe (rs := [.tmp 4, .cell 5 31]) (.cons (.tmp rfl) (.cons (.cellA rfl ((hG.at _ _).trans rfl) U31 rfl sz31 rfl rfl) .nil)) ?_
    rw [do_0 h0, okE_two h0]; rfl
  simp at h0
  refine AWP.skip (thenA_n (AWP.seq ?_))
  refine sr fun _ => ?_
  refine ρq U25 sz25 ?_
  refine ARun.call rfl rfl rfl rfl cf28 (ep rfl) (.cons (ep rfl) .nil) rfl (fun hg => check_fn c (by omega)) optN ?_
  refine mz ?_
  refine sr fun _ => ?_
  refine mv ?_
  refine ARun.isNil rfl rfl rfl rfl U53 (ep rfl) (fun hg => by first | rfl | exact nilA_aEr _) (.inr ⟨rfl, rfl⟩) optN ?_
  refine ez ?_
  refine ρn (fun h1 => ?_) (fun h1 => ?_)
  · simp only [new_none] at h1
    simp at h1
    refine sr fun _ => ?_
    refine mv ?_
    refine mv ?_
    refine ρl cf25 (fun hg => code_fn (Er.new tCall (checkP c))) ?_
    refine ρi cf27 ?_ (hF := fun hg => told_fn (Er.new tCall (checkP c)).code [] (by simp))
    refine ma ?_
    refine ρ2 sz31 ?_
    refine ez ?_
    refine AWP.ret (thenA_r ?_)
    refine ρe (rs := [.tmp 4, .cell 5 31]) (.cons (.tmp rfl) (.cons (.cellA rfl ((hG.at _ _).trans rfl) U31 rfl sz31 rfl rfl) .nil)) ?_
    rw [do_1 h0 h1, new_code]; rfl
  simp only [new_none] at h1
  simp at h1
  refine AWP.skip (thenA_n ?_)
  refine sr fun _ => ?_
  refine mv ?_
  refine ρ5 U25 sz3 ?_
  refine ρb U3 ?_
  refine ρg cf29 (fun hg => of8_fn l c.kind hk) ?_
  refine mz ?_
  refine sr fun _ => ?_
  refine mv ?_
  refine ρq U25 sz25 ?_
  refine ρl cf70 (fun hg => orderS_fn l c hl hc) ?_
  refine ρ9 ?_
  refine ρ9 ?_
  refine ma ?_
  refine ρ2 sz31 ?_
  refine ez ?_
  refine AWP.ret ?_
  refine ρe (rs := [.tmp 4, .cell 5 31]) (.cons (.tmp rfl) (.cons (.cellA rfl ((hG.at _ _).trans rfl) U31 rfl sz31 rfl rfl) .nil)) ?_
  rw [do_2 h0 h1, kind_8 hk]; rfl
set_option maxHeartbeats 1000000 in
theorem do1_fn (l : Its) (c : Cl) (hl : l.length ≤ 100) (hc : c.lines.length ≤ 1000) (hk : checkP c = 0 → c.kind ≠ 6 ∧ c.kind ≠ 7 ∧ c.kind ≠ 8 ∧ 1 ≤ c.kind ∧ c.kind ≤ 5) : FnP Tryz.prog 9 [.sl (l.map Stk.aIt), aCl c] (.tup [.sl ((doP l c).1.map Stk.aIt), aRp (doP l c).2]) := by
  refine FnP.of Tryz.func9 rfl rfl (by simp) (by simp [AV.cells, aIn, aOut, aLn, aCl, aRp, Stk.aIt, Ssn.aSe, aSt]) (fun G hG => ?_)
  have hN : NoH G.length (.tup [.sl ((doP l c).1.map Stk.aIt), aRp (doP l c).2]) := (by simp [AV.cells, aIn, aOut, aLn, aCl, aRp, Stk.aIt, Ssn.aSe, aSt])
  refine sr fun _ => ?_
  refine ρy ?_
  refine ma ?_
  refine ρs (j := 0) zv31 ?_
  refine ez ?_
  refine AWP.seq ?_
  refine sr fun _ => ?_
  refine mv ?_
  refine ρl cf26 (fun hg => Stk.check_fn l) ?_
  refine mz ?_
  refine sr fun _ => ?_
  refine mv ?_
  refine ρ1 ?_
  refine ez ?_
  refine ρn (fun h0 => ?_) (fun h0 => ?_)
  · simp at h0
    refine sr fun _ => ?_
    refine mv ?_
    refine mv ?_
    refine ρi cf27 ?_ (hF := fun hg => told_fn (Stk.okE l) [] (by simp))
    refine ma ?_
    refine ρ2 sz31 ?_
    refine ez ?_
    refine AWP.ret (thenA_r ?_)
    refine ρe (rs := [.tmp 4, .cell 5 31]) (.cons (.tmp rfl) (.cons (.cellA rfl ((hG.at _ _).trans rfl) U31 rfl sz31 rfl rfl) .nil)) ?_
    rw [do_0 h0, okE_two h0]; rfl
  simp at h0
  refine AWP.skip (thenA_n (AWP.seq ?_))
  refine sr fun _ => ?_
  refine ρq U25 sz25 ?_
  refine ARun.call rfl rfl rfl rfl cf28 (ep rfl) (.cons (ep rfl) .nil) rfl (fun hg => check_fn c (by omega)) optN ?_
  refine mz ?_
  refine sr fun _ => ?_
  refine mv ?_
  refine ARun.isNil rfl rfl rfl rfl U53 (ep rfl) (fun hg => by first | rfl | exact nilA_aEr _) (.inr ⟨rfl, rfl⟩) optN ?_
  refine ez ?_
  refine ρn (fun h1 => ?_) (fun h1 => ?_)
  · simp only [new_none] at h1
    simp at h1
    refine sr fun _ => ?_
    refine mv ?_
    refine mv ?_
    refine ρl cf25 (fun hg => code_fn (Er.new tCall (checkP c))) ?_
    refine ρi cf27 ?_ (hF := fun hg => told_fn (Er.new tCall (checkP c)).code [] (by simp))
    refine ma ?_
    refine ρ2 sz31 ?_
    refine ez ?_
    refine AWP.ret (thenA_r ?_)
    refine ρe (rs := [.tmp 4, .cell 5 31]) (.cons (.tmp rfl) (.cons (.cellA rfl ((hG.at _ _).trans rfl) U31 rfl sz31 rfl rfl) .nil)) ?_
    rw [do_1 h0 h1, new_code]; rfl
  simp only [new_none] at h1
  simp at h1
  refine AWP.skip (thenA_n ?_)
  refine sr fun _ => ?_
  refine mv ?_
  refine ρ5 U25 sz3 ?_
  refine ρb U3 ?_
  refine ρg cf29 (fun hg => of1_fn l c.kind ⟨(hk h1).1, (hk h1).2.1, (hk h1).2.2.1⟩) ?_
  refine mz ?_
  refine sr fun _ => ?_
  refine mv ?_
  refine ρq U25 sz25 ?_
  refine ρl cf71 (fun hg => one_fn l c hl (hk h1).2.2.2) ?_
  refine ρ9 ?_
  refine ρ9 ?_
  refine ma ?_
  refine ρ2 sz31 ?_
  refine ez ?_
  refine AWP.ret ?_
  refine ρe (rs := [.tmp 4, .cell 5 31]) (.cons (.tmp rfl) (.cons (.cellA rfl ((hG.at _ _).trans rfl) U31 rfl sz31 rfl rfl) .nil)) ?_
  rw [do_2 h0 h1, kind_o ⟨(hk h1).1, (hk h1).2.1, (hk h1).2.2.1⟩]; rfl
theorem kind_rng {c : Cl} (h : checkP c = 0) : 1 ≤ c.kind ∧ c.kind ≤ 8 := (check_ok h).2.2.1
theorem do_fn (l : Its) (c : Cl) (hl : l.length ≤ 100) (hc : c.lines.length ≤ 1000) : FnP Tryz.prog 9 [.sl (l.map Stk.aIt), aCl c] (.tup [.sl ((doP l c).1.map Stk.aIt), aRp (doP l c).2]) := by
  by_cases h6 : c.kind = 6
  · exact do6_fn l c hl hc h6
  by_cases h7 : c.kind = 7
  · exact do7_fn l c hl hc h7
  by_cases h8 : c.kind = 8
  · exact do8_fn l c hl hc h8
  exact do1_fn l c hl hc fun h => by have := kind_rng h; exact ⟨h6, h7, h8, by omega, by omega⟩
set_option maxHeartbeats 1000000 in
theorem chkS_fn (s : St) : FnP Tryz.prog 18 [aSt s] (.int .i64 (chkP s)) := by
  refine FnP.of Tryz.func18 rfl rfl (by simp) (by simp [AV.cells, aIn, aOut, aLn, aCl, aRp, Stk.aIt, Ssn.aSe, aSt]) (fun G hG => ?_)
  have hN : NoH G.length (.int .i64 (chkP s)) := (by simp [AV.cells, aIn, aOut, aLn, aCl, aRp, Stk.aIt, Ssn.aSe, aSt])
  refine sr fun _ => ?_
  refine ρy ?_
  refine mz ?_
  refine AWP.seq ?_
  refine sr fun _ => ?_
  refine ρ5 U39 sz22 ?_
  refine ρb U22 ?_
  refine ρl cf26 (fun hg => Stk.check_fn s.1) ?_
  refine ρ1 ?_
  refine mv ?_
  refine ρ8 U39 sz37 ?_
  refine ρ3 U37 ?_
  refine ρm cf44 (fun hg => Ssn.check_fn s.2) ?_
  refine ρ6 ?_
  refine ρ4 ?_
  refine ez ?_
  refine ρn (fun h0 => ?_) (fun h0 => ?_)
  · simp at h0
    refine sr fun _ => ?_
    refine mz ?_
    refine AWP.ret (thenA_r ?_)
    refine ρd ?_
    rw [chkP, if_neg (by rintro ⟨a, b⟩; rcases h0 with h0 | h0 <;> contradiction)]; rfl
  simp at h0
  refine AWP.skip (thenA_n ?_)
  refine sr fun _ => ?_
  refine mz ?_
  refine AWP.ret ?_
  refine ρd ?_
  rw [chkP, if_pos h0]; rfl
set_option maxHeartbeats 1000000 in
theorem bytes_fn (r : Rp) (hn : r.nums.length ≤ 1000) (hf : ∀ x, x ∈ r.nums → -9223372036854775808 ≤ x ∧ x ≤ 9223372036854775807) : FnP Tryz.prog 48 [aRp r] (.str (putR r)) := by
  refine FnP.of Tryz.func48 rfl rfl (by simp) (by simp [AV.cells, aIn, aOut, aLn, aCl, aRp, Stk.aIt, Ssn.aSe, aSt]) (fun G hG => ?_)
  have hN : NoH G.length (.str (putR r)) := (by simp [AV.cells, aIn, aOut, aLn, aCl, aRp, Stk.aIt, Ssn.aSe, aSt])
  refine sr fun _ => ?_
  refine ρy ?_
  refine mz ?_
  refine sr fun _ => ?_
  refine ρq U31 sz31 ?_
  refine ARun.call rfl rfl rfl rfl cf80 (ep rfl) (.cons (ep rfl) .nil) rfl (fun hg => putR_c r (by omega) hf) optN ?_
  refine mv ?_
  refine ρ9 ?_
  refine ρ9 ?_
  refine ma ?_
  refine mz ?_
  refine sr fun _ => ?_
  refine mv ?_
  refine mz ?_
  refine AWP.ret ?_
  refine ρd ?_
  rfl
set_option maxHeartbeats 1000000 in
theorem apply_fn (s : St) (p : ByteArray) (hp : p.size ≤ 2000) (h1s : s.1.length ≤ 60) (h2s : s.2.length ≤ 60) : FnP Tryz.prog 21 [aSt s, .str p] (.tup [aSt (applyP s p).1, .str (applyP s p).2]) := by
  have hdl := do_len s.1 (takeC p) h1s
  have htl := takeC_len p
  have hrl := putR_len (doP s.1 (takeC p)).2
  refine FnP.of Tryz.func21 rfl rfl (by simp) (by simp [AV.cells, aIn, aOut, aLn, aCl, aRp, Stk.aIt, Ssn.aSe, aSt]) (fun G hG => ?_)
  have hN : NoH G.length (.tup [aSt (applyP s p).1, .str (applyP s p).2]) := (by simp [AV.cells, aIn, aOut, aLn, aCl, aRp, Stk.aIt, Ssn.aSe, aSt])
  refine sr fun _ => ?_
  refine ρy ?_
  refine ρs (j := 0) zv39 ?_
  refine mz ?_
  refine AWP.seq ?_
  refine sr fun _ => ?_
  refine ρq U39 sz39 ?_
  refine ρl cf18 (fun hg => chkS_fn s) ?_
  refine mz ?_
  refine sr fun _ => ?_
  refine mv ?_
  refine ρ1 ?_
  refine ez ?_
  refine ρn (fun h0 => ?_) (fun h0 => ?_)
  · simp at h0
    refine AWP.seq ?_
    refine AWP.draw mixed (by kernel_rfl) (fun _ => ?_)
    refine ρq U39 sz39 ?_
    refine mv ?_
    refine ρi cf27 ?_ (hF := fun hg => told_fn (chkP s) [] (by simp))
    refine ARun.call rfl rfl rfl rfl cf48 (ep rfl) (.cons (ep rfl) .nil) rfl (fun hg => bytes_fn ⟨chkP s, []⟩ (by simp) (by simp)) optN ?_
    refine ρ2 sz39 ?_
    refine ma ?_
    refine ⟨by kernel_rfl, _, _, rfl, hG, ?_⟩
    refine thenA_n (AWP.ret (thenA_r ?_))
    refine ρe (rs := [.cell 4 39, .tmp 5]) (.cons (.cellA rfl ((hG.at _ _).trans rfl) U39 rfl sz39 rfl rfl) (.cons (.tmp rfl) .nil)) ?_
    rw [applyP, if_neg h0, chk_two h0]; rfl
  simp at h0
  refine AWP.skip (thenA_n ?_)
  refine sr fun _ => ?_
  refine mv ?_
  refine ARun.call rfl rfl rfl rfl cf23 (ep rfl) (.cons (ep rfl) .nil) rfl (fun hg => take_c p (by omega)) optN ?_
  refine mv ?_
  refine ρ9 ?_
  refine ρ9 ?_
  refine ρs (j := 1) zv25 ?_
  refine ρ2 sz25 ?_
  refine mz ?_
  refine AWP.seq ?_
  refine sr fun _ => ?_
  refine mv ?_
  refine ARun.isNil rfl rfl rfl rfl U53 (ep rfl) (fun hg => by first | rfl | exact nilA_aEr _) (.inr ⟨rfl, rfl⟩) optN ?_
  refine ez ?_
  refine ρn (fun h1 => ?_) (fun h1 => ?_)
  · simp only [takeErr_none] at h1
    simp at h1
    refine AWP.seq ?_
    refine AWP.draw mixed (by kernel_rfl) (fun _ => ?_)
    refine ρq U39 sz39 ?_
    refine mv ?_
    refine ρl cf25 (fun hg => code_fn (takeErr p)) ?_
    refine ρi cf27 ?_ (hF := fun hg => told_fn (takeErr p).code [] (by simp))
    refine ARun.call rfl rfl rfl rfl cf48 (ep rfl) (.cons (ep rfl) .nil) rfl (fun hg => bytes_fn ⟨(takeErr p).code, []⟩ (by simp) (by simp)) optN ?_
    refine ρ2 sz39 ?_
    refine ma ?_
    refine ⟨by kernel_rfl, _, _, rfl, hG, ?_⟩
    refine thenA_n (AWP.ret (thenA_r ?_))
    refine ρe (rs := [.cell 4 39, .tmp 5]) (.cons (.cellA rfl ((hG.at _ _).trans rfl) U39 rfl sz39 rfl rfl) (.cons (.tmp rfl) .nil)) ?_
    rw [applyP, if_pos h0, if_neg h1, takeErr_code]; rfl
  simp only [takeErr_none] at h1
  simp at h1
  refine AWP.skip (thenA_n ?_)
  refine sr fun _ => ?_
  refine ρ5 U39 sz37 ?_
  refine ρb U37 ?_
  refine ρ7 (fo := 0) U25 sz3 ?_
  refine ρf U3 ?_
  refine ρ7 (fo := 1) U25 sz3 ?_
  refine ρf U3 ?_
  refine ARun.call rfl rfl rfl rfl cf49 (ep rfl) (.cons (ep rfl) (.cons (ep rfl) (.cons (ep rfl) .nil))) rfl (fun hg => Ssn.ask_fn s.2 (takeC p).client (takeC p).seq (by omega)) optN ?_
  refine mv ?_
  refine ρ9 ?_
  refine ρ9 ?_
  refine ρ9 ?_
  refine ma ?_
  refine ma ?_
  refine mz ?_
  refine AWP.seq (AWP.block ?_)
  refine sr fun _ => ?_
  refine mv ?_
  refine ρ1 ?_
  refine mz ?_
  refine ρn (fun h2 => ?_) (fun h2 => ?_)
  · simp at h2
    refine AWP.seq ?_
    refine AWP.draw mixed (by kernel_rfl) (fun _ => ?_)
    refine ρq U39 sz39 ?_
    refine mv ?_
    refine ρi cf27 ?_ (hF := fun hg => told_fn (asP s p).2.2 [] (by simp))
    refine ARun.call rfl rfl rfl rfl cf48 (ep rfl) (.cons (ep rfl) .nil) rfl (fun hg => bytes_fn ⟨(asP s p).2.2, []⟩ (by simp) (by simp)) optN ?_
    refine ρ2 sz39 ?_
    refine ma ?_
    refine ⟨by kernel_rfl, _, _, rfl, hG, ?_⟩
    refine thenA_n (AWP.ret ?_)
    refine blockA_r (thenA_r ?_)
    refine ρe (rs := [.cell 4 39, .tmp 5]) (.cons (.cellA rfl ((hG.at _ _).trans rfl) U39 rfl sz39 rfl rfl) (.cons (.tmp rfl) .nil)) ?_
    rw [applyP, if_pos h0, if_pos h1, if_neg h2]; rfl
  simp at h2
  refine sr fun _ => ?_
  refine mv ?_
  refine mz ?_
  refine ρn (fun h3 => ?_) (fun h3 => ?_)
  · refine sr fun _ => ?_
    refine ρq U39 sz39 ?_
    refine mv ?_
    refine ρ2 sz39 ?_
    refine mz ?_
    refine AWP.ret (blockA_r (thenA_r ?_))
    refine ρe (rs := [.cell 4 39, .tmp 5]) (.cons (.cellA rfl ((hG.at _ _).trans rfl) U39 rfl sz39 rfl rfl) (.cons (.tmp rfl) .nil)) ?_
    rw [applyP, if_pos h0, if_pos h1, if_pos h2, if_pos h3]; rfl
  try simp at h3
  have hnz := note_zero h1 (by omega) h2 h3
  refine AWP.skip (blockA_n (thenA_n ?_))
  refine sr fun _ => ?_
  refine ρ5 U39 sz22 ?_
  refine ρb U22 ?_
  refine ρp U25 sz25 ?_
  refine ρi cf9 ?_ (hF := fun hg => do_fn s.1 (takeC p) (by omega) (by omega))
  refine mv ?_
  refine ρ9 ?_
  refine ρ9 ?_
  refine ρs (j := 2) zv31 ?_
  refine ma ?_
  refine ρ2 sz31 ?_
  refine ez ?_
  refine sr fun _ => ?_
  refine ρp U31 sz31 ?_
  refine ARun.call rfl rfl rfl rfl cf48 (ep rfl) (.cons (ep rfl) .nil) rfl (fun hg => bytes_fn (doP s.1 (takeC p)).2 (by have := (do_fine s.1 (takeC p)).len; omega) (do_fine s.1 (takeC p)).num) optN ?_
  refine mz ?_
  refine sr fun _ => ?_
  refine ρ5 U39 sz37 ?_
  refine ρb U37 ?_
  refine ρ7 (fo := 0) U25 sz3 ?_
  refine ρf U3 ?_
  refine ρ7 (fo := 1) U25 sz3 ?_
  refine ρf U3 ?_
  refine mv ?_
  refine ARun.build rfl rfl rfl rfl so60 (.cons (ep rfl) (.cons (ep rfl) (.cons (ep rfl) .nil))) rfl rfl optN ?_
  refine ρi cf50 ?_ (hF := fun hg => Ssn.note_fn s.2 (nwP s p) (by omega) (by show (putR _).size ≤ _; omega))
  refine mv ?_
  refine ρ9 ?_
  refine ρ9 ?_
  refine ma ?_
  refine mz ?_
  refine AWP.seq ?_
  refine sr fun _ => ?_
  refine mv ?_
  refine ρ1 ?_
  refine ez ?_
  refine ρn (fun h4 => ?_) (fun h4 => ?_)
  · simp [hnz] at h4
  refine AWP.skip (thenA_n ?_)
  refine sr fun _ => ?_
  refine mv ?_
  refine ARun.call rfl rfl rfl rfl cf51 (ep rfl) (.cons (ep rfl) .nil) rfl (fun hg => cloneIt_fn (doP s.1 (takeC p)).1 (by omega)) optN ?_
  refine mv ?_
  refine ARun.build rfl rfl rfl rfl so39 (.cons (ep rfl) (.cons (ep rfl) .nil)) rfl rfl optN ?_
  refine mv ?_
  refine ρ2 sz39 ?_
  refine mz ?_
  refine AWP.ret ?_
  refine ρe (rs := [.cell 4 39, .tmp 5]) (.cons (.cellA rfl ((hG.at _ _).trans rfl) U39 rfl sz39 rfl rfl) (.cons (.tmp rfl) .nil)) ?_
  rw [applyP, if_pos h0, if_pos h1, if_pos h2, if_neg (by simp [h3])]; rfl
set_option maxHeartbeats 1000000 in
theorem doR1_fn (l : Its) (c : Cl) (hl : l.length ≤ 100) (hc : c.lines.length ≤ 1000) (hk : c.kind = 1) : FnP Tryz.prog 10 [.sl (l.map Stk.aIt), aCl c] (.tup [.sl ((doP l c).1.map Stk.aIt), aRp (doP l c).2]) := by
  have hol := one_len l c.item c.qty
  refine FnP.of Tryz.func10 rfl rfl (by simp) (by simp [AV.cells, aIn, aOut, aLn, aCl, aRp, Stk.aIt, Ssn.aSe, aSt]) (fun G hG => ?_)
  have hN : NoH G.length (.tup [.sl ((doP l c).1.map Stk.aIt), aRp (doP l c).2]) := (by simp [AV.cells, aIn, aOut, aLn, aCl, aRp, Stk.aIt, Ssn.aSe, aSt])
  refine sr fun _ => ?_
  refine ρy ?_
  refine ma ?_
  refine ρs (j := 0) zv31 ?_
  refine ez ?_
  refine AWP.seq ?_
  refine sr fun _ => ?_
  refine mv ?_
  refine ρl cf30 (fun hg => Stk.checkR_fn l) ?_
  refine ρ1 ?_
  refine ez ?_
  refine ρn (fun h0 => ?_) (fun h0 => ?_)
  · simp at h0
    refine sr fun _ => ?_
    refine mv ?_
    refine ρg cf31 (fun hg => toldR_fn 2 []) ?_
    refine ma ?_
    refine ρ2 sz31 ?_
    refine ez ?_
    refine AWP.ret (thenA_r ?_)
    refine ρe (rs := [.tmp 4, .cell 5 31]) (.cons (.tmp rfl) (.cons (.cellA rfl ((hG.at _ _).trans rfl) U31 rfl sz31 rfl rfl) .nil)) ?_
    rw [do_0 h0]; rfl
  simp at h0
  refine AWP.skip (thenA_n ?_)
  refine sr fun _ => ?_
  refine ρq U25 sz25 ?_
  refine ARun.call rfl rfl rfl rfl cf32 (ep rfl) (.cons (ep rfl) .nil) rfl (fun hg => checkR_fn c (by omega)) optN ?_
  refine mz ?_
  refine AWP.seq ?_
  refine sr fun _ => ?_
  refine mv ?_
  refine ρ1 ?_
  refine ez ?_
  refine ρn (fun h1 => ?_) (fun h1 => ?_)
  · simp at h1
    refine sr fun _ => ?_
    refine mv ?_
    refine mv ?_
    refine ρg cf31 (fun hg => toldR_fn (checkP c) []) ?_
    refine ma ?_
    refine ρ2 sz31 ?_
    refine ez ?_
    refine AWP.ret (thenA_r ?_)
    refine ρe (rs := [.tmp 4, .cell 5 31]) (.cons (.tmp rfl) (.cons (.cellA rfl ((hG.at _ _).trans rfl) U31 rfl sz31 rfl rfl) .nil)) ?_
    rw [do_1 h0 h1]; rfl
  simp at h1
  refine AWP.skip (thenA_n ?_)
  refine sr fun _ => ?_
  refine mv ?_
  refine mz ?_
  refine AWP.seq ?_
  refine sr fun _ => ?_
  refine ρ5 U25 sz3 ?_
  refine ρb U3 ?_
  refine ez ?_
  refine AWP.block ?_
  refine sr fun _ => ?_
  refine ρ1 ?_
  refine mz ?_
  refine ρn (fun h2 => ?_) (fun h2 => ?_)
  · refine AWP.region (fun _ => ?_)
    refine mv ?_
    refine ρ5 U25 sz3 ?_
    refine ρb U3 ?_
    refine ρ5 U25 sz3 ?_
    refine ρb U3 ?_
    refine ARun.call rfl rfl rfl rfl cf33 (ep rfl) (.cons (ep rfl) (.cons (ep rfl) (.cons (ep rfl) .nil))) rfl (fun hg => Stk.createR_fn l c.item c.qty (by omega)) optN ?_
    refine mv ?_
    refine ρ9 ?_
    refine ρ9 ?_
    refine ma ?_
    refine ma ?_
    refine ⟨_, _, rfl, hG, ?_⟩
    refine blockA_n (thenA_n (AWP.seq ?_))
    refine sr fun _ => ?_
    refine mv ?_
    refine ρ1 ?_
    refine ez ?_
    refine ρn (fun h3 => ?_) (fun h3 => ?_)
    · simp at h3
      refine sr fun _ => ?_
      refine mv ?_
      refine mv ?_
      refine ρg cf31 (fun hg => toldR_fn (Stk.createP l c.item c.qty).2 []) ?_
      refine ma ?_
      refine ρ2 sz31 ?_
      refine ez ?_
      refine AWP.ret (thenA_r ?_)
      refine ρe (rs := [.tmp 4, .cell 5 31]) (.cons (.tmp rfl) (.cons (.cellA rfl ((hG.at _ _).trans rfl) U31 rfl sz31 rfl rfl) .nil)) ?_
      rw [do_2 h0 h1, kind_o (by omega), oneR_n (one_1 hk) h3]; rfl
    simp at h3
    refine AWP.skip (thenA_n (AWP.seq ?_))
    refine sr fun _ => ?_
    refine ρ5 U25 sz3 ?_
    refine ρb U3 ?_
    refine ρ1 ?_
    refine ez ?_
    refine ρn (fun h4 => ?_) (fun h4 => ?_)
    · simp [hk] at h4
    refine AWP.skip (thenA_n ?_)
    refine sr fun _ => ?_
    refine mv ?_
    refine mv ?_
    refine ρ5 U25 sz3 ?_
    refine ρb U3 ?_
    refine ρi cf40 ?_ (hF := fun hg => numbers_fn (Stk.createP l c.item c.qty).1 c.item (by omega))
    refine ρg cf31 (fun hg => toldR_fn 0 (numsP (Stk.createP l c.item c.qty).1 c.item)) ?_
    refine ma ?_
    refine ρ2 sz31 ?_
    refine ez ?_
    refine AWP.ret ?_
    refine ρe (rs := [.tmp 4, .cell 5 31]) (.cons (.tmp rfl) (.cons (.cellA rfl ((hG.at _ _).trans rfl) U31 rfl sz31 rfl rfl) .nil)) ?_
    rw [do_2 h0 h1, kind_o (by omega), oneR_y (one_1 hk) h3]; rfl
  simp [hk] at h2
set_option maxHeartbeats 1000000 in
theorem doR2_fn (l : Its) (c : Cl) (hl : l.length ≤ 100) (hc : c.lines.length ≤ 1000) (hk : c.kind = 2) : FnP Tryz.prog 10 [.sl (l.map Stk.aIt), aCl c] (.tup [.sl ((doP l c).1.map Stk.aIt), aRp (doP l c).2]) := by
  have hol := one_len l c.item c.qty
  refine FnP.of Tryz.func10 rfl rfl (by simp) (by simp [AV.cells, aIn, aOut, aLn, aCl, aRp, Stk.aIt, Ssn.aSe, aSt]) (fun G hG => ?_)
  have hN : NoH G.length (.tup [.sl ((doP l c).1.map Stk.aIt), aRp (doP l c).2]) := (by simp [AV.cells, aIn, aOut, aLn, aCl, aRp, Stk.aIt, Ssn.aSe, aSt])
  refine sr fun _ => ?_
  refine ρy ?_
  refine ma ?_
  refine ρs (j := 0) zv31 ?_
  refine ez ?_
  refine AWP.seq ?_
  refine sr fun _ => ?_
  refine mv ?_
  refine ρl cf30 (fun hg => Stk.checkR_fn l) ?_
  refine ρ1 ?_
  refine ez ?_
  refine ρn (fun h0 => ?_) (fun h0 => ?_)
  · simp at h0
    refine sr fun _ => ?_
    refine mv ?_
    refine ρg cf31 (fun hg => toldR_fn 2 []) ?_
    refine ma ?_
    refine ρ2 sz31 ?_
    refine ez ?_
    refine AWP.ret (thenA_r ?_)
    refine ρe (rs := [.tmp 4, .cell 5 31]) (.cons (.tmp rfl) (.cons (.cellA rfl ((hG.at _ _).trans rfl) U31 rfl sz31 rfl rfl) .nil)) ?_
    rw [do_0 h0]; rfl
  simp at h0
  refine AWP.skip (thenA_n ?_)
  refine sr fun _ => ?_
  refine ρq U25 sz25 ?_
  refine ARun.call rfl rfl rfl rfl cf32 (ep rfl) (.cons (ep rfl) .nil) rfl (fun hg => checkR_fn c (by omega)) optN ?_
  refine mz ?_
  refine AWP.seq ?_
  refine sr fun _ => ?_
  refine mv ?_
  refine ρ1 ?_
  refine ez ?_
  refine ρn (fun h1 => ?_) (fun h1 => ?_)
  · simp at h1
    refine sr fun _ => ?_
    refine mv ?_
    refine mv ?_
    refine ρg cf31 (fun hg => toldR_fn (checkP c) []) ?_
    refine ma ?_
    refine ρ2 sz31 ?_
    refine ez ?_
    refine AWP.ret (thenA_r ?_)
    refine ρe (rs := [.tmp 4, .cell 5 31]) (.cons (.tmp rfl) (.cons (.cellA rfl ((hG.at _ _).trans rfl) U31 rfl sz31 rfl rfl) .nil)) ?_
    rw [do_1 h0 h1]; rfl
  simp at h1
  refine AWP.skip (thenA_n ?_)
  refine sr fun _ => ?_
  refine mv ?_
  refine mz ?_
  refine AWP.seq ?_
  refine sr fun _ => ?_
  refine ρ5 U25 sz3 ?_
  refine ρb U3 ?_
  refine ez ?_
  refine AWP.block ?_
  refine sr fun _ => ?_
  refine ρ1 ?_
  refine mz ?_
  refine ρn (fun h2 => ?_) (fun h2 => ?_)
  · simp [hk] at h2
  refine sr fun _ => ?_
  refine ρ1 ?_
  refine mz ?_
  refine ρn (fun h3 => ?_) (fun h3 => ?_)
  · refine AWP.region (fun _ => ?_)
    refine mv ?_
    refine ρ5 U25 sz3 ?_
    refine ρb U3 ?_
    refine ρ5 U25 sz3 ?_
    refine ρb U3 ?_
    refine ARun.call rfl rfl rfl rfl cf34 (ep rfl) (.cons (ep rfl) (.cons (ep rfl) (.cons (ep rfl) .nil))) rfl (fun hg => Stk.restockR_fn l c.item c.qty (by omega)) optN ?_
    refine mv ?_
    refine ρ9 ?_
    refine ρ9 ?_
    refine ma ?_
    refine ma ?_
    refine ⟨_, _, rfl, hG, ?_⟩
    refine blockA_n (thenA_n (AWP.seq ?_))
    refine sr fun _ => ?_
    refine mv ?_
    refine ρ1 ?_
    refine ez ?_
    refine ρn (fun h4 => ?_) (fun h4 => ?_)
    · simp at h4
      refine sr fun _ => ?_
      refine mv ?_
      refine mv ?_
      refine ρg cf31 (fun hg => toldR_fn (StockP.withP (StockP.inG c.qty) l c.item c.qty).2 []) ?_
      refine ma ?_
      refine ρ2 sz31 ?_
      refine ez ?_
      refine AWP.ret (thenA_r ?_)
      refine ρe (rs := [.tmp 4, .cell 5 31]) (.cons (.tmp rfl) (.cons (.cellA rfl ((hG.at _ _).trans rfl) U31 rfl sz31 rfl rfl) .nil)) ?_
      rw [do_2 h0 h1, kind_o (by omega), oneR_n (one_2 hk) h4]; rfl
    simp at h4
    refine AWP.skip (thenA_n (AWP.seq ?_))
    refine sr fun _ => ?_
    refine ρ5 U25 sz3 ?_
    refine ρb U3 ?_
    refine ρ1 ?_
    refine ez ?_
    refine ρn (fun h5 => ?_) (fun h5 => ?_)
    · simp [hk] at h5
    refine AWP.skip (thenA_n ?_)
    refine sr fun _ => ?_
    refine mv ?_
    refine mv ?_
    refine ρ5 U25 sz3 ?_
    refine ρb U3 ?_
    refine ρi cf40 ?_ (hF := fun hg => numbers_fn (StockP.withP (StockP.inG c.qty) l c.item c.qty).1 c.item (by omega))
    refine ρg cf31 (fun hg => toldR_fn 0 (numsP (StockP.withP (StockP.inG c.qty) l c.item c.qty).1 c.item)) ?_
    refine ma ?_
    refine ρ2 sz31 ?_
    refine ez ?_
    refine AWP.ret ?_
    refine ρe (rs := [.tmp 4, .cell 5 31]) (.cons (.tmp rfl) (.cons (.cellA rfl ((hG.at _ _).trans rfl) U31 rfl sz31 rfl rfl) .nil)) ?_
    rw [do_2 h0 h1, kind_o (by omega), oneR_y (one_2 hk) h4]; rfl
  simp [hk] at h3
set_option maxHeartbeats 1000000 in
theorem doR3_fn (l : Its) (c : Cl) (hl : l.length ≤ 100) (hc : c.lines.length ≤ 1000) (hk : c.kind = 3) : FnP Tryz.prog 10 [.sl (l.map Stk.aIt), aCl c] (.tup [.sl ((doP l c).1.map Stk.aIt), aRp (doP l c).2]) := by
  have hol := one_len l c.item c.qty
  have hgm := Stk.goesM_1 l c.item c.qty
  have hgl : (Stk.goesM l c.item c.qty 1).1.length ≤ l.length := by rw [hgm]; exact hol.2.2.1
  refine FnP.of Tryz.func10 rfl rfl (by simp) (by simp [AV.cells, aIn, aOut, aLn, aCl, aRp, Stk.aIt, Ssn.aSe, aSt]) (fun G hG => ?_)
  have hN : NoH G.length (.tup [.sl ((doP l c).1.map Stk.aIt), aRp (doP l c).2]) := (by simp [AV.cells, aIn, aOut, aLn, aCl, aRp, Stk.aIt, Ssn.aSe, aSt])
  refine sr fun _ => ?_
  refine ρy ?_
  refine ma ?_
  refine ρs (j := 0) zv31 ?_
  refine ez ?_
  refine AWP.seq ?_
  refine sr fun _ => ?_
  refine mv ?_
  refine ρl cf30 (fun hg => Stk.checkR_fn l) ?_
  refine ρ1 ?_
  refine ez ?_
  refine ρn (fun h0 => ?_) (fun h0 => ?_)
  · simp at h0
    refine sr fun _ => ?_
    refine mv ?_
    refine ρg cf31 (fun hg => toldR_fn 2 []) ?_
    refine ma ?_
    refine ρ2 sz31 ?_
    refine ez ?_
    refine AWP.ret (thenA_r ?_)
    refine ρe (rs := [.tmp 4, .cell 5 31]) (.cons (.tmp rfl) (.cons (.cellA rfl ((hG.at _ _).trans rfl) U31 rfl sz31 rfl rfl) .nil)) ?_
    rw [do_0 h0]; rfl
  simp at h0
  refine AWP.skip (thenA_n ?_)
  refine sr fun _ => ?_
  refine ρq U25 sz25 ?_
  refine ARun.call rfl rfl rfl rfl cf32 (ep rfl) (.cons (ep rfl) .nil) rfl (fun hg => checkR_fn c (by omega)) optN ?_
  refine mz ?_
  refine AWP.seq ?_
  refine sr fun _ => ?_
  refine mv ?_
  refine ρ1 ?_
  refine ez ?_
  refine ρn (fun h1 => ?_) (fun h1 => ?_)
  · simp at h1
    refine sr fun _ => ?_
    refine mv ?_
    refine mv ?_
    refine ρg cf31 (fun hg => toldR_fn (checkP c) []) ?_
    refine ma ?_
    refine ρ2 sz31 ?_
    refine ez ?_
    refine AWP.ret (thenA_r ?_)
    refine ρe (rs := [.tmp 4, .cell 5 31]) (.cons (.tmp rfl) (.cons (.cellA rfl ((hG.at _ _).trans rfl) U31 rfl sz31 rfl rfl) .nil)) ?_
    rw [do_1 h0 h1]; rfl
  simp at h1
  refine AWP.skip (thenA_n ?_)
  refine sr fun _ => ?_
  refine mv ?_
  refine mz ?_
  refine AWP.seq ?_
  refine sr fun _ => ?_
  refine ρ5 U25 sz3 ?_
  refine ρb U3 ?_
  refine ez ?_
  refine AWP.block ?_
  refine sr fun _ => ?_
  refine ρ1 ?_
  refine mz ?_
  refine ρn (fun h2 => ?_) (fun h2 => ?_)
  · simp [hk] at h2
  refine sr fun _ => ?_
  refine ρ1 ?_
  refine mz ?_
  refine ρn (fun h3 => ?_) (fun h3 => ?_)
  · simp [hk] at h3
  refine AWP.seq ?_
  refine sr fun _ => ?_
  refine ρ1 ?_
  refine mz ?_
  refine ρn (fun h4 => ?_) (fun h4 => ?_)
  · refine AWP.skip (thenA_n ?_)
    refine ρn (fun h5 => ?_) (fun h5 => ?_)
    · refine AWP.region (fun _ => ?_)
      refine mv ?_
      refine ρ5 U25 sz3 ?_
      refine ρb U3 ?_
      refine ρ5 U25 sz3 ?_
      refine ρb U3 ?_
      refine ρ5 U25 sz3 ?_
      refine ρb U3 ?_
      first | refine ARun.arith rfl rfl rfl rfl (ep rfl) (ep rfl) rfl (fun hg => i64w (by (try simp at hg); first | omega | exact Nat.zero_lt_succ _)) optN ?_ | refine ρk ?_
      refine ARun.call rfl rfl rfl rfl cf35 (ep rfl) (.cons (ep rfl) (.cons (ep rfl) (.cons (ep rfl) (.cons (ep rfl) .nil)))) rfl (fun hg => (show FnP Tryz.prog 35 [.sl (l.map Stk.aIt), .int .i64 c.item, .int .i64 c.qty, .int .i64 (c.kind - 2)] _ from by rw [hk]; exact Stk.goesR_fn l c.item c.qty 1 (by omega))) optN ?_
      refine mv ?_
      refine ρ9 ?_
      refine ρ9 ?_
      refine ma ?_
      refine ma ?_
      refine ⟨_, _, rfl, hG, ?_⟩
      refine blockA_n (thenA_n (AWP.seq ?_))
      refine sr fun _ => ?_
      refine mv ?_
      refine ρ1 ?_
      refine ez ?_
      refine ρn (fun h6 => ?_) (fun h6 => ?_)
      · simp at h6
        refine sr fun _ => ?_
        refine mv ?_
        refine mv ?_
        refine ρg cf31 (fun hg => toldR_fn (Stk.goesM l c.item c.qty 1).2 []) ?_
        refine ma ?_
        refine ρ2 sz31 ?_
        refine ez ?_
        refine AWP.ret (thenA_r ?_)
        refine ρe (rs := [.tmp 4, .cell 5 31]) (.cons (.tmp rfl) (.cons (.cellA rfl ((hG.at _ _).trans rfl) U31 rfl sz31 rfl rfl) .nil)) ?_
        rw [do_2 h0 h1, kind_o (by omega), oneR_n ((one_3 hk).trans hgm.symm) h6]; rfl
      simp at h6
      refine AWP.skip (thenA_n (AWP.seq ?_))
      refine sr fun _ => ?_
      refine ρ5 U25 sz3 ?_
      refine ρb U3 ?_
      refine ρ1 ?_
      refine ez ?_
      refine ρn (fun h7 => ?_) (fun h7 => ?_)
      · simp [hk] at h7
      refine AWP.skip (thenA_n ?_)
      refine sr fun _ => ?_
      refine mv ?_
      refine mv ?_
      refine ρ5 U25 sz3 ?_
      refine ρb U3 ?_
      refine ρi cf40 ?_ (hF := fun hg => numbers_fn (Stk.goesM l c.item c.qty 1).1 c.item (by omega))
      refine ρg cf31 (fun hg => toldR_fn 0 (numsP (Stk.goesM l c.item c.qty 1).1 c.item)) ?_
      refine ma ?_
      refine ρ2 sz31 ?_
      refine ez ?_
      refine AWP.ret ?_
      refine ρe (rs := [.tmp 4, .cell 5 31]) (.cons (.tmp rfl) (.cons (.cellA rfl ((hG.at _ _).trans rfl) U31 rfl sz31 rfl rfl) .nil)) ?_
      rw [do_2 h0 h1, kind_o (by omega), oneR_y ((one_3 hk).trans hgm.symm) h6]; rfl
    simp [hk] at h5
  simp [hk] at h4
set_option maxHeartbeats 1000000 in
theorem doR4_fn (l : Its) (c : Cl) (hl : l.length ≤ 100) (hc : c.lines.length ≤ 1000) (hk : c.kind = 4) : FnP Tryz.prog 10 [.sl (l.map Stk.aIt), aCl c] (.tup [.sl ((doP l c).1.map Stk.aIt), aRp (doP l c).2]) := by
  have hol := one_len l c.item c.qty
  have hgm := goesM_2 l c.item c.qty
  have hgl : (Stk.goesM l c.item c.qty 2).1.length ≤ l.length := by rw [hgm]; exact hol.2.2.2.1
  refine FnP.of Tryz.func10 rfl rfl (by simp) (by simp [AV.cells, aIn, aOut, aLn, aCl, aRp, Stk.aIt, Ssn.aSe, aSt]) (fun G hG => ?_)
  have hN : NoH G.length (.tup [.sl ((doP l c).1.map Stk.aIt), aRp (doP l c).2]) := (by simp [AV.cells, aIn, aOut, aLn, aCl, aRp, Stk.aIt, Ssn.aSe, aSt])
  refine sr fun _ => ?_
  refine ρy ?_
  refine ma ?_
  refine ρs (j := 0) zv31 ?_
  refine ez ?_
  refine AWP.seq ?_
  refine sr fun _ => ?_
  refine mv ?_
  refine ρl cf30 (fun hg => Stk.checkR_fn l) ?_
  refine ρ1 ?_
  refine ez ?_
  refine ρn (fun h0 => ?_) (fun h0 => ?_)
  · simp at h0
    refine sr fun _ => ?_
    refine mv ?_
    refine ρg cf31 (fun hg => toldR_fn 2 []) ?_
    refine ma ?_
    refine ρ2 sz31 ?_
    refine ez ?_
    refine AWP.ret (thenA_r ?_)
    refine ρe (rs := [.tmp 4, .cell 5 31]) (.cons (.tmp rfl) (.cons (.cellA rfl ((hG.at _ _).trans rfl) U31 rfl sz31 rfl rfl) .nil)) ?_
    rw [do_0 h0]; rfl
  simp at h0
  refine AWP.skip (thenA_n ?_)
  refine sr fun _ => ?_
  refine ρq U25 sz25 ?_
  refine ARun.call rfl rfl rfl rfl cf32 (ep rfl) (.cons (ep rfl) .nil) rfl (fun hg => checkR_fn c (by omega)) optN ?_
  refine mz ?_
  refine AWP.seq ?_
  refine sr fun _ => ?_
  refine mv ?_
  refine ρ1 ?_
  refine ez ?_
  refine ρn (fun h1 => ?_) (fun h1 => ?_)
  · simp at h1
    refine sr fun _ => ?_
    refine mv ?_
    refine mv ?_
    refine ρg cf31 (fun hg => toldR_fn (checkP c) []) ?_
    refine ma ?_
    refine ρ2 sz31 ?_
    refine ez ?_
    refine AWP.ret (thenA_r ?_)
    refine ρe (rs := [.tmp 4, .cell 5 31]) (.cons (.tmp rfl) (.cons (.cellA rfl ((hG.at _ _).trans rfl) U31 rfl sz31 rfl rfl) .nil)) ?_
    rw [do_1 h0 h1]; rfl
  simp at h1
  refine AWP.skip (thenA_n ?_)
  refine sr fun _ => ?_
  refine mv ?_
  refine mz ?_
  refine AWP.seq ?_
  refine sr fun _ => ?_
  refine ρ5 U25 sz3 ?_
  refine ρb U3 ?_
  refine ez ?_
  refine AWP.block ?_
  refine sr fun _ => ?_
  refine ρ1 ?_
  refine mz ?_
  refine ρn (fun h2 => ?_) (fun h2 => ?_)
  · simp [hk] at h2
  refine sr fun _ => ?_
  refine ρ1 ?_
  refine mz ?_
  refine ρn (fun h3 => ?_) (fun h3 => ?_)
  · simp [hk] at h3
  refine AWP.seq ?_
  refine sr fun _ => ?_
  refine ρ1 ?_
  refine mz ?_
  refine ρn (fun h4 => ?_) (fun h4 => ?_)
  · simp [hk] at h4
  refine sr fun _ => ?_
  refine ρ1 ?_
  refine mz ?_
  refine ρn (fun h5 => ?_) (fun h5 => ?_)
  · refine AWP.skip (thenA_n ?_)
    refine ρn (fun h6 => ?_) (fun h6 => ?_)
    · refine AWP.region (fun _ => ?_)
      refine mv ?_
      refine ρ5 U25 sz3 ?_
      refine ρb U3 ?_
      refine ρ5 U25 sz3 ?_
      refine ρb U3 ?_
      refine ρ5 U25 sz3 ?_
      refine ρb U3 ?_
      first | refine ARun.arith rfl rfl rfl rfl (ep rfl) (ep rfl) rfl (fun hg => i64w (by (try simp at hg); first | omega | exact Nat.zero_lt_succ _)) optN ?_ | refine ρk ?_
      refine ARun.call rfl rfl rfl rfl cf35 (ep rfl) (.cons (ep rfl) (.cons (ep rfl) (.cons (ep rfl) (.cons (ep rfl) .nil)))) rfl (fun hg => (show FnP Tryz.prog 35 [.sl (l.map Stk.aIt), .int .i64 c.item, .int .i64 c.qty, .int .i64 (c.kind - 2)] _ from by rw [hk]; exact Stk.goesR_fn l c.item c.qty 2 (by omega))) optN ?_
      refine mv ?_
      refine ρ9 ?_
      refine ρ9 ?_
      refine ma ?_
      refine ma ?_
      refine ⟨_, _, rfl, hG, ?_⟩
      refine blockA_n (thenA_n (AWP.seq ?_))
      refine sr fun _ => ?_
      refine mv ?_
      refine ρ1 ?_
      refine ez ?_
      refine ρn (fun h7 => ?_) (fun h7 => ?_)
      · simp at h7
        refine sr fun _ => ?_
        refine mv ?_
        refine mv ?_
        refine ρg cf31 (fun hg => toldR_fn (Stk.goesM l c.item c.qty 2).2 []) ?_
        refine ma ?_
        refine ρ2 sz31 ?_
        refine ez ?_
        refine AWP.ret (thenA_r ?_)
        refine ρe (rs := [.tmp 4, .cell 5 31]) (.cons (.tmp rfl) (.cons (.cellA rfl ((hG.at _ _).trans rfl) U31 rfl sz31 rfl rfl) .nil)) ?_
        rw [do_2 h0 h1, kind_o (by omega), oneR_n ((one_4 hk).trans hgm.symm) h7]; rfl
      simp at h7
      refine AWP.skip (thenA_n (AWP.seq ?_))
      refine sr fun _ => ?_
      refine ρ5 U25 sz3 ?_
      refine ρb U3 ?_
      refine ρ1 ?_
      refine ez ?_
      refine ρn (fun h8 => ?_) (fun h8 => ?_)
      · simp [hk] at h8
      refine AWP.skip (thenA_n ?_)
      refine sr fun _ => ?_
      refine mv ?_
      refine mv ?_
      refine ρ5 U25 sz3 ?_
      refine ρb U3 ?_
      refine ρi cf40 ?_ (hF := fun hg => numbers_fn (Stk.goesM l c.item c.qty 2).1 c.item (by omega))
      refine ρg cf31 (fun hg => toldR_fn 0 (numsP (Stk.goesM l c.item c.qty 2).1 c.item)) ?_
      refine ma ?_
      refine ρ2 sz31 ?_
      refine ez ?_
      refine AWP.ret ?_
      refine ρe (rs := [.tmp 4, .cell 5 31]) (.cons (.tmp rfl) (.cons (.cellA rfl ((hG.at _ _).trans rfl) U31 rfl sz31 rfl rfl) .nil)) ?_
      rw [do_2 h0 h1, kind_o (by omega), oneR_y ((one_4 hk).trans hgm.symm) h7]; rfl
    simp [hk] at h6
  simp [hk] at h5
set_option maxHeartbeats 1000000 in
theorem doR5_fn (l : Its) (c : Cl) (hl : l.length ≤ 100) (hc : c.lines.length ≤ 1000) (hk : c.kind = 5) : FnP Tryz.prog 10 [.sl (l.map Stk.aIt), aCl c] (.tup [.sl ((doP l c).1.map Stk.aIt), aRp (doP l c).2]) := by
  have hol := one_len l c.item c.qty
  have hgm := goesM_3 l c.item c.qty
  have hgl : (Stk.goesM l c.item c.qty 3).1.length ≤ l.length := by rw [hgm]; exact hol.2.2.2.2
  refine FnP.of Tryz.func10 rfl rfl (by simp) (by simp [AV.cells, aIn, aOut, aLn, aCl, aRp, Stk.aIt, Ssn.aSe, aSt]) (fun G hG => ?_)
  have hN : NoH G.length (.tup [.sl ((doP l c).1.map Stk.aIt), aRp (doP l c).2]) := (by simp [AV.cells, aIn, aOut, aLn, aCl, aRp, Stk.aIt, Ssn.aSe, aSt])
  refine sr fun _ => ?_
  refine ρy ?_
  refine ma ?_
  refine ρs (j := 0) zv31 ?_
  refine ez ?_
  refine AWP.seq ?_
  refine sr fun _ => ?_
  refine mv ?_
  refine ρl cf30 (fun hg => Stk.checkR_fn l) ?_
  refine ρ1 ?_
  refine ez ?_
  refine ρn (fun h0 => ?_) (fun h0 => ?_)
  · simp at h0
    refine sr fun _ => ?_
    refine mv ?_
    refine ρg cf31 (fun hg => toldR_fn 2 []) ?_
    refine ma ?_
    refine ρ2 sz31 ?_
    refine ez ?_
    refine AWP.ret (thenA_r ?_)
    refine ρe (rs := [.tmp 4, .cell 5 31]) (.cons (.tmp rfl) (.cons (.cellA rfl ((hG.at _ _).trans rfl) U31 rfl sz31 rfl rfl) .nil)) ?_
    rw [do_0 h0]; rfl
  simp at h0
  refine AWP.skip (thenA_n ?_)
  refine sr fun _ => ?_
  refine ρq U25 sz25 ?_
  refine ARun.call rfl rfl rfl rfl cf32 (ep rfl) (.cons (ep rfl) .nil) rfl (fun hg => checkR_fn c (by omega)) optN ?_
  refine mz ?_
  refine AWP.seq ?_
  refine sr fun _ => ?_
  refine mv ?_
  refine ρ1 ?_
  refine ez ?_
  refine ρn (fun h1 => ?_) (fun h1 => ?_)
  · simp at h1
    refine sr fun _ => ?_
    refine mv ?_
    refine mv ?_
    refine ρg cf31 (fun hg => toldR_fn (checkP c) []) ?_
    refine ma ?_
    refine ρ2 sz31 ?_
    refine ez ?_
    refine AWP.ret (thenA_r ?_)
    refine ρe (rs := [.tmp 4, .cell 5 31]) (.cons (.tmp rfl) (.cons (.cellA rfl ((hG.at _ _).trans rfl) U31 rfl sz31 rfl rfl) .nil)) ?_
    rw [do_1 h0 h1]; rfl
  simp at h1
  refine AWP.skip (thenA_n ?_)
  refine sr fun _ => ?_
  refine mv ?_
  refine mz ?_
  refine AWP.seq ?_
  refine sr fun _ => ?_
  refine ρ5 U25 sz3 ?_
  refine ρb U3 ?_
  refine ez ?_
  refine AWP.block ?_
  refine sr fun _ => ?_
  refine ρ1 ?_
  refine mz ?_
  refine ρn (fun h2 => ?_) (fun h2 => ?_)
  · simp [hk] at h2
  refine sr fun _ => ?_
  refine ρ1 ?_
  refine mz ?_
  refine ρn (fun h3 => ?_) (fun h3 => ?_)
  · simp [hk] at h3
  refine AWP.seq ?_
  refine sr fun _ => ?_
  refine ρ1 ?_
  refine mz ?_
  refine ρn (fun h4 => ?_) (fun h4 => ?_)
  · simp [hk] at h4
  refine sr fun _ => ?_
  refine ρ1 ?_
  refine mz ?_
  refine ρn (fun h5 => ?_) (fun h5 => ?_)
  · simp [hk] at h5
  refine AWP.region (fun _ => ?_)
  refine ρ1 ?_
  refine mz ?_
  refine ρn (fun h6 => ?_) (fun h6 => ?_)
  · refine AWP.region (fun _ => ?_)
    refine mv ?_
    refine ρ5 U25 sz3 ?_
    refine ρb U3 ?_
    refine ρ5 U25 sz3 ?_
    refine ρb U3 ?_
    refine ρ5 U25 sz3 ?_
    refine ρb U3 ?_
    first | refine ARun.arith rfl rfl rfl rfl (ep rfl) (ep rfl) rfl (fun hg => i64w (by (try simp at hg); first | omega | exact Nat.zero_lt_succ _)) optN ?_ | refine ρk ?_
    refine ARun.call rfl rfl rfl rfl cf35 (ep rfl) (.cons (ep rfl) (.cons (ep rfl) (.cons (ep rfl) (.cons (ep rfl) .nil)))) rfl (fun hg => (show FnP Tryz.prog 35 [.sl (l.map Stk.aIt), .int .i64 c.item, .int .i64 c.qty, .int .i64 (c.kind - 2)] _ from by rw [hk]; exact Stk.goesR_fn l c.item c.qty 3 (by omega))) optN ?_
    refine mv ?_
    refine ρ9 ?_
    refine ρ9 ?_
    refine ma ?_
    refine ma ?_
    refine ⟨_, _, rfl, hG, ?_⟩
    refine blockA_n (thenA_n (AWP.seq ?_))
    refine sr fun _ => ?_
    refine mv ?_
    refine ρ1 ?_
    refine ez ?_
    refine ρn (fun h7 => ?_) (fun h7 => ?_)
    · simp at h7
      refine sr fun _ => ?_
      refine mv ?_
      refine mv ?_
      refine ρg cf31 (fun hg => toldR_fn (Stk.goesM l c.item c.qty 3).2 []) ?_
      refine ma ?_
      refine ρ2 sz31 ?_
      refine ez ?_
      refine AWP.ret (thenA_r ?_)
      refine ρe (rs := [.tmp 4, .cell 5 31]) (.cons (.tmp rfl) (.cons (.cellA rfl ((hG.at _ _).trans rfl) U31 rfl sz31 rfl rfl) .nil)) ?_
      rw [do_2 h0 h1, kind_o (by omega), oneR_n ((one_5 hk).trans hgm.symm) h7]; rfl
    simp at h7
    refine AWP.skip (thenA_n (AWP.seq ?_))
    refine sr fun _ => ?_
    refine ρ5 U25 sz3 ?_
    refine ρb U3 ?_
    refine ρ1 ?_
    refine ez ?_
    refine ρn (fun h8 => ?_) (fun h8 => ?_)
    · simp [hk] at h8
    refine AWP.skip (thenA_n ?_)
    refine sr fun _ => ?_
    refine mv ?_
    refine mv ?_
    refine ρ5 U25 sz3 ?_
    refine ρb U3 ?_
    refine ρi cf40 ?_ (hF := fun hg => numbers_fn (Stk.goesM l c.item c.qty 3).1 c.item (by omega))
    refine ρg cf31 (fun hg => toldR_fn 0 (numsP (Stk.goesM l c.item c.qty 3).1 c.item)) ?_
    refine ma ?_
    refine ρ2 sz31 ?_
    refine ez ?_
    refine AWP.ret ?_
    refine ρe (rs := [.tmp 4, .cell 5 31]) (.cons (.tmp rfl) (.cons (.cellA rfl ((hG.at _ _).trans rfl) U31 rfl sz31 rfl rfl) .nil)) ?_
    rw [do_2 h0 h1, kind_o (by omega), oneR_y ((one_5 hk).trans hgm.symm) h7]; rfl
  simp [hk] at h6
set_option maxHeartbeats 1000000 in
theorem doR6_fn (l : Its) (c : Cl) (hl : l.length ≤ 100) (hc : c.lines.length ≤ 1000) (hk : c.kind = 6) : FnP Tryz.prog 10 [.sl (l.map Stk.aIt), aCl c] (.tup [.sl ((doP l c).1.map Stk.aIt), aRp (doP l c).2]) := by
  have hml : (mvP l c).1.length ≤ l.length := Stk.move_len l c.item c.to_ c.qty
  refine FnP.of Tryz.func10 rfl rfl (by simp) (by simp [AV.cells, aIn, aOut, aLn, aCl, aRp, Stk.aIt, Ssn.aSe, aSt]) (fun G hG => ?_)
  have hN : NoH G.length (.tup [.sl ((doP l c).1.map Stk.aIt), aRp (doP l c).2]) := (by simp [AV.cells, aIn, aOut, aLn, aCl, aRp, Stk.aIt, Ssn.aSe, aSt])
  refine sr fun _ => ?_
  refine ρy ?_
  refine ma ?_
  refine ρs (j := 0) zv31 ?_
  refine ez ?_
  refine AWP.seq ?_
  refine sr fun _ => ?_
  refine mv ?_
  refine ρl cf30 (fun hg => Stk.checkR_fn l) ?_
  refine ρ1 ?_
  refine ez ?_
  refine ρn (fun h0 => ?_) (fun h0 => ?_)
  · simp at h0
    refine sr fun _ => ?_
    refine mv ?_
    refine ρg cf31 (fun hg => toldR_fn 2 []) ?_
    refine ma ?_
    refine ρ2 sz31 ?_
    refine ez ?_
    refine AWP.ret (thenA_r ?_)
    refine ρe (rs := [.tmp 4, .cell 5 31]) (.cons (.tmp rfl) (.cons (.cellA rfl ((hG.at _ _).trans rfl) U31 rfl sz31 rfl rfl) .nil)) ?_
    rw [do_0 h0]; rfl
  simp at h0
  refine AWP.skip (thenA_n ?_)
  refine sr fun _ => ?_
  refine ρq U25 sz25 ?_
  refine ARun.call rfl rfl rfl rfl cf32 (ep rfl) (.cons (ep rfl) .nil) rfl (fun hg => checkR_fn c (by omega)) optN ?_
  refine mz ?_
  refine AWP.seq ?_
  refine sr fun _ => ?_
  refine mv ?_
  refine ρ1 ?_
  refine ez ?_
  refine ρn (fun h1 => ?_) (fun h1 => ?_)
  · simp at h1
    refine sr fun _ => ?_
    refine mv ?_
    refine mv ?_
    refine ρg cf31 (fun hg => toldR_fn (checkP c) []) ?_
    refine ma ?_
    refine ρ2 sz31 ?_
    refine ez ?_
    refine AWP.ret (thenA_r ?_)
    refine ρe (rs := [.tmp 4, .cell 5 31]) (.cons (.tmp rfl) (.cons (.cellA rfl ((hG.at _ _).trans rfl) U31 rfl sz31 rfl rfl) .nil)) ?_
    rw [do_1 h0 h1]; rfl
  simp at h1
  refine AWP.skip (thenA_n ?_)
  refine sr fun _ => ?_
  refine mv ?_
  refine mz ?_
  refine AWP.seq ?_
  refine sr fun _ => ?_
  refine ρ5 U25 sz3 ?_
  refine ρb U3 ?_
  refine ez ?_
  refine AWP.block ?_
  refine sr fun _ => ?_
  refine ρ1 ?_
  refine mz ?_
  refine ρn (fun h2 => ?_) (fun h2 => ?_)
  · simp [hk] at h2
  refine sr fun _ => ?_
  refine ρ1 ?_
  refine mz ?_
  refine ρn (fun h3 => ?_) (fun h3 => ?_)
  · simp [hk] at h3
  refine AWP.seq ?_
  refine sr fun _ => ?_
  refine ρ1 ?_
  refine mz ?_
  refine ρn (fun h4 => ?_) (fun h4 => ?_)
  · simp [hk] at h4
  refine sr fun _ => ?_
  refine ρ1 ?_
  refine mz ?_
  refine ρn (fun h5 => ?_) (fun h5 => ?_)
  · simp [hk] at h5
  refine AWP.region (fun _ => ?_)
  refine ρ1 ?_
  refine mz ?_
  refine ρn (fun h6 => ?_) (fun h6 => ?_)
  · simp [hk] at h6
  refine sr fun _ => ?_
  refine ρ1 ?_
  refine mz ?_
  refine ρn (fun h7 => ?_) (fun h7 => ?_)
  · refine AWP.region (fun _ => ?_)
    refine mv ?_
    refine ρ5 U25 sz3 ?_
    refine ρb U3 ?_
    refine ρ5 U25 sz3 ?_
    refine ρb U3 ?_
    refine ρ5 U25 sz3 ?_
    refine ρb U3 ?_
    refine ARun.call rfl rfl rfl rfl cf36 (ep rfl) (.cons (ep rfl) (.cons (ep rfl) (.cons (ep rfl) (.cons (ep rfl) .nil)))) rfl (fun hg => Stk.moveR_fn l c.item c.to_ c.qty (by omega)) optN ?_
    refine mv ?_
    refine ρ9 ?_
    refine ρ9 ?_
    refine ma ?_
    refine ma ?_
    refine ⟨_, _, rfl, hG, ?_⟩
    refine blockA_n (thenA_n (AWP.seq ?_))
    refine sr fun _ => ?_
    refine mv ?_
    refine ρ1 ?_
    refine ez ?_
    refine ρn (fun h8 => ?_) (fun h8 => ?_)
    · simp at h8
      refine sr fun _ => ?_
      refine mv ?_
      refine mv ?_
      refine ρg cf31 (fun hg => toldR_fn (mvP l c).2 []) ?_
      refine ma ?_
      refine ρ2 sz31 ?_
      refine ez ?_
      refine AWP.ret (thenA_r ?_)
      refine ρe (rs := [.tmp 4, .cell 5 31]) (.cons (.tmp rfl) (.cons (.cellA rfl ((hG.at _ _).trans rfl) U31 rfl sz31 rfl rfl) .nil)) ?_
      rw [do_2 h0 h1, kind_6 hk, moveR, if_neg h8]; rfl
    simp at h8
    refine AWP.skip (thenA_n (AWP.seq ?_))
    refine sr fun _ => ?_
    refine ρ5 U25 sz3 ?_
    refine ρb U3 ?_
    refine ρ1 ?_
    refine ez ?_
    refine ρn (fun h9 => ?_) (fun h9 => ?_)
    · refine AWP.seq ?_
      refine AWP.draw mixed (by kernel_rfl) (fun _ => ?_)
      refine mv ?_
      refine mv ?_
      refine ρ5 U25 sz3 ?_
      refine ρb U3 ?_
      refine ρi cf40 ?_ (hF := fun hg => numbers_fn (mvP l c).1 c.item (by omega))
      first | refine ARun.indexSl rfl rfl rfl rfl U29 sz3 (ep rfl) (ep rfl) (fun _ => rfl) (fun hg => getMap _ _ _ (by (try simp at hg); first | omega | exact Nat.zero_lt_succ _)) rfl rfl optN ?_ | refine ARun.indexSl rfl rfl rfl rfl U29 sz3 (ep rfl) (ep rfl) (fun hg => ofNonneg (by (try simp at hg); first | omega | exact Nat.zero_lt_succ _)) (fun hg => getMap _ _ _ (by (try simp at hg); first | omega | exact Nat.zero_lt_succ _)) rfl rfl optN ?_
      refine ρb U3 ?_
      refine mv ?_
      refine ρ5 U25 sz3 ?_
      refine ρb U3 ?_
      refine ρi cf40 ?_ (hF := fun hg => numbers_fn (mvP l c).1 c.to_ (by omega))
      first | refine ARun.indexSl rfl rfl rfl rfl U29 sz3 (ep rfl) (ep rfl) (fun _ => rfl) (fun hg => getMap _ _ _ (by (try simp at hg); first | omega | exact Nat.zero_lt_succ _)) rfl rfl optN ?_ | refine ARun.indexSl rfl rfl rfl rfl U29 sz3 (ep rfl) (ep rfl) (fun hg => ofNonneg (by (try simp at hg); first | omega | exact Nat.zero_lt_succ _)) (fun hg => getMap _ _ _ (by (try simp at hg); first | omega | exact Nat.zero_lt_succ _)) rfl rfl optN ?_
      refine ρb U3 ?_
      refine ARun.buildSl rfl rfl rfl rfl U29 sz3 zv3 rfl (by decide) (.cons (ep rfl) (.cons (ep rfl) .nil)) rfl rfl rfl rfl (by decide) rfl rfl optN ?_
      refine ρg cf31 (fun hg => toldR_fn 0 [(tF (mvP l c).1 c.item).free, (tF (mvP l c).1 c.to_).free]) ?_
      refine ma ?_
      refine ρ2 sz31 ?_
      refine ⟨by kernel_rfl, _, _, rfl, hG, ?_⟩
      refine thenA_n (AWP.ret (thenA_r ?_))
      refine ρe (rs := [.tmp 4, .cell 5 31]) (.cons (.tmp rfl) (.cons (.cellA rfl ((hG.at _ _).trans rfl) U31 rfl sz31 rfl rfl) .nil)) ?_
      rw [do_2 h0 h1, kind_6 hk, moveR, if_pos h8]; rfl
    simp [hk] at h9
  simp [hk] at h7
set_option maxHeartbeats 1000000 in
theorem doR7_fn (l : Its) (c : Cl) (hl : l.length ≤ 100) (hc : c.lines.length ≤ 1000) (hk : c.kind = 7) : FnP Tryz.prog 10 [.sl (l.map Stk.aIt), aCl c] (.tup [.sl ((doP l c).1.map Stk.aIt), aRp (doP l c).2]) := by
  refine FnP.of Tryz.func10 rfl rfl (by simp) (by simp [AV.cells, aIn, aOut, aLn, aCl, aRp, Stk.aIt, Ssn.aSe, aSt]) (fun G hG => ?_)
  have hN : NoH G.length (.tup [.sl ((doP l c).1.map Stk.aIt), aRp (doP l c).2]) := (by simp [AV.cells, aIn, aOut, aLn, aCl, aRp, Stk.aIt, Ssn.aSe, aSt])
  refine sr fun _ => ?_
  refine ρy ?_
  refine ma ?_
  refine ρs (j := 0) zv31 ?_
  refine ez ?_
  refine AWP.seq ?_
  refine sr fun _ => ?_
  refine mv ?_
  refine ρl cf30 (fun hg => Stk.checkR_fn l) ?_
  refine ρ1 ?_
  refine ez ?_
  refine ρn (fun h0 => ?_) (fun h0 => ?_)
  · simp at h0
    refine sr fun _ => ?_
    refine mv ?_
    refine ρg cf31 (fun hg => toldR_fn 2 []) ?_
    refine ma ?_
    refine ρ2 sz31 ?_
    refine ez ?_
    refine AWP.ret (thenA_r ?_)
    refine ρe (rs := [.tmp 4, .cell 5 31]) (.cons (.tmp rfl) (.cons (.cellA rfl ((hG.at _ _).trans rfl) U31 rfl sz31 rfl rfl) .nil)) ?_
    rw [do_0 h0]; rfl
  simp at h0
  refine AWP.skip (thenA_n ?_)
  refine sr fun _ => ?_
  refine ρq U25 sz25 ?_
  refine ARun.call rfl rfl rfl rfl cf32 (ep rfl) (.cons (ep rfl) .nil) rfl (fun hg => checkR_fn c (by omega)) optN ?_
  refine mz ?_
  refine AWP.seq ?_
  refine sr fun _ => ?_
  refine mv ?_
  refine ρ1 ?_
  refine ez ?_
  refine ρn (fun h1 => ?_) (fun h1 => ?_)
  · simp at h1
    refine sr fun _ => ?_
    refine mv ?_
    refine mv ?_
    refine ρg cf31 (fun hg => toldR_fn (checkP c) []) ?_
    refine ma ?_
    refine ρ2 sz31 ?_
    refine ez ?_
    refine AWP.ret (thenA_r ?_)
    refine ρe (rs := [.tmp 4, .cell 5 31]) (.cons (.tmp rfl) (.cons (.cellA rfl ((hG.at _ _).trans rfl) U31 rfl sz31 rfl rfl) .nil)) ?_
    rw [do_1 h0 h1]; rfl
  simp at h1
  refine AWP.skip (thenA_n ?_)
  refine sr fun _ => ?_
  refine mv ?_
  refine mz ?_
  refine AWP.seq ?_
  refine sr fun _ => ?_
  refine ρ5 U25 sz3 ?_
  refine ρb U3 ?_
  refine ez ?_
  refine AWP.block ?_
  refine sr fun _ => ?_
  refine ρ1 ?_
  refine mz ?_
  refine ρn (fun h2 => ?_) (fun h2 => ?_)
  · simp [hk] at h2
  refine sr fun _ => ?_
  refine ρ1 ?_
  refine mz ?_
  refine ρn (fun h3 => ?_) (fun h3 => ?_)
  · simp [hk] at h3
  refine AWP.seq ?_
  refine sr fun _ => ?_
  refine ρ1 ?_
  refine mz ?_
  refine ρn (fun h4 => ?_) (fun h4 => ?_)
  · simp [hk] at h4
  refine sr fun _ => ?_
  refine ρ1 ?_
  refine mz ?_
  refine ρn (fun h5 => ?_) (fun h5 => ?_)
  · simp [hk] at h5
  refine AWP.region (fun _ => ?_)
  refine ρ1 ?_
  refine mz ?_
  refine ρn (fun h6 => ?_) (fun h6 => ?_)
  · simp [hk] at h6
  refine sr fun _ => ?_
  refine ρ1 ?_
  refine mz ?_
  refine ρn (fun h7 => ?_) (fun h7 => ?_)
  · simp [hk] at h7
  refine sr fun _ => ?_
  refine ρ1 ?_
  refine mz ?_
  refine ρn (fun h8 => ?_) (fun h8 => ?_)
  · refine sr fun _ => ?_
    refine mv ?_
    refine ρ5 U25 sz3 ?_
    refine ρb U3 ?_
    refine ρi cf37 ?_ (hF := fun hg => Stk.findR_fn l c.item (by omega))
    refine mv ?_
    refine ρ9 ?_
    refine ρ9 ?_
    refine ρs (j := 1) zv64 ?_
    refine ρ2 sz64 ?_
    refine mz ?_
    refine sr fun _ => ?_
    refine mv ?_
    refine ρA ?_
    refine ez ?_
    refine ρn (fun h9 => ?_) (fun h9 => ?_)
    · simp at h9
      refine AWP.region (fun _ => ?_)
      refine ma ?_
      refine ⟨_, _, rfl, hG, ?_⟩
      refine blockA_n (thenA_n (AWP.seq ?_))
      refine sr fun _ => ?_
      refine mv ?_
      refine ρ1 ?_
      refine ez ?_
      refine ρn (fun h10 => ?_) (fun h10 => ?_)
      · refine sr fun _ => ?_
        refine mv ?_
        refine mv ?_
        refine ρg cf31 (fun hg => toldR_fn 40 []) ?_
        refine ma ?_
        refine ρ2 sz31 ?_
        refine ez ?_
        refine AWP.ret (thenA_r ?_)
        refine ρe (rs := [.tmp 4, .cell 5 31]) (.cons (.tmp rfl) (.cons (.cellA rfl ((hG.at _ _).trans rfl) U31 rfl sz31 rfl rfl) .nil)) ?_
        rw [do_2 h0 h1, kind_7 hk, queryR, if_neg (by simp [h9])]; rfl
      simp at h10
    simp at h9
    refine AWP.skip (blockA_n ?_)
    refine thenA_n (AWP.seq ?_)
    refine sr fun _ => ?_
    refine mv ?_
    refine ρ1 ?_
    refine ez ?_
    refine ρn (fun h11 => ?_) (fun h11 => ?_)
    · simp [h1] at h11
    refine AWP.skip (thenA_n (AWP.seq ?_))
    refine sr fun _ => ?_
    refine ρ5 U25 sz3 ?_
    refine ρb U3 ?_
    refine ρ1 ?_
    refine ez ?_
    refine ρn (fun h12 => ?_) (fun h12 => ?_)
    · simp [hk] at h12
    refine AWP.skip (thenA_n ?_)
    refine sr fun _ => ?_
    refine mv ?_
    refine mv ?_
    refine ρ5 U25 sz3 ?_
    refine ρb U3 ?_
    refine ρi cf40 ?_ (hF := fun hg => numbers_fn l c.item (by omega))
    refine ρg cf31 (fun hg => toldR_fn 0 (numsP l c.item)) ?_
    refine ma ?_
    refine ρ2 sz31 ?_
    refine ez ?_
    refine AWP.ret ?_
    refine ρe (rs := [.tmp 4, .cell 5 31]) (.cons (.tmp rfl) (.cons (.cellA rfl ((hG.at _ _).trans rfl) U31 rfl sz31 rfl rfl) .nil)) ?_
    rw [do_2 h0 h1, kind_7 hk, queryR, if_pos h9]; rfl
  simp [hk] at h8
set_option maxHeartbeats 1000000 in
theorem doR8_fn (l : Its) (c : Cl) (hl : l.length ≤ 100) (hc : c.lines.length ≤ 1000) (hk : c.kind = 8) : FnP Tryz.prog 10 [.sl (l.map Stk.aIt), aCl c] (.tup [.sl ((doP l c).1.map Stk.aIt), aRp (doP l c).2]) := by
  refine FnP.of Tryz.func10 rfl rfl (by simp) (by simp [AV.cells, aIn, aOut, aLn, aCl, aRp, Stk.aIt, Ssn.aSe, aSt]) (fun G hG => ?_)
  have hN : NoH G.length (.tup [.sl ((doP l c).1.map Stk.aIt), aRp (doP l c).2]) := (by simp [AV.cells, aIn, aOut, aLn, aCl, aRp, Stk.aIt, Ssn.aSe, aSt])
  refine sr fun _ => ?_
  refine ρy ?_
  refine ma ?_
  refine ρs (j := 0) zv31 ?_
  refine ez ?_
  refine AWP.seq ?_
  refine sr fun _ => ?_
  refine mv ?_
  refine ρl cf30 (fun hg => Stk.checkR_fn l) ?_
  refine ρ1 ?_
  refine ez ?_
  refine ρn (fun h0 => ?_) (fun h0 => ?_)
  · simp at h0
    refine sr fun _ => ?_
    refine mv ?_
    refine ρg cf31 (fun hg => toldR_fn 2 []) ?_
    refine ma ?_
    refine ρ2 sz31 ?_
    refine ez ?_
    refine AWP.ret (thenA_r ?_)
    refine ρe (rs := [.tmp 4, .cell 5 31]) (.cons (.tmp rfl) (.cons (.cellA rfl ((hG.at _ _).trans rfl) U31 rfl sz31 rfl rfl) .nil)) ?_
    rw [do_0 h0]; rfl
  simp at h0
  refine AWP.skip (thenA_n ?_)
  refine sr fun _ => ?_
  refine ρq U25 sz25 ?_
  refine ARun.call rfl rfl rfl rfl cf32 (ep rfl) (.cons (ep rfl) .nil) rfl (fun hg => checkR_fn c (by omega)) optN ?_
  refine mz ?_
  refine AWP.seq ?_
  refine sr fun _ => ?_
  refine mv ?_
  refine ρ1 ?_
  refine ez ?_
  refine ρn (fun h1 => ?_) (fun h1 => ?_)
  · simp at h1
    refine sr fun _ => ?_
    refine mv ?_
    refine mv ?_
    refine ρg cf31 (fun hg => toldR_fn (checkP c) []) ?_
    refine ma ?_
    refine ρ2 sz31 ?_
    refine ez ?_
    refine AWP.ret (thenA_r ?_)
    refine ρe (rs := [.tmp 4, .cell 5 31]) (.cons (.tmp rfl) (.cons (.cellA rfl ((hG.at _ _).trans rfl) U31 rfl sz31 rfl rfl) .nil)) ?_
    rw [do_1 h0 h1]; rfl
  simp at h1
  refine AWP.skip (thenA_n ?_)
  refine sr fun _ => ?_
  refine mv ?_
  refine mz ?_
  refine AWP.seq ?_
  refine sr fun _ => ?_
  refine ρ5 U25 sz3 ?_
  refine ρb U3 ?_
  refine ez ?_
  refine AWP.block ?_
  refine sr fun _ => ?_
  refine ρ1 ?_
  refine mz ?_
  refine ρn (fun h2 => ?_) (fun h2 => ?_)
  · simp [hk] at h2
  refine sr fun _ => ?_
  refine ρ1 ?_
  refine mz ?_
  refine ρn (fun h3 => ?_) (fun h3 => ?_)
  · simp [hk] at h3
  refine AWP.seq ?_
  refine sr fun _ => ?_
  refine ρ1 ?_
  refine mz ?_
  refine ρn (fun h4 => ?_) (fun h4 => ?_)
  · simp [hk] at h4
  refine sr fun _ => ?_
  refine ρ1 ?_
  refine mz ?_
  refine ρn (fun h5 => ?_) (fun h5 => ?_)
  · simp [hk] at h5
  refine AWP.region (fun _ => ?_)
  refine ρ1 ?_
  refine mz ?_
  refine ρn (fun h6 => ?_) (fun h6 => ?_)
  · simp [hk] at h6
  refine sr fun _ => ?_
  refine ρ1 ?_
  refine mz ?_
  refine ρn (fun h7 => ?_) (fun h7 => ?_)
  · simp [hk] at h7
  refine sr fun _ => ?_
  refine ρ1 ?_
  refine mz ?_
  refine ρn (fun h8 => ?_) (fun h8 => ?_)
  · simp [hk] at h8
  refine sr fun _ => ?_
  refine mv ?_
  refine ρ5 U25 sz23 ?_
  refine ρb U23 ?_
  refine ARun.call rfl rfl rfl rfl cf38 (ep rfl) (.cons (ep rfl) (.cons (ep rfl) (.cons (ep rfl) .nil))) rfl (fun hg => Stk.goesLR_fn l c.lines (by omega)) optN ?_
  refine mv ?_
  refine ρ9 ?_
  refine ρ9 ?_
  refine ρ9 ?_
  refine ma ?_
  refine ma ?_
  refine mz ?_
  refine AWP.seq ?_
  refine sr fun _ => ?_
  refine mv ?_
  refine ρ1 ?_
  refine ez ?_
  refine ρn (fun h9 => ?_) (fun h9 => ?_)
  · simp at h9
    refine sr fun _ => ?_
    refine mv ?_
    refine mv ?_
    refine mv ?_
    refine ARun.buildSl rfl rfl rfl rfl U29 sz3 zv3 rfl (by decide) (.cons (ep rfl) .nil) rfl rfl rfl rfl (by decide) rfl rfl optN ?_
    refine ρg cf31 (fun hg => toldR_fn (orP l c).2.2 [(orP l c).2.1]) ?_
    refine ma ?_
    refine ρ2 sz31 ?_
    refine ez ?_
    refine AWP.ret (thenA_r ?_)
    refine blockA_r (thenA_r ?_)
    refine ρe (rs := [.tmp 4, .cell 5 31]) (.cons (.tmp rfl) (.cons (.cellA rfl ((hG.at _ _).trans rfl) U31 rfl sz31 rfl rfl) .nil)) ?_
    rw [do_2 h0 h1, kind_8 hk, orderR, if_neg h9]; rfl
  simp at h9
  refine AWP.skip (thenA_n ?_)
  refine sr fun _ => ?_
  refine mv ?_
  refine ρ5 U25 sz23 ?_
  refine ρb U23 ?_
  refine ρl cf39 (fun hg => Stk.totalR_fn c.lines hc) ?_
  refine ARun.buildSl rfl rfl rfl rfl U29 sz3 zv3 rfl (by decide) (.cons (ep rfl) .nil) rfl rfl rfl rfl (by decide) rfl rfl optN ?_
  refine ρg cf31 (fun hg => toldR_fn 0 [StockP.totalP c.lines]) ?_
  refine ma ?_
  refine ρ2 sz31 ?_
  refine ez ?_
  refine AWP.ret (blockA_r (thenA_r ?_))
  refine ρe (rs := [.tmp 4, .cell 5 31]) (.cons (.tmp rfl) (.cons (.cellA rfl ((hG.at _ _).trans rfl) U31 rfl sz31 rfl rfl) .nil)) ?_
  rw [do_2 h0 h1, kind_8 hk, orderR, if_pos h9]; rfl
set_option maxHeartbeats 1000000 in
theorem doR0_fn (l : Its) (c : Cl) (hl : l.length ≤ 100) (hc : c.lines.length ≤ 1000) (hk : ¬ checkP c = 0) : FnP Tryz.prog 10 [.sl (l.map Stk.aIt), aCl c] (.tup [.sl ((doP l c).1.map Stk.aIt), aRp (doP l c).2]) := by
  refine FnP.of Tryz.func10 rfl rfl (by simp) (by simp [AV.cells, aIn, aOut, aLn, aCl, aRp, Stk.aIt, Ssn.aSe, aSt]) (fun G hG => ?_)
  have hN : NoH G.length (.tup [.sl ((doP l c).1.map Stk.aIt), aRp (doP l c).2]) := (by simp [AV.cells, aIn, aOut, aLn, aCl, aRp, Stk.aIt, Ssn.aSe, aSt])
  refine sr fun _ => ?_
  refine ρy ?_
  refine ma ?_
  refine ρs (j := 0) zv31 ?_
  refine ez ?_
  refine AWP.seq ?_
  refine sr fun _ => ?_
  refine mv ?_
  refine ρl cf30 (fun hg => Stk.checkR_fn l) ?_
  refine ρ1 ?_
  refine ez ?_
  refine ρn (fun h0 => ?_) (fun h0 => ?_)
  · simp at h0
    refine sr fun _ => ?_
    refine mv ?_
    refine ρg cf31 (fun hg => toldR_fn 2 []) ?_
    refine ma ?_
    refine ρ2 sz31 ?_
    refine ez ?_
    refine AWP.ret (thenA_r ?_)
    refine ρe (rs := [.tmp 4, .cell 5 31]) (.cons (.tmp rfl) (.cons (.cellA rfl ((hG.at _ _).trans rfl) U31 rfl sz31 rfl rfl) .nil)) ?_
    rw [do_0 h0]; rfl
  simp at h0
  refine AWP.skip (thenA_n ?_)
  refine sr fun _ => ?_
  refine ρq U25 sz25 ?_
  refine ARun.call rfl rfl rfl rfl cf32 (ep rfl) (.cons (ep rfl) .nil) rfl (fun hg => checkR_fn c (by omega)) optN ?_
  refine mz ?_
  refine AWP.seq ?_
  refine sr fun _ => ?_
  refine mv ?_
  refine ρ1 ?_
  refine ez ?_
  refine ρn (fun h1 => ?_) (fun h1 => ?_)
  · simp at h1
    refine sr fun _ => ?_
    refine mv ?_
    refine mv ?_
    refine ρg cf31 (fun hg => toldR_fn (checkP c) []) ?_
    refine ma ?_
    refine ρ2 sz31 ?_
    refine ez ?_
    refine AWP.ret (thenA_r ?_)
    refine ρe (rs := [.tmp 4, .cell 5 31]) (.cons (.tmp rfl) (.cons (.cellA rfl ((hG.at _ _).trans rfl) U31 rfl sz31 rfl rfl) .nil)) ?_
    rw [do_1 h0 h1]; rfl
  simp [hk] at h1
theorem doR_fn (l : Its) (c : Cl) (hl : l.length ≤ 100) (hc : c.lines.length ≤ 1000) : FnP Tryz.prog 10 [.sl (l.map Stk.aIt), aCl c] (.tup [.sl ((doP l c).1.map Stk.aIt), aRp (doP l c).2]) := by
  by_cases h : checkP c = 0
  · have hk := kind_rng h
    rcases (show c.kind = 1 ∨ c.kind = 2 ∨ c.kind = 3 ∨ c.kind = 4 ∨ c.kind = 5 ∨ c.kind = 6 ∨ c.kind = 7 ∨ c.kind = 8 by omega) with h | h | h | h | h | h | h | h
    · exact doR1_fn l c hl hc h
    · exact doR2_fn l c hl hc h
    · exact doR3_fn l c hl hc h
    · exact doR4_fn l c hl hc h
    · exact doR5_fn l c hl hc h
    · exact doR6_fn l c hl hc h
    · exact doR7_fn l c hl hc h
    exact doR8_fn l c hl hc h
  exact doR0_fn l c hl hc h
end Go.Proofs.YtgebpndhnkkbgaaGreatDoor
namespace Go.Proofs.YtgebpndhnkkbgaaGreatDoor
set_option linter.unusedVariables false
set_option linter.unusedSimpArgs false
open NumP
set_option linter.unusedVariables false
set_option linter.unusedSimpArgs false
set_option maxRecDepth 100000
def noted (l : Ses) (c q : Int) (r : ByteArray) (k : Nat) : Bool := (l.take k).any fun x => decide (x.client = c) && decide (x.seq = q) && decide (x.reply = r)
end Go.Proofs.YtgebpndhnkkbgaaGreatDoor
namespace Go.Proofs.YtgebpndhnkkbgaaGreatDoor
set_option linter.unusedVariables false
set_option linter.unusedSimpArgs false
open Go.RowKit
open NumP
set_option maxRecDepth 100000
set_option maxHeartbeats 1000000 in
theorem few10_fn (c : Cl) : FnP Tryz.prog 7 [aCl c] (.bool (decide (c.lines.length ≤ 50))) := by
  refine FnP.of Tryz.func7 rfl rfl (by simp) (by simp [AV.cells, aIn, aOut, aLn, aCl, aRp, Stk.aIt, Ssn.aSe, aSt]) (fun G hG => ?_)
  have hN : NoH G.length (.bool (decide (c.lines.length ≤ 50))) := (by simp [AV.cells, aIn, aOut, aLn, aCl, aRp, Stk.aIt, Ssn.aSe, aSt])
  refine sr fun _ => ?_
  refine ρy ?_
  refine mz ?_
  refine sr fun _ => ?_
  refine ρ5 U25 sz23 ?_
  refine ρb U23 ?_
  refine ρw U23 ?_
  refine ρ1 ?_
  refine mz ?_
  refine AWP.ret ?_
  refine ρd ?_
  simp; omega
set_option maxHeartbeats 1000000 in
theorem sameS_fn (a b : St) (h1 : a.1.length ≤ 1000) (h2 : a.2.length ≤ 1000) : FnP Tryz.prog 16 [aSt a, aSt b] (.bool (decide (a = b))) := by
  refine FnP.of Tryz.func16 rfl rfl (by simp) (by simp [AV.cells, aIn, aOut, aLn, aCl, aRp, Stk.aIt, Ssn.aSe, aSt]) (fun G hG => ?_)
  have hN : NoH G.length (.bool (decide (a = b))) := (by simp [AV.cells, aIn, aOut, aLn, aCl, aRp, Stk.aIt, Ssn.aSe, aSt])
  refine sr fun _ => ?_
  refine ρy ?_
  refine ρy ?_
  refine mz ?_
  refine sr fun _ => ?_
  refine ρ5 U39 sz22 ?_
  refine ρb U22 ?_
  refine ρ5 U39 sz22 ?_
  refine ρb U22 ?_
  refine ρi cf11 ?_ (hF := fun hg => Stk.same_fn a.1 b.1 (by omega))
  refine mv ?_
  refine ρ8 U39 sz37 ?_
  refine ρ3 U37 ?_
  refine ρ8 U39 sz37 ?_
  refine ρ3 U37 ?_
  refine ARun.call rfl rfl rfl rfl cf43 (ep rfl) (.cons (Ev.opt rfl (fun h => h)) (.cons (Ev.opt rfl (fun h => h)) .nil)) rfl (fun hg => Ssn.same_fn a.2 b.2 (by omega)) optS ?_
  refine ρ0 ?_
  refine mz ?_
  refine AWP.ret ?_
  refine ρd ?_
  refine congrArg AV.bool ?_
  rw [← Bool.decide_and]; exact decide_eq_decide.2 (by rw [Prod.ext_iff])
set_option maxHeartbeats 1000000 in
theorem sameV_fn (a b : St) (h1 : a.1.length ≤ 1000) (h2 : a.2.length ≤ 1000) : FnP Tryz.prog 20 [aSt a, aSt b] (.bool (decide (a = b))) := by
  refine FnP.of Tryz.func20 rfl rfl (by simp) (by simp [AV.cells, aIn, aOut, aLn, aCl, aRp, Stk.aIt, Ssn.aSe, aSt]) (fun G hG => ?_)
  have hN : NoH G.length (.bool (decide (a = b))) := (by simp [AV.cells, aIn, aOut, aLn, aCl, aRp, Stk.aIt, Ssn.aSe, aSt])
  refine sr fun _ => ?_
  refine ρy ?_
  refine ρy ?_
  refine mz ?_
  refine sr fun _ => ?_
  refine ρ5 U39 sz22 ?_
  refine ρb U22 ?_
  refine ρ5 U39 sz22 ?_
  refine ρb U22 ?_
  refine ρi cf46 ?_ (hF := fun hg => Stk.eq_fn a.1 b.1 (by omega))
  refine mv ?_
  refine ρ8 U39 sz37 ?_
  refine ρ3 U37 ?_
  refine ρ8 U39 sz37 ?_
  refine ρ3 U37 ?_
  refine ARun.call rfl rfl rfl rfl cf47 (ep rfl) (.cons (Ev.opt rfl (fun h => h)) (.cons (Ev.opt rfl (fun h => h)) .nil)) rfl (fun hg => Ssn.sameP_fn a.2 b.2 (by omega)) optS ?_
  refine ρ0 ?_
  refine mz ?_
  refine AWP.ret ?_
  refine ρd ?_
  refine congrArg AV.bool ?_
  rw [← Bool.decide_and]; exact decide_eq_decide.2 (by rw [Prod.ext_iff])
theorem str_snoc (l : List ByteArray) (x : ByteArray) : l.map AV.str ++ [AV.str x] = (l ++ [x]).map AV.str := by simp
set_option maxHeartbeats 1000000 in
theorem fold_fn (s : St) (l : List ByteArray) (hl : l.length ≤ 30) (hs : ∀ x, x ∈ l → x.size ≤ 2000) (h1s : s.1.length ≤ 60) (h2s : s.2.length ≤ 60) : FnP Tryz.prog 14 [aSt s, .sl (l.map AV.str)] (.tup [aSt (foldP s l).1, .sl ((foldP s l).2.map AV.str)]) := by
  have hfl := fold_len s l (fun x hx => by have := hs x hx; omega) h1s h2s
  have hxs : ∀ k, k < l.length → (l.getD k default).size ≤ 2000 := fun k hk => by rw [show l.getD k default = l[k] from by simp [List.getD, hk]]; exact hs _ (List.getElem_mem hk)
  refine FnP.of Tryz.func14 rfl rfl (by simp) (by simp [AV.cells, aIn, aOut, aLn, aCl, aRp, Stk.aIt, Ssn.aSe, aSt]) (fun G hG => ?_)
  have hN : NoH G.length (.tup [aSt (foldP s l).1, .sl ((foldP s l).2.map AV.str)]) := (by simp [AV.cells, aIn, aOut, aLn, aCl, aRp, Stk.aIt, Ssn.aSe, aSt])
  refine sr fun _ => ?_
  refine ARun.box (j := 0) hG rfl rfl rfl rfl rfl (ep rfl) rfl rfl optN ?_
  refine ρs (j := 1) zv39 ?_
  refine mz ?_
  refine sr fun _ => ?_
  refine ARun.nilOwn (e := 9) (z := 1) (j := 2) hG rfl ⟨.inl rfl, rfl⟩ (fun _ => rfl) rfl rfl rfl optN ?_
  refine ez ?_
  refine AWP.seq ?_
  refine sr fun _ => ?_
  refine mv ?_
  refine ρw U40 ?_
  refine mv ?_
  refine ez ?_
  refine AWP.block ?_
  refine AWP.rounds (fun st => st.1 ≤ l.length ∧ foldP s (l.take st.1) = (st.2.2.1, st.2.2.2)) (fun st => [(2, .box (G.length + 0) 0), (4, .box (G.length + 1) 0), (6, .own (G.length + 2) st.2.1), (11, .sl (l.map AV.str)), (12, .int .i64 ((l.map AV.str).length : Int)), (13, .int .i64 (st.1 : Int))]) (fun st => [.box [.sl ((st.2.2.1).1.map Stk.aIt), .sl ((st.2.2.1).2.map Ssn.aSe)], .box [.sl [], .sl []], .row st.2.1 9 1 (st.2.2.2.map AV.str)]) (fun st => l.length - st.1) 3 ((0, 0, s, []) : Nat × Nat × St × List ByteArray) ⟨Nat.zero_le _, rfl⟩ (by repeat (first | exact .nil | refine .cons rfl ?_)) rfl (fun _ => rfl) (fun _ => ⟨by simp [AV.cells], by simp [AO.conts, AV.cells, Stk.aIt, Ssn.aSe]; intro x a _ e; subst e; simp⟩) (fun st hI => ?_)
  obtain ⟨k, g, cur, out⟩ := st
  dsimp only at hI
  show AWP _ _ _ _ _ [(2, .box (G.length + 0) 0), (4, .box (G.length + 1) 0), (6, .own (G.length + 2) g), (11, .sl (l.map AV.str)), (12, .int .i64 ((l.map AV.str).length : Int)), (13, .int .i64 (k : Int))] _ [.box [.sl ((cur).1.map Stk.aIt), .sl ((cur).2.map Ssn.aSe)], .box [.sl [], .sl []], .row g 9 1 (out.map AV.str)]
  obtain ⟨hk, hcur⟩ := hI
  have hfk := hfl k hk
  rw [hcur] at hfk
  obtain ⟨⟨hc1, hc2⟩, hc3⟩ := hfk
  dsimp only at hc1 hc2 hc3
  refine sr fun _ => ?_
  refine ρ1 ?_
  refine ez ?_
  refine AWP.seq ?_
  refine ρn (fun h0 => ?_) (fun h0 => ?_)
  · try simp [-List.getD_eq_getElem?_getD] at h0
    refine AWP.skip (thenA_n ?_)
    refine AWP.seq (AWP.block ?_)
    refine sr fun _ => ?_
    first | refine ρh U40 sz9 ?_ | refine ρa U40 sz9 ?_
    refine ρb U9 ?_
    refine mz ?_
    refine sr fun _ => ?_
    refine ρp U39 sz39 ?_
    refine mv ?_
    refine ρi cf21 ?_ (hF := fun hg => apply_fn cur (l.getD k default) (hxs k (by omega)) hc1 hc2)
    refine mv ?_
    refine ρ9 ?_
    refine ρ9 ?_
    refine ρs (j := 3) zv39 ?_
    refine ρ2 sz39 ?_
    refine mz ?_
    refine AWP.frzBox 9 hG rfl rfl rfl ?_
    refine AWP.draw mixed (by kernel_rfl) (fun _ => ?_)
    refine ρq U39 sz39 ?_
    refine mv ?_
    refine mv ?_
    refine ARun.buildSl rfl rfl rfl rfl U40 sz9 zv9 rfl (by decide) (.cons (ep rfl) .nil) rfl rfl rfl rfl (by decide) rfl rfl optN ?_
    refine ARun.appendL hG rfl rfl rfl rfl U40 ti9 rfl (by decide) (ep rfl) (ep rfl) rfl rfl (by simp [maxLen]; omega) (by simp; omega) (str_snoc out (applyP cur (l.getD k default)).2) optN rfl ?_
    refine ρ2 sz39 ?_
    refine ma ?_
    refine ⟨by kernel_rfl, _, _, rfl, hG, ?_⟩
    refine blockA_n (thenA_n ?_)
    refine AWP.region (fun _ => ?_)
    first | refine ρc ?_ | refine ρk ?_
    refine mv ?_
    refine ⟨_, _, rfl, hG, ?_⟩
    refine thenA_n ⟨rfl, (k + 1, g + 1, (applyP cur (l.getD k default)).1, out ++ [(applyP cur (l.getD k default)).2]), _, ?_, ?_, rfl, ?_⟩
    · refine ⟨by dsimp only; omega, ?_⟩
      rw [fold_at s l k (by omega), hcur]; rfl
    · repeat (first | exact .nil | refine .cons rfl ?_)
    dsimp only; omega
  simp at h0
  obtain rfl : k = l.length := by omega
  rw [List.take_length] at hcur
  refine AWP.exit ?_
  refine thenA_x ?_
  refine thenA_x ?_
  refine blockA_h ?_
  refine thenA_n ?_
  refine sr fun _ => ?_
  refine ρp U39 sz39 ?_
  refine mv ?_
  refine ρ2 sz39 ?_
  refine mz ?_
  refine AWP.frzOwn 5 hG rfl rfl (by decide) (by simp [maxLen]; omega) rfl ?_
  refine AWP.ret ?_
  refine ρe (rs := [.cell 4 39, .tmp 5]) (.cons (.cellA rfl ((hG.at _ _).trans rfl) U39 rfl sz39 rfl rfl) (.cons (.tmp rfl) .nil)) ?_
  rw [hcur]; rfl
end Go.Proofs.YtgebpndhnkkbgaaGreatDoor
namespace Go.Proofs.YtgebpndhnkkbgaaGreatDoor
set_option linter.unusedVariables false
set_option linter.unusedSimpArgs false
open Go.RowKit
open NumP
set_option maxRecDepth 100000
def sS1 : St := (applyP (([], []) : St) (⟨#[1, 1, 1, 7, 0, 5, 0]⟩ : ByteArray)).1
theorem s1_len : sS1.1.length = 1 ∧ sS1.2.length = 1 := by decide +kernel
theorem f2_len : (foldP sS1 [(⟨#[1, 1, 1, 7, 0, 5, 0]⟩ : ByteArray), (⟨#[120]⟩ : ByteArray)]).2.length = 2 := by decide +kernel
theorem a2_len : (applyP sS1 (⟨#[1, 1, 1, 7, 0, 5, 0]⟩ : ByteArray)).1.1.length = 1 ∧ (applyP sS1 (⟨#[1, 1, 1, 7, 0, 5, 0]⟩ : ByteArray)).1.2.length = 1 := by decide +kernel
set_option maxHeartbeats 1000000 in
theorem awake_fn  : FnP Tryz.prog 8 [] (.bool true) := by
  obtain ⟨l1, l2⟩ := s1_len
  obtain ⟨a1, a2⟩ := a2_len
  have f2 := f2_len
  refine FnP.of Tryz.func8 rfl rfl (by simp) (by simp [AV.cells, aIn, aOut, aLn, aCl, aRp, Stk.aIt, Ssn.aSe, aSt]) (fun G hG => ?_)
  have hN : NoH G.length (.bool true) := (by simp [AV.cells, aIn, aOut, aLn, aCl, aRp, Stk.aIt, Ssn.aSe, aSt])
  refine sr fun _ => ?_
  refine mz ?_
  refine sr fun _ => ?_
  refine ARun.build rfl rfl rfl rfl so39 .nil rfl rfl optN ?_
  refine ρi cf21 ?_ (hF := fun hg => (show FnP Tryz.prog 21 [aSt (([], []) : St), .str (⟨#[1, 1, 1, 7, 0, 5, 0]⟩ : ByteArray)] (.tup [aSt sS1, .str (applyP (([], []) : St) (⟨#[1, 1, 1, 7, 0, 5, 0]⟩ : ByteArray)).2]) from apply_fn (([], []) : St) (⟨#[1, 1, 1, 7, 0, 5, 0]⟩ : ByteArray) (by decide) (by decide) (by decide)))
  refine mv ?_
  refine ρ9 ?_
  refine ρ9 ?_
  refine ρs (j := 0) zv39 ?_
  refine ρ2 sz39 ?_
  refine mz ?_
  refine sr fun _ => ?_
  refine ρp U39 sz39 ?_
  refine ρi cf21 ?_ (hF := fun hg => apply_fn sS1 (⟨#[1, 1, 1, 7, 0, 5, 0]⟩ : ByteArray) (by decide) (by omega) (by omega))
  refine mv ?_
  refine ρ9 ?_
  refine ρ9 ?_
  refine ρs (j := 1) zv39 ?_
  refine ρ2 sz39 ?_
  refine mz ?_
  refine sr fun _ => ?_
  refine ρp U39 sz39 ?_
  refine ARun.buildSl rfl rfl rfl rfl U40 sz9 zv9 rfl (by decide) (.cons (ep rfl) (.cons (ep rfl) .nil)) rfl rfl rfl rfl (by decide) rfl rfl optN ?_
  refine ρi cf14 ?_ (hF := fun hg => fold_fn sS1 [(⟨#[1, 1, 1, 7, 0, 5, 0]⟩ : ByteArray), (⟨#[120]⟩ : ByteArray)] (by decide) (by simp; decide) (by omega) (by omega))
  refine mv ?_
  refine ρ9 ?_
  refine ρ9 ?_
  refine ρs (j := 2) zv39 ?_
  refine ρ2 sz39 ?_
  refine mz ?_
  refine sr fun _ => ?_
  refine ρ7 (fo := 0) U39 sz22 ?_
  refine ρf U22 ?_
  refine ARun.build rfl rfl rfl rfl so25 (.cons (ep rfl) (.cons (ep rfl) (.cons (ep rfl) (.cons (ep rfl) (.cons (ep rfl) .nil))))) rfl rfl optN ?_
  refine ρi cf9 ?_ (hF := fun hg => do_fn sS1.1 (⟨1, 2, 3, 7, 0, 6, []⟩ : Cl) (by omega) (by decide))
  refine mv ?_
  refine ρ9 ?_
  refine ρ9 ?_
  refine ρs (j := 3) zv31 ?_
  refine ma ?_
  refine ρ2 sz31 ?_
  refine ez ?_
  refine sr fun _ => ?_
  refine mv ?_
  refine ARun.cmpS rfl rfl rfl rfl (ep rfl) (ep rfl) rfl optN ?_
  refine mv ?_
  refine ρr (fo := 0) U39 sz22 ?_
  refine ρo U22 ?_
  refine ARun.lenSl rfl rfl rfl rfl U22 (Ev.opt rfl (fun h => h)) optS ?_
  refine ρ6 ?_
  refine ρ0 ?_
  refine mv ?_
  refine ρr (fo := 1) U39 sz37 ?_
  refine ρo U37 ?_
  refine ARun.lenSl rfl rfl rfl rfl U37 (Ev.opt rfl (fun h => h)) optS ?_
  refine ρ6 ?_
  refine ρ0 ?_
  refine mv ?_
  refine ρj ?_
  refine ρj ?_
  refine ARun.cmpS rfl rfl rfl rfl (Ev.opt rfl (fun h => h)) (Ev.opt rfl (fun h => h)) rfl optS ?_
  refine ρ0 ?_
  refine mv ?_
  refine ARun.loadBoxA rfl rfl rfl rfl U39 rfl sz39 (ep rfl) ((hG.at _ _).trans rfl) rfl rfl optS ?_
  refine ARun.loadBoxA rfl rfl rfl rfl U39 rfl sz39 (ep rfl) ((hG.at _ _).trans rfl) rfl rfl optS ?_
  refine ARun.call rfl rfl rfl rfl cf16 (ep rfl) (.cons (Ev.opt rfl (fun h => h)) (.cons (Ev.opt rfl (fun h => h)) .nil)) rfl (fun hg => sameS_fn sS1 (applyP sS1 (⟨#[1, 1, 1, 7, 0, 5, 0]⟩ : ByteArray)).1 (by omega) (by omega)) optS ?_
  refine ρ0 ?_
  refine mv ?_
  refine ρj ?_
  refine ARun.lenSl rfl rfl rfl rfl U40 (Ev.opt rfl (fun h => h)) optS ?_
  refine ρ6 ?_
  refine ρ0 ?_
  refine mv ?_
  refine ρj ?_
  first | refine ARun.indexSl rfl rfl rfl rfl U40 sz9 (Ev.opt rfl (fun h => h)) (ep rfl) (fun _ => rfl) (fun hg => getMap _ _ _ (by (try simp at hg); omega)) rfl rfl optS ?_ | refine ARun.indexSl rfl rfl rfl rfl U40 sz9 (Ev.opt rfl (fun h => h)) (ep rfl) (fun hg => ofNonneg (by (try simp at hg); omega)) (fun hg => getMap _ _ _ (by (try simp at hg); omega)) rfl rfl optS ?_
  refine ρ3 U9 ?_
  refine ρj ?_
  refine ARun.cmpS rfl rfl rfl rfl (Ev.opt rfl (fun h => h)) (Ev.opt rfl (fun h => h)) rfl optS ?_
  refine ρ0 ?_
  refine mv ?_
  refine ρj ?_
  first | refine ARun.indexSl rfl rfl rfl rfl U40 sz9 (Ev.opt rfl (fun h => h)) (ep rfl) (fun _ => rfl) (fun hg => getMap _ _ _ (by (try simp at hg); omega)) rfl rfl optS ?_ | refine ARun.indexSl rfl rfl rfl rfl U40 sz9 (Ev.opt rfl (fun h => h)) (ep rfl) (fun hg => ofNonneg (by (try simp at hg); omega)) (fun hg => getMap _ _ _ (by (try simp at hg); omega)) rfl rfl optS ?_
  refine ρ3 U9 ?_
  refine ARun.cmpS rfl rfl rfl rfl (Ev.opt rfl (fun h => h)) (ep rfl) rfl optS ?_
  refine ρ0 ?_
  refine mv ?_
  refine ρr (fo := 0) U31 sz28 ?_
  refine ρo U28 ?_
  refine ρ6 ?_
  refine ρ0 ?_
  refine mv ?_
  refine ρj ?_
  refine ARun.lenSl rfl rfl rfl rfl U22 (Ev.opt rfl (fun h => h)) optS ?_
  refine ρ6 ?_
  refine ρ0 ?_
  refine mv ?_
  refine ARun.loadBoxA rfl rfl rfl rfl U39 rfl sz39 (ep rfl) ((hG.at _ _).trans rfl) rfl rfl optS ?_
  refine ρm cf18 (fun hg => chkS_fn sS1) ?_
  refine ρ6 ?_
  refine ρ0 ?_
  refine mv ?_
  refine ARun.build rfl rfl rfl rfl so64 .nil rfl rfl optS ?_
  refine ARun.buildSl rfl rfl rfl rfl U22 sz64 zv64 rfl (by decide) (.cons (Ev.opt rfl (fun h => h)) .nil) rfl rfl rfl rfl (by decide) rfl rfl optS ?_
  refine ARun.build rfl rfl rfl rfl so39 (.cons (Ev.opt rfl (fun h => h)) .nil) rfl rfl optS ?_
  refine ρm cf18 (fun hg => chkS_fn ([default], [])) ?_
  refine ρ6 ?_
  refine ρ0 ?_
  refine mv ?_
  refine ARun.loadBoxA rfl rfl rfl rfl U39 rfl sz39 (ep rfl) ((hG.at _ _).trans rfl) rfl rfl optS ?_
  refine ARun.loadBoxA rfl rfl rfl rfl U39 rfl sz39 (ep rfl) ((hG.at _ _).trans rfl) rfl rfl optS ?_
  refine ARun.call rfl rfl rfl rfl cf20 (ep rfl) (.cons (Ev.opt rfl (fun h => h)) (.cons (Ev.opt rfl (fun h => h)) .nil)) rfl (fun hg => sameV_fn sS1 (applyP sS1 (⟨#[1, 1, 1, 7, 0, 5, 0]⟩ : ByteArray)).1 (by omega) (by omega)) optS ?_
  refine ρ0 ?_
  refine mv ?_
  refine ARun.loadBoxA rfl rfl rfl rfl U39 rfl sz39 (ep rfl) ((hG.at _ _).trans rfl) rfl rfl optS ?_
  refine ARun.build rfl rfl rfl rfl so39 .nil rfl rfl optS ?_
  refine ARun.call rfl rfl rfl rfl cf20 (ep rfl) (.cons (Ev.opt rfl (fun h => h)) (.cons (Ev.opt rfl (fun h => h)) .nil)) rfl (fun hg => sameV_fn sS1 (([], []) : St) (by omega) (by omega)) optS ?_
  refine ARun.not rfl rfl rfl rfl (Ev.opt rfl (fun h => h)) optS ?_
  refine ρ0 ?_
  refine mz ?_
  refine AWP.ret ?_
  refine ρd ?_
  refine congrArg AV.bool ?_
  decide +kernel
set_option maxHeartbeats 1000000 in
theorem does_fn (l : Its) (c : Cl) : FnP Tryz.prog 3 [.sl (l.map Stk.aIt), aCl c] (.bool true) := by
  refine FnP.of Tryz.func3 rfl rfl (by simp) (by simp [AV.cells, aIn, aOut, aLn, aCl, aRp, Stk.aIt, Ssn.aSe, aSt]) (fun G hG => ?_)
  have hN : NoH G.length (.bool true) := (by simp [AV.cells, aIn, aOut, aLn, aCl, aRp, Stk.aIt, Ssn.aSe, aSt])
  refine sr fun _ => ?_
  refine ρy ?_
  refine mz ?_
  refine AWP.seq ?_
  refine sr fun _ => ?_
  refine mv ?_
  refine ρw U22 ?_
  refine ρ1 ?_
  refine mv ?_
  refine ARun.loadPeA rfl rfl rfl rfl U25 rfl sz25 (ep rfl) rfl optS ?_
  refine ρm cf7 (fun hg => few10_fn c) ?_
  refine ARun.not rfl rfl rfl rfl (Ev.opt rfl (fun h => h)) optS ?_
  refine ρ4 ?_
  refine ez ?_
  refine ρn (fun h0 => ?_) (fun h0 => ?_)
  · refine sr fun _ => ?_
    refine ARun.call rfl rfl rfl rfl cf8 (ep rfl) .nil rfl (fun hg => awake_fn) optN ?_
    refine mz ?_
    refine AWP.ret (thenA_r ?_)
    refine ρd ?_
    rfl
  simp at h0
  refine AWP.skip (thenA_n ?_)
  refine sr fun _ => ?_
  refine mv ?_
  refine ρq U25 sz25 ?_
  refine ρi cf9 ?_ (hF := fun hg => do_fn l c (by omega) (by omega))
  refine mv ?_
  refine ρ9 ?_
  refine ρ9 ?_
  refine ρs (j := 0) zv31 ?_
  refine ma ?_
  refine ρ2 sz31 ?_
  refine ez ?_
  refine sr fun _ => ?_
  refine mv ?_
  refine ρq U25 sz25 ?_
  refine ρi cf10 ?_ (hF := fun hg => doR_fn l c (by omega) (by omega))
  refine mv ?_
  refine ρ9 ?_
  refine ρ9 ?_
  refine ρs (j := 1) zv31 ?_
  refine ma ?_
  refine ρ2 sz31 ?_
  refine ez ?_
  refine sr fun _ => ?_
  refine mv ?_
  refine mv ?_
  refine ρi cf11 ?_ (hF := fun hg => Stk.same_fn (doP l c).1 (doP l c).1 (by have := do_len l c (by omega); omega))
  refine mv ?_
  refine ARun.loadBoxA rfl rfl rfl rfl U31 rfl sz31 (ep rfl) ((hG.at _ _).trans rfl) rfl rfl optS ?_
  refine ARun.loadBoxA rfl rfl rfl rfl U31 rfl sz31 (ep rfl) ((hG.at _ _).trans rfl) rfl rfl optS ?_
  refine ARun.call rfl rfl rfl rfl cf12 (ep rfl) (.cons (Ev.opt rfl (fun h => h)) (.cons (Ev.opt rfl (fun h => h)) .nil)) rfl (fun hg => sameRpR_fn (doP l c).2 (doP l c).2 (by have := (do_fine l c).len; omega)) optS ?_
  refine ρ0 ?_
  refine mv ?_
  refine ARun.call rfl rfl rfl rfl cf8 (ep rfl) .nil rfl (fun hg => awake_fn) optS ?_
  refine ρ0 ?_
  refine mz ?_
  refine AWP.ret ?_
  refine ρd ?_
  simp
end Go.Proofs.YtgebpndhnkkbgaaGreatDoor
namespace Go.Proofs.YtgebpndhnkkbgaaGreatDoor
set_option linter.unusedVariables false
set_option linter.unusedSimpArgs false
open Go.ChangeShapes Go.WideShapes Go.ChangeAt Go.RowKit
set_option maxRecDepth 100000
theorem exists_list {α : Type} {Q : Nat → α → Prop} (n : Nat) (h : ∀ i, i < n → ∃ x, Q i x) : ∃ l : List α, l.length = n ∧ ∀ i, (hi : i < l.length) → Q i l[i] := by
  induction n with
  | zero => exact ⟨[], rfl, fun i hi => absurd hi (Nat.not_lt_zero i)⟩
  | succ n ih =>
    obtain ⟨l, hl, hq⟩ := ih fun i hi => h i (by omega)
    obtain ⟨x, hx⟩ := h n (by omega)
    refine ⟨l ++ [x], by simp [hl], fun i hi => ?_⟩
    by_cases e : i < l.length
    · rw [List.getElem_append_left e]; exact hq i e
    · obtain rfl : i = l.length := by simp at hi; omega
      rw [List.getElem_append_right (Nat.le_refl _)]
      simpa [hl] using hx
def fit1 (x : Int) : Prop := -9223372036854775808 ≤ x ∧ x ≤ 9223372036854775807
end Go.Proofs.YtgebpndhnkkbgaaGreatDoor
namespace Go.Proofs.YtgebpndhnkkbgaaGreatDoor
set_option linter.unusedVariables false
set_option linter.unusedSimpArgs false
open Go.ChangeShapes Go.WideShapes Go.ChangeAt Go.RowKit
def CL (W : World) (cs : List Value) (ys : List AV) : Prop := cs.length = ys.length ∧ ∀ (j : Nat) (u : Value) (z : AV), cs[j]? = some u → ys[j]? = some z → VRep [] W u z
theorem CL.one {W : World} {u : Value} {z : AV} (h : VRep [] W u z) : CL W [u] [z] := ⟨rfl, fun j u' z' h1 h2 => by
  cases j with
  | zero => simp at h1 h2; subst h1 h2; exact h
  | succ j => simp at h1⟩
theorem CL.join {W : World} {l : List Value} {o s o2 : Nat} {a b : List AV} (h : CL W ((l.drop o).take s) a) (k : CL W (l.drop o2) b) (e : o2 = o + s) (hs : a.length = s) : CL W (l.drop o) (a ++ b) := by
  subst e
  obtain ⟨h1, h2⟩ := h
  obtain ⟨k1, k2⟩ := k
  have e1 : l.drop o = (l.drop o).take s ++ l.drop (o + s) := by rw [← List.drop_drop, List.take_append_drop]
  have hl : ((l.drop o).take s).length = s := by rw [h1, hs]
  refine ⟨by rw [e1, List.length_append, h1, k1, List.length_append], fun j u z p q => ?_⟩
  rw [e1] at p
  by_cases hj : j < s
  · rw [List.getElem?_append_left (by omega)] at p
    rw [List.getElem?_append_left (by omega)] at q
    exact h2 j u z p q
  · rw [List.getElem?_append_right (by omega), hl] at p
    rw [List.getElem?_append_right (by omega), hs] at q
    exact k2 _ u z p q
theorem CL.last {W : World} {l : List Value} {o s : Nat} {a : List AV} (h : CL W ((l.drop o).take s) a) (hl : l.length = o + s) : CL W (l.drop o) a := by
  rwa [List.take_of_length_le (by simp; omega)] at h
def Opn (P : Program) (T : TypeId) {α : Type} (av : α → AV) (good : α → Prop) : Prop :=
  ∀ {H : Type} (encH : TypeId × Value → H) (W : World) (bb : Nat) (spare : Nat → Bool) (held : Bool) (m : Nat) (cs : List Value) (y : DataW H × List MemPlace), DataW.trod encH P W bb spare held m T cs = some y → ∃ x : α, CL W cs (av x).cells ∧ good x
theorem opn_i64 {P : Program} {T : TypeId} (ht : P.underlying T = some (.int .i64)) : Opn P T (AV.int .i64) fit1 := by
  intro H encH W bb spare held m cs y h
  obtain ⟨n, rfl, _, hw⟩ := DataW.trod_int ht h
  exact ⟨n, CL.one (.int _ _), wf64 hw⟩
theorem opn_slice {P : Program} {T e : TypeId} {α : Type} {av : α → AV} {good : α → Prop} {z : Nat} (ht : P.underlying T = some (.slice e)) (hc : P.cellsOf e = z) (hz0 : 0 < z) (hz : ∀ x, (av x).cells.length = z) (he : Opn P e av good) :
    Opn P T (fun l : List α => .sl (l.map av)) (fun l => l.length ≤ maxLen ∧ ∀ x, x ∈ l → good x) := by
  intro H encH W bb spare held m cs y h
  rcases DataW.trod_slice ht h with ⟨rfl, _⟩ | ⟨x, len, cap, elems, rest, n, _, rfl, _, _, hl, hm, hlen, hgot, _, _⟩
  · exact ⟨[], CL.one .slnil, Nat.zero_le _, fun x hx => by cases hx⟩
  · have each : ∀ i, i < len → ∃ y : α, good y ∧ ∃ cs, W.cells? bb (x.add (i * z)) z = some cs ∧ CL W cs (av y).cells := by
      intro i hi
      have h1 := hgot i hi
      rw [hc, List.getElem?_eq_getElem (by omega), Option.bind_eq_some_iff] at h1
      obtain ⟨cs, h2, h3⟩ := h1
      obtain ⟨y, hy, hg⟩ := he encH W bb spare held n cs _ h3
      exact ⟨y, hg, cs, h2, hy⟩
    obtain ⟨xs, hxl, hxs⟩ := exists_list len each
    subst hxl
    refine ⟨xs, CL.one ?_, by omega, fun y hy => ?_⟩
    · by_cases h0 : xs = []
      · subst h0; exact .slemp x cap hm
      · have hpos : 0 < xs.length := List.length_pos_iff.2 h0
        obtain ⟨_, cs0, g2, g3⟩ := hxs 0 hpos
        obtain ⟨_, gl, gcell⟩ := World.cells?_some g2
        have g4 := gcell 0 hz0
        rw [List.getElem?_eq_getElem (by omega)] at g4
        have e1 : (x.add (0 * z)).add 0 = x := by simp [Addr.add]
        rw [e1] at g4
        have hs1 := World.cell?_spot g4
        obtain ⟨b, off, spot⟩ := x
        simp only at hs1
        subst hs1
        have hb := World.block_lt_of_cell? W _ g4
        have hcell : ∀ (i j : Nat) (X y : AV), (xs.map av)[i]? = some X → X.cells[j]? = some y → ∃ u, W.cell? ⟨b, off + i * z + j, none⟩ = some u ∧ VRep [] W u y := by
          intro i j X y hi hj
          rw [List.getElem?_map, Option.map_eq_some_iff] at hi
          obtain ⟨q, hq, rfl⟩ := hi
          have hlt := (List.getElem?_eq_some_iff.1 hq).1
          obtain ⟨_, cs, c1, c2, c3⟩ := hxs i hlt
          have hqe : xs[i] = q := by rw [List.getElem?_eq_getElem hlt] at hq; exact Option.some.inj hq
          rw [hqe] at c2 c3
          obtain ⟨_, cl, ccell⟩ := World.cells?_some c1
          have hjz : j < z := by have := (List.getElem?_eq_some_iff.1 hj).1; rw [hz] at this; exact this
          have h3 := ccell j hjz
          rw [addr_add, addr_add] at h3
          rw [h3, List.getElem?_eq_getElem (by omega)]
          exact ⟨_, rfl, c3 j _ y (List.getElem?_eq_getElem (by omega)) hj⟩
        have : VRep [] W (.slice (some ⟨b, off, none⟩) (xs.map av).length cap) (.sl (xs.map av)) := by
          refine .sl b off cap z _ (by rw [List.length_map]; omega) hm hb (fun h hh => by cases hh) (fun X hX => ?_) (fun i j X y hi hj => ?_) (fun i j X y u hi hj hu => ?_)
          · obtain ⟨q, _, rfl⟩ := List.mem_map.1 hX
            exact hz q
          · obtain ⟨u, h1, _⟩ := hcell i j X y hi hj
            exact ⟨u, h1⟩
          · obtain ⟨u', h1, h2⟩ := hcell i j X y hi hj
            rw [h1] at hu; cases hu; exact h2
        rwa [List.length_map] at this
    · obtain ⟨i, hi, rfl⟩ := List.getElem_of_mem hy
      exact (hxs i hi).1
section
variable {P : Program} {T : TypeId} {α : Type} {av : α → AV} {good : α → Prop} {H : Type} {encH : TypeId × Value → H} {W : World} {b0 bb : Nat} {spare : Nat → Bool} {held : Bool} {v : Value} {d : DataW H} {p : List MemPlace} {r : Reach}
theorem top_one (ho : Opn P T av good) (hc : v.cells = #[v]) (h1 : ∀ x, (av x).cells = [av x]) (h : DataW.Trod encH P W bb spare held T v d p) : ∃ x : α, VRep [] W v (av x) ∧ good x := by
  obtain ⟨fuel, hf⟩ := h
  obtain ⟨x, hx, hg⟩ := ho encH W bb spare held fuel _ _ hf
  rw [hc, h1] at hx
  exact ⟨x, hx.2 0 _ _ rfl rfl, hg⟩
theorem top_slice {e : TypeId} (ht : P.underlying T = some (.slice e)) (ho : Opn P T av good) (h1 : ∀ x, (av x).cells = [av x]) (hv : Value.okWide P W r b0 T v) (h : DataW.Trod encH P W bb spare held T v d p) : ∃ x : α, VRep [] W v (av x) ∧ good x := by
  obtain ⟨a, l, c, rfl⟩ := okWide_slice ht hv
  exact top_one ho rfl h1 h
theorem top_agg {u : TypeDesc} (ht : P.underlying T = some u) (hA : isA u = true) (ho : Opn P T av good) (h1 : ∀ x, av x = .agg (av x).cells) (hv : Value.okWide P W r b0 T v) (h : DataW.Trod encH P W bb spare held T v d p) : ∃ x : α, VRep [] W v (av x) ∧ good x := by
  have hv2 : ∃ cs : Array Value, v = .agg cs := by
    simp only [Value.okWide, ht] at hv
    cases u <;> cases hA
    · obtain ⟨cs, h1, _⟩ := hv; exact ⟨cs, h1⟩
    · obtain ⟨cs, h1, _⟩ := hv; exact ⟨cs, h1⟩
  obtain ⟨cs, rfl⟩ := hv2
  obtain ⟨fuel, hf⟩ := h
  obtain ⟨x, hx, hg⟩ := ho encH W bb spare held fuel _ _ hf
  refine ⟨x, ?_, hg⟩
  rw [h1 x]
  exact .agg _ _ (by have := hx.1; simpa [Value.cells] using this) fun j u' z k1 k2 => hx.2 j u' z (by simpa [Value.cells] using k1) k2
end
end Go.Proofs.YtgebpndhnkkbgaaGreatDoor
namespace Go.Proofs.YtgebpndhnkkbgaaGreatDoor
set_option linter.unusedVariables false
set_option linter.unusedSimpArgs false
open Go.ChangeShapes Go.WideShapes Go.ChangeAt Go.RowKit
set_option maxRecDepth 100000
theorem cz3 : Tryz.prog.cellsOf 3 = 1 := by kernel_rfl
theorem cz23 : Tryz.prog.cellsOf 23 = 1 := by kernel_rfl
theorem cz25 : Tryz.prog.cellsOf 25 = 7 := by kernel_rfl
theorem cz64 : Tryz.prog.cellsOf 64 = 4 := by kernel_rfl
theorem cz108 : Tryz.prog.cellsOf 108 = 2 := by kernel_rfl

def good_Stk.aIt (x : StockP.It) : Prop := (fit1) x.id ∧ (fit1) x.free ∧ (fit1) x.held ∧ (fit1) x.gone
theorem opn_Stk.aIt : Opn Tryz.prog 64 Stk.aIt good_Stk.aIt := by
  intro H encH W bb spare held m cs y h
  obtain ⟨xs, m2, _, _, hl, hxl, hel⟩ := DataW.trod_struct U64 h
  have hn : xs.length = 4 := hxl
  rw [cz64] at hl
  have h0 : DataW.trod encH Tryz.prog W bb spare held m2 3 ((cs.drop 0).take (Tryz.prog.cellsOf 3)) = xs[0]? := hel 0 _ rfl
  rw [List.getElem?_eq_getElem (by omega), cz3] at h0
  obtain ⟨x0, c0, g0⟩ := (opn_i64 U3) encH W bb spare held _ _ _ h0
  have h1 : DataW.trod encH Tryz.prog W bb spare held m2 3 ((cs.drop 1).take (Tryz.prog.cellsOf 3)) = xs[1]? := hel 1 _ rfl
  rw [List.getElem?_eq_getElem (by omega), cz3] at h1
  obtain ⟨x1, c1, g1⟩ := (opn_i64 U3) encH W bb spare held _ _ _ h1
  have h2 : DataW.trod encH Tryz.prog W bb spare held m2 3 ((cs.drop 2).take (Tryz.prog.cellsOf 3)) = xs[2]? := hel 2 _ rfl
  rw [List.getElem?_eq_getElem (by omega), cz3] at h2
  obtain ⟨x2, c2, g2⟩ := (opn_i64 U3) encH W bb spare held _ _ _ h2
  have h3 : DataW.trod encH Tryz.prog W bb spare held m2 3 ((cs.drop 3).take (Tryz.prog.cellsOf 3)) = xs[3]? := hel 3 _ rfl
  rw [List.getElem?_eq_getElem (by omega), cz3] at h3
  obtain ⟨x3, c3, g3⟩ := (opn_i64 U3) encH W bb spare held _ _ _ h3
  have d3 := CL.last c3 (by rw [hl])
  have d2 := CL.join c2 d3 rfl rfl
  have d1 := CL.join c1 d2 rfl rfl
  have d0 := CL.join c0 d1 rfl rfl
  rw [List.drop_zero] at d0
  exact ⟨⟨x0, x1, x2, x3⟩, d0, g0, g1, g2, g3⟩

def good_aLn (x : Ln) : Prop := (fit1) x.item ∧ (fit1) x.qty
theorem opn_aLn : Opn Tryz.prog 108 aLn good_aLn := by
  intro H encH W bb spare held m cs y h
  obtain ⟨xs, m2, _, _, hl, hxl, hel⟩ := DataW.trod_struct U108 h
  have hn : xs.length = 2 := hxl
  rw [cz108] at hl
  have h0 : DataW.trod encH Tryz.prog W bb spare held m2 3 ((cs.drop 0).take (Tryz.prog.cellsOf 3)) = xs[0]? := hel 0 _ rfl
  rw [List.getElem?_eq_getElem (by omega), cz3] at h0
  obtain ⟨x0, c0, g0⟩ := (opn_i64 U3) encH W bb spare held _ _ _ h0
  have h1 : DataW.trod encH Tryz.prog W bb spare held m2 3 ((cs.drop 1).take (Tryz.prog.cellsOf 3)) = xs[1]? := hel 1 _ rfl
  rw [List.getElem?_eq_getElem (by omega), cz3] at h1
  obtain ⟨x1, c1, g1⟩ := (opn_i64 U3) encH W bb spare held _ _ _ h1
  have d1 := CL.last c1 (by rw [hl])
  have d0 := CL.join c0 d1 rfl rfl
  rw [List.drop_zero] at d0
  exact ⟨⟨x0, x1⟩, d0, g0, g1⟩

def good_aCl (x : Cl) : Prop := (fit1) x.client ∧ (fit1) x.seq ∧ (fit1) x.kind ∧ (fit1) x.item ∧ (fit1) x.to_ ∧ (fit1) x.qty ∧ (fun l => l.length ≤ maxLen ∧ ∀ x, x ∈ l → (good_aLn) x) x.lines
theorem opn_aCl : Opn Tryz.prog 25 aCl good_aCl := by
  intro H encH W bb spare held m cs y h
  obtain ⟨xs, m2, _, _, hl, hxl, hel⟩ := DataW.trod_struct U25 h
  have hn : xs.length = 7 := hxl
  rw [cz25] at hl
  have h0 : DataW.trod encH Tryz.prog W bb spare held m2 3 ((cs.drop 0).take (Tryz.prog.cellsOf 3)) = xs[0]? := hel 0 _ rfl
  rw [List.getElem?_eq_getElem (by omega), cz3] at h0
  obtain ⟨x0, c0, g0⟩ := (opn_i64 U3) encH W bb spare held _ _ _ h0
  have h1 : DataW.trod encH Tryz.prog W bb spare held m2 3 ((cs.drop 1).take (Tryz.prog.cellsOf 3)) = xs[1]? := hel 1 _ rfl
  rw [List.getElem?_eq_getElem (by omega), cz3] at h1
  obtain ⟨x1, c1, g1⟩ := (opn_i64 U3) encH W bb spare held _ _ _ h1
  have h2 : DataW.trod encH Tryz.prog W bb spare held m2 3 ((cs.drop 2).take (Tryz.prog.cellsOf 3)) = xs[2]? := hel 2 _ rfl
  rw [List.getElem?_eq_getElem (by omega), cz3] at h2
  obtain ⟨x2, c2, g2⟩ := (opn_i64 U3) encH W bb spare held _ _ _ h2
  have h3 : DataW.trod encH Tryz.prog W bb spare held m2 3 ((cs.drop 3).take (Tryz.prog.cellsOf 3)) = xs[3]? := hel 3 _ rfl
  rw [List.getElem?_eq_getElem (by omega), cz3] at h3
  obtain ⟨x3, c3, g3⟩ := (opn_i64 U3) encH W bb spare held _ _ _ h3
  have h4 : DataW.trod encH Tryz.prog W bb spare held m2 3 ((cs.drop 4).take (Tryz.prog.cellsOf 3)) = xs[4]? := hel 4 _ rfl
  rw [List.getElem?_eq_getElem (by omega), cz3] at h4
  obtain ⟨x4, c4, g4⟩ := (opn_i64 U3) encH W bb spare held _ _ _ h4
  have h5 : DataW.trod encH Tryz.prog W bb spare held m2 3 ((cs.drop 5).take (Tryz.prog.cellsOf 3)) = xs[5]? := hel 5 _ rfl
  rw [List.getElem?_eq_getElem (by omega), cz3] at h5
  obtain ⟨x5, c5, g5⟩ := (opn_i64 U3) encH W bb spare held _ _ _ h5
  have h6 : DataW.trod encH Tryz.prog W bb spare held m2 23 ((cs.drop 6).take (Tryz.prog.cellsOf 23)) = xs[6]? := hel 6 _ rfl
  rw [List.getElem?_eq_getElem (by omega), cz23] at h6
  obtain ⟨x6, c6, g6⟩ := (opn_slice U23 cz108 (by decide) (fun _ => rfl) opn_aLn) encH W bb spare held _ _ _ h6
  have d6 := CL.last c6 (by rw [hl])
  have d5 := CL.join c5 d6 rfl rfl
  have d4 := CL.join c4 d5 rfl rfl
  have d3 := CL.join c3 d4 rfl rfl
  have d2 := CL.join c2 d3 rfl rfl
  have d1 := CL.join c1 d2 rfl rfl
  have d0 := CL.join c0 d1 rfl rfl
  rw [List.drop_zero] at d0
  exact ⟨⟨x0, x1, x2, x3, x4, x5, x6⟩, d0, g0, g1, g2, g3, g4, g5, g6⟩
end Go.Proofs.YtgebpndhnkkbgaaGreatDoor
namespace Go.Proofs.YtgebpndhnkkbgaaGreatDoor
set_option linter.unusedVariables false
set_option linter.unusedSimpArgs false
open Go.RowKit
open NumP
open Go.WideShapes
set_option maxRecDepth 100000
theorem serviceDoes_law (W : World) (hg : GOk [] W) (v0 : Value) (x0 : (List StockP.It)) (rp0 : VRep [] W v0 ((fun l : List StockP.It => AV.sl (l.map Stk.aIt)) x0)) (gd0 : (fun l => l.length ≤ maxLen ∧ ∀ x, x ∈ l → (good_Stk.aIt) x) x0) (v1 : Value) (x1 : Cl) (rp1 : VRep [] W v1 (aCl x1)) (gd1 : (good_aCl) x1) :
    Calls Tryz.prog 3 #[v0, v1] W fun e W' => e = .returned (.bool true) ∧ Below W.heap.size W W' := by
  skip
  exact law_of_fn (does_fn x0 x1 ) hg (.cons rp0 (.cons rp1 (.nil)))
end Go.Proofs.YtgebpndhnkkbgaaGreatDoor
