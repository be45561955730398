/- The texts that the law LineSearches rests on, part 6: AmLine, AmCiR, AmLineR, AmTry, CloneTx, LineLaw, AmLineS, AmLineW, LineSrch, AmOn, AmLineX, Open, Opn, OpnS, AmLineF. -/
import Derived.Test.YtcndnllmlhhjiaaGreatDoorLnS5
import Derived.ChangeOld
import Derived.DataReads
import Derived.ChangeArms
open Go.Proofs.Tryz renaming underlying3 → U3, underlying4 → U4, underlying9 → U9, underlying22 → U22, underlying23 → U23, underlying25 → U25, underlying26 → U26, underlying27 → U27, underlying32 → U32, underlying34 → U34, underlying40 → U40, underlying50 → U50, underlying53 → U53, underlying54 → U54, underlying67 → U67, underlying72 → U72, underlying73 → U73, underlying75 → U75, underlying79 → U79, underlying84 → U84, underlying108 → U108
set_option linter.unusedVariables false
set_option linter.unusedSimpArgs false
set_option maxRecDepth 100000
set_option maxHeartbeats 1000000
namespace Go.Proofs.YtcndnllmlhhjiaaGreatDoor
open Go.RowKit
open NumP
theorem indexS_fn (l : List ByteArray) (p : ByteArray) (hl : l.length ≤ 1000) : FnP Tryz.prog 24 [.sl (l.map AV.str), .str p] (.int .i64 (firstP l p)) := by
 refine FnP.of Tryz.func24 rfl rfl (by simp) (by simp [AV.cells, aIn, aOut, aLn, aCl, aRp, Stk.aIt, Ssn.aSe, aSt, aCo]) (fun G hG => ?_)
 have hN : NoH G.length (.int .i64 (firstP l p)) := (by simp [AV.cells, aIn, aOut, aLn, aCl, aRp, Stk.aIt, Ssn.aSe, aSt, aCo])
 refine sr fun _ => ?_
 refine mz ?_
 refine AWP.seq (sr fun _ => ?_)
 refine mv ?_
 refine ρv U27 ?_
 refine mv ?_
 refine ez ?_
 refine AWP.block ?_
 refine AWP.rounds (fun k => k ≤ l.length ∧ ∀ j, j < k → l.getD j default ≠ p) (fun k => [(0, .sl (l.map AV.str)), (1, .str p), (7, .int .i64 ((l.map AV.str).length : Int)), (8, .int .i64 (k : Int))]) (fun k => []) (fun k => l.length - k) 0 0 ⟨by omega, fun j h => by omega⟩ (by repeat (first | exact .nil | refine .cons rfl ?_)) rfl (fun _ => rfl) (fun _ => ⟨by simp [AV.cells], by simp⟩) (fun k hI => ?_)
 obtain ⟨hk, hno⟩ := hI
 refine sr fun _ => ?_
 refine ρ2 ?_
 refine ez ?_
 refine AWP.seq ?_
 refine ρp (fun h0 => ?_) (fun h0 => ?_)
 · simp [-List.getD_eq_getElem?_getD] at h0
   refine AWP.skip (thenA_n ?_)
   refine AWP.seq (AWP.block (sr fun _ => ?_))
   refine mv ?_
   refine mz (sr fun _ => ?_)
   refine mv ?_
   refine mv ?_
   refine mv ?_
   refine ρf U27 sz9 ?_
   refine ρ7 U9 ?_
   refine ARun.cmpS rfl rfl rfl rfl (ep rfl) (ep rfl) rfl optN ?_
   refine ez ?_
   refine ρp (fun h1 => ?_) (fun h1 => ?_)
   · simp [-List.getD_eq_getElem?_getD] at h1
     refine sr fun _ => ?_
     refine mv ?_
     refine mz ?_
     refine AWP.ret (blockA_r ?_)
     refine thenA_r (thenA_r ?_)
     refine blockA_r (thenA_r ?_)
     refine ρi ?_
     rw [first_at (i := k) (by omega) (by first | exact h1 | exact h1.symm) hno]
   simp [-List.getD_eq_getElem?_getD] at h1
   refine AWP.skip (blockA_n (thenA_n ?_))
   refine AWP.region (fun _ => ?_)
   refine ρa ?_
   refine mv ?_
   refine ⟨_, _, rfl, hG, ?_⟩
   refine thenA_n ⟨rfl, k + 1, _, ?_, ?_, rfl, ?_⟩
   · refine ⟨by omega, fun j hj => ?_⟩
     by_cases e : j = k
     · subst e; first | exact h1 | exact fun q => h1 q.symm
     exact hno j (by omega)
   · repeat (first | exact .nil | refine .cons rfl ?_)
   omega
 simp [-List.getD_eq_getElem?_getD] at h0
 refine AWP.exit ?_
 refine thenA_x ?_
 refine thenA_x ?_
 refine blockA_h ?_
 refine thenA_n (sr fun _ => ?_)
 refine mz ?_
 refine AWP.ret ?_
 refine ρi ?_
 rw [first_no (fun j hj => hno j (by omega))]; rfl
theorem first_fn (order : List ByteArray) (p : ByteArray) (ho : order.length ≤ 1000) : FnP Tryz.prog 11 [.sl (order.map AV.str), .str p] (.int .i64 (firstP order p)) := by
 refine FnP.of Tryz.func11 rfl rfl (by simp) (by simp [AV.cells, aIn, aOut, aLn, aCl, aRp, Stk.aIt, Ssn.aSe, aSt, aCo]) (fun G hG => ?_)
 have hN : NoH G.length (.int .i64 (firstP order p)) := (by simp [AV.cells, aIn, aOut, aLn, aCl, aRp, Stk.aIt, Ssn.aSe, aSt, aCo])
 refine sr fun _ => ?_
 refine mz (sr fun _ => ?_)
 refine mv ?_
 refine mv ?_
 refine ρh cf24 (fun hg => indexS_fn order p ho) ?_
 refine mz ?_
 refine AWP.ret ?_
 refine ρi ?_
 rfl
theorem mayL_fn (s : St) (l : List Co) (hl : l.length ≤ 1000) (hp : ∀ x, x ∈ l → x.payload.size ≤ 1000000) : FnP Tryz.prog 25 [aSt s, .sl (l.map aCo)] (.bool (decide (checkO l = 0) && decide (chkP s = 0))) := by
 refine FnP.of Tryz.func25 rfl rfl (by simp) (by simp [AV.cells, aIn, aOut, aLn, aCl, aRp, Stk.aIt, Ssn.aSe, aSt, aCo]) (fun G hG => ?_)
 have hN : NoH G.length (.bool (decide (checkO l = 0) && decide (chkP s = 0))) := (by simp [AV.cells, aIn, aOut, aLn, aCl, aRp, Stk.aIt, Ssn.aSe, aSt, aCo])
 refine sr fun _ => ?_
 refine ρz ?_
 refine mz (sr fun _ => ?_)
 refine mv ?_
 refine ρm cf41 (fun hg => checkO_fn l hl hp) ?_
 refine ρ2 ?_
 refine mv ?_
 refine ARun.loadPeA rfl rfl rfl rfl U25 rfl sz25 (ep rfl) rfl optS ?_
 refine ρr cf42 (fun hg => chkS_fn s) ?_
 refine ρb ?_
 refine ρ0 ?_
 refine mz ?_
 refine AWP.ret ?_
 refine ρi ?_
 rfl
theorem mset_new (s : ByteArray) (v : Value) : ∀ (es : List (ByteArray × Value)), es.lookup s = none → mset s v es = es ++ [(s, v)] := by
 intro es
 induction es with
 | nil => intro _; rfl
 | cons p es ih =>
   obtain ⟨k, u⟩ := p
   intro h
   rw [List.lookup_cons] at h
   cases hb : s == k with
   | true => rw [hb] at h; cases h
   | false => rw [hb] at h; rw [mset, hb]; show _ :: mset s v es = _; rw [ih h]; rfl
theorem look_map (m : List (ByteArray × Int)) (s : ByteArray) : (m.map fun p => (p.1, Value.int .i64 p.2)).lookup s = (m.lookup s).map (Value.int .i64) := by
 induction m with
 | nil => rfl
 | cons p m ih => obtain ⟨k, v⟩ := p; rw [List.map_cons, List.lookup_cons, List.lookup_cons]; cases s == k <;> simp [ih]
theorem places_set {l : List ByteArray} {k : Nat} (h : ¬ ((placesP l k).lookup (l.getD k default)).isSome = true) : mset (l.getD k default) (.int .i64 (k : Int)) ((placesP l k).map fun p => (p.1, Value.int .i64 p.2)) = (placesP l (k + 1)).map fun p => (p.1, Value.int .i64 p.2) := by
 rw [mset_new _ _ _ (by rw [look_map]; cases e : (placesP l k).lookup (l.getD k default) with | none => rfl | some x => rw [e] at h; exact absurd rfl h), placesP, if_neg h, List.map_append]; rfl
theorem places_same {l : List ByteArray} {k : Nat} (h : ((placesP l k).lookup (l.getD k default)).isSome = true) : placesP l k = placesP l (k + 1) := by
 rw [placesP, if_pos h]
theorem mset_true (s : ByteArray) : ∀ (ks : List ByteArray), mset s (.bool true) (ks.map fun p => (p, Value.bool true)) = (if ks.contains s = true then ks else ks ++ [s]).map fun p => (p, Value.bool true) := by
 intro ks
 induction ks with
 | nil => rfl
 | cons k ks ih =>
   rw [List.map_cons, List.contains_cons]
   cases hb : s == k with
   | true => rw [mset, hb]; rw [ba_beq] at hb; rw [of_decide_eq_true hb]; simp
   | false =>
     rw [mset, hb]; show _ :: mset s _ _ = _
     rw [ih, Bool.false_or]
     by_cases h : ks.contains s = true
     · rw [if_pos h, if_pos h]; rfl
     rw [if_neg h, if_neg h]; rfl
theorem pays_set (l : List Co) (k : Nat) : mset (l.getD k default).payload (.bool true) ((paysP l k).map fun p => (p, Value.bool true)) = (paysP l (k + 1)).map fun p => (p, Value.bool true) := by
 rw [mset_true, paysP]
theorem places_fn (order : List ByteArray) (ho : order.length ≤ 1000) : FnP Tryz.prog 26 [.sl (order.map AV.str)] (.mp ((placesP order order.length).map fun p => (p.1, Value.int .i64 p.2))) := by
 refine FnP.of Tryz.func26 rfl rfl (by simp) (by simp) (fun G hG => ?_)
 have hN : NoH G.length (.mp ((placesP order order.length).map fun p => (p.1, Value.int .i64 p.2))) := (by simp)
 refine sr fun _ => ?_
 refine mz (sr fun _ => ?_)
 refine ARun.makeMap (j := 0) hG rfl rfl rfl rfl rfl optN ?_
 refine mz ?_
 refine AWP.seq (sr fun _ => ?_)
 refine mv ?_
 refine ρv U27 ?_
 refine mv ?_
 refine ez ?_
 refine AWP.block ?_
 refine AWP.rounds (fun k => k ≤ order.length) (fun k => [(3, .mh (G.length + 0)), (9, .sl (order.map AV.str)), (10, .int .i64 ((order.map AV.str).length : Int)), (11, .int .i64 (k : Int))]) (fun k => [.map ((placesP order k).map fun p => (p.1, Value.int .i64 p.2))]) (fun k => order.length - k) 1 0 (Nat.zero_le _) (by repeat (first | exact .nil | refine .cons rfl ?_)) rfl (fun _ => rfl) (fun _ => ⟨by simp [AV.cells], by simp [AO.conts]⟩) (fun k hI => ?_)
 refine sr fun _ => ?_
 refine ρ2 ?_
 refine ez ?_
 refine AWP.seq ?_
 refine ρp (fun h0 => ?_) (fun h0 => ?_)
 · try simp [-List.getD_eq_getElem?_getD] at h0
   refine AWP.skip (thenA_n ?_)
   refine AWP.seq (AWP.block (sr fun _ => ?_))
   refine mv ?_
   refine ρf U27 sz9 ?_
   refine ρ7 U9 ?_
   refine ma ?_
   refine mz (sr fun _ => ?_)
   refine mv ?_
   refine mv ?_
   refine ARun.lookMh rfl rfl rfl rfl U54 U9 zv3 (ep rfl) ((hG.at _ _).trans rfl) (ep rfl) (lookI _ _) optN ?_
   refine mv ?_
   refine ρ9 ?_
   refine ρ9 ?_
   refine ma ?_
   refine mz (sr fun _ => ?_)
   refine mv ?_
   refine ρC ?_
   refine ez ?_
   refine ρp (fun h1 => ?_) (fun h1 => ?_)
   · refine AWP.region (fun _ => ?_)
     refine mv ?_
     refine mv ?_
     refine mv ?_
     refine ARun.mapSet hG rfl rfl rfl U54 U9 (ep rfl) rfl (ep rfl) (ep rfl) rfl (places_set (by intro e; rw [e] at h1; cases h1)) rfl ?_
     refine ⟨_, _, rfl, hG, ?_⟩
     refine blockA_n (thenA_n ?_)
     refine AWP.region (fun _ => ?_)
     refine ρa ?_
     refine mv ?_
     refine ⟨_, _, rfl, hG, ?_⟩
     refine thenA_n ⟨rfl, k + 1, _, ?_, ?_, rfl, ?_⟩
     · omega
     · repeat (first | exact .nil | refine .cons rfl ?_)
     omega
   rw [places_same (k := k) (by rw [Bool.not_eq_false'] at h1; exact h1)]
   refine AWP.skip (blockA_n (thenA_n ?_))
   refine AWP.region (fun _ => ?_)
   refine ρa ?_
   refine mv ?_
   refine ⟨_, _, rfl, hG, ?_⟩
   refine thenA_n ⟨rfl, k + 1, _, ?_, ?_, rfl, ?_⟩
   · omega
   · repeat (first | exact .nil | refine .cons rfl ?_)
   omega
 simp at h0
 obtain rfl : k = order.length := by omega
 refine AWP.exit ?_
 refine thenA_x ?_
 refine thenA_x ?_
 refine blockA_h ?_
 refine thenA_n (AWP.seq ?_)
 refine AWP.frzMap 3 hG rfl rfl rfl ?_
 refine AWP.region (fun _ => ?_)
 refine mv ?_
 refine mz ?_
 refine AWP.ret ?_
 refine ρi ?_
 rfl
theorem knownF_fn (ks : List ByteArray) (p : ByteArray) : FnP Tryz.prog 44 [.str p, .pe [.mp (ks.map fun p => (p, Value.bool true))]] (.bool (!ks.contains p)) := by
 refine FnP.of Tryz.func44 rfl rfl (by simp) (by simp [AV.cells, aIn, aOut, aLn, aCl, aRp, Stk.aIt, Ssn.aSe, aSt, aCo]) (fun G hG => ?_)
 have hN : NoH G.length (.bool (!ks.contains p)) := (by simp [AV.cells, aIn, aOut, aLn, aCl, aRp, Stk.aIt, Ssn.aSe, aSt, aCo])
 refine sr fun _ => ?_
 refine mz (sr fun _ => ?_)
 refine ρ7 U79 ?_
 refine mv ?_
 refine ARun.lookMp rfl rfl rfl rfl U79 U9 zv4 (ep rfl) (ep rfl) (lookB _ _) optN ?_
 refine ρC ?_
 refine mz ?_
 refine AWP.ret ?_
 refine ρi ?_
 rfl
theorem indexTx (F : Nat) (fs cs : List AV) (p : ByteArray → Bool) (l : List ByteArray) (hl : l.length ≤ 9223372036854775807) (hcf : ∀ (vs : Array Value) (W : World), (callFunc F vs).run Tryz.prog W = .ok (.enter F vs) W) (hn : (∀ x, x ∈ fs → NoH 0 x) ∧ ∀ x, x ∈ cs → NoH 0 x) (hp : ∀ x, x ∈ l → FnP Tryz.prog F (fs ++ [AV.str x] ++ cs) (.bool (p x))) : FnP Tryz.prog 67 [.sl (l.map AV.str), .fn (.func F) fs cs] (.int .i64 (idxOf p l)) := by
 refine FnP.of Tryz.func67 rfl rfl (by simp) (by simp [AV.cells, aIn, aOut, aLn, aCl, aRp, Stk.aIt, Ssn.aSe, aSt, aCo]) (fun G hG => ?_)
 have hN : NoH G.length (.int .i64 (idxOf p l)) := (by simp [AV.cells, aIn, aOut, aLn, aCl, aRp, Stk.aIt, Ssn.aSe, aSt, aCo])
 refine sr fun _ => ?_
 refine mz ?_
 refine AWP.seq (sr fun _ => ?_)
 refine mv ?_
 refine ρv U27 ?_
 refine mv ?_
 refine ez ?_
 refine AWP.block ?_
 refine AWP.rounds (fun k => k ≤ l.length ∧ ∀ j, j < k → p (l.getD j default) = false) (fun k => [(0, .sl (l.map AV.str)), (1, .fn (.func F) fs cs), (7, .int .i64 ((l.map AV.str).length : Int)), (8, .int .i64 (k : Int))]) (fun k => []) (fun k => l.length - k) 0 0 ⟨by omega, fun j h => by omega⟩ (by repeat (first | exact .nil | refine .cons rfl ?_)) rfl (fun _ => rfl) (fun _ => ⟨by simp [AV.cells]; exact ⟨fun x hx => (hn.1 x hx).mono (by omega), fun x hx => (hn.2 x hx).mono (by omega)⟩, by simp⟩) (fun k hI => ?_)
 obtain ⟨hk, hno⟩ := hI
 refine sr fun _ => ?_
 refine ρ2 ?_
 refine ez ?_
 refine AWP.seq ?_
 refine ρp (fun h0 => ?_) (fun h0 => ?_)
 · try simp [-List.getD_eq_getElem?_getD] at h0
   refine AWP.skip (thenA_n ?_)
   refine AWP.seq (AWP.block (sr fun _ => ?_))
   refine mv ?_
   refine mz (sr fun _ => ?_)
   refine mv ?_
   refine mv ?_
   refine mv ?_
   refine ρf U27 sz9 ?_
   refine ρ7 U9 ?_
   refine ρA hcf ?_ (hF := fun hg => hp _ (by rw [List.getD, List.getElem?_eq_getElem h0]; exact List.getElem_mem h0))
   refine ez ?_
   refine ρp (fun h1 => ?_) (fun h1 => ?_)
   · try simp [-List.getD_eq_getElem?_getD] at h1
     refine sr fun _ => ?_
     refine mv ?_
     refine mz ?_
     refine AWP.ret (blockA_r ?_)
     refine thenA_r (thenA_r ?_)
     refine blockA_r (thenA_r ?_)
     refine ρi ?_
     rw [idx_hit h0 hno h1]
   try simp [-List.getD_eq_getElem?_getD] at h1
   refine AWP.skip (blockA_n (thenA_n ?_))
   refine AWP.region (fun _ => ?_)
   refine ρa ?_
   refine mv ?_
   refine ⟨_, _, rfl, hG, ?_⟩
   refine thenA_n ⟨rfl, k + 1, _, ?_, ?_, rfl, ?_⟩
   · refine ⟨by omega, fun j hj => ?_⟩
     by_cases e : j = k
     · subst e; exact h1
     exact hno j (by omega)
   · repeat (first | exact .nil | refine .cons rfl ?_)
   omega
 try simp [-List.getD_eq_getElem?_getD] at h0
 refine AWP.exit ?_
 refine thenA_x ?_
 refine thenA_x ?_
 refine blockA_h ?_
 refine thenA_n (sr fun _ => ?_)
 refine mz ?_
 refine AWP.ret ?_
 refine ρi ?_
 rw [idx_none (fun j hj => hno j (by omega))]; rfl
theorem containsTx (F : Nat) (fs cs : List AV) (p : ByteArray → Bool) (l : List ByteArray) (hl : l.length ≤ 9223372036854775807) (hcf : ∀ (vs : Array Value) (W : World), (callFunc F vs).run Tryz.prog W = .ok (.enter F vs) W) (hn : (∀ x, x ∈ fs → NoH 0 x) ∧ ∀ x, x ∈ cs → NoH 0 x) (hp : ∀ x, x ∈ l → FnP Tryz.prog F (fs ++ [AV.str x] ++ cs) (.bool (p x))) : FnP Tryz.prog 43 [.sl (l.map AV.str), .fn (.func F) fs cs] (.bool (l.any p)) := by
 refine FnP.of Tryz.func43 rfl rfl (by simp) (by simp [AV.cells, aIn, aOut, aLn, aCl, aRp, Stk.aIt, Ssn.aSe, aSt, aCo]) (fun G hG => ?_)
 have hN : NoH G.length (.bool (l.any p)) := (by simp [AV.cells, aIn, aOut, aLn, aCl, aRp, Stk.aIt, Ssn.aSe, aSt, aCo])
 refine sr fun _ => ?_
 refine mz (sr fun _ => ?_)
 refine mv ?_
 refine mv ?_
 refine ρh cf67 (fun hg => indexTx F fs cs p l hl hcf hn hp) ?_
 refine ρ2 ?_
 refine mz ?_
 refine AWP.ret ?_
 refine ρi ?_
 rw [← any_idx]
theorem known_no1 {l : List Co} {order : List ByteArray} {k : Nat} (hk : k < l.length) (h : (!decide ((l.getD k default).end_ = 0) && !((placesP order order.length).lookup (l.getD k default).payload).isSome) = true) : knownP l order = false := by
 rw [places_in] at h
 have : l.all (fun o => decide (o.end_ = 0) || inP order o.payload) = false := List.all_eq_false.2 ⟨l.getD k default, by rw [Co_idx hk]; exact List.getElem_mem hk, by
   simp only [Bool.and_eq_true, Bool.not_eq_true'] at h
   rw [h.2, h.1]; decide⟩
 unfold knownP; rw [this, Bool.false_and]
theorem known_end {l : List Co} {order : List ByteArray} (h : ∀ k, k < l.length → (!decide ((l.getD k default).end_ = 0) && !((placesP order order.length).lookup (l.getD k default).payload).isSome) = false) : (!order.any fun p => !(paysP l l.length).contains p) = knownP l order := by
 have : l.all (fun o => decide (o.end_ = 0) || inP order o.payload) = true := List.all_eq_true.2 fun o ho => by
   obtain ⟨k, hk, rfl⟩ := List.mem_iff_getElem.1 ho
   have := h k hk
   rw [places_in, Co_idx hk] at this
   cases e : decide (l[k].end_ = 0) with
   | true => rfl
   | false =>
     rw [e, Bool.not_false, Bool.true_and, Bool.not_eq_false'] at this
     rw [this]; rfl
 unfold knownP
 rw [this, Bool.true_and, List.any_eq_not_all_not, Bool.not_not]
 congr 1
 funext p
 rw [Bool.not_not, pays_all]
theorem pair_eq (order : List ByteArray) (a b : Co) : (((placesP order order.length).lookup b.payload).isSome && aheadP a b && (!((placesP order order.length).lookup a.payload).isSome || decide (((placesP order order.length).lookup b.payload).getD 0 ≤ ((placesP order order.length).lookup a.payload).getD 0))) = !pairP order a b := by
 unfold pairP
 rw [places_in, places_in, Bool.not_not]
 cases hb : inP order b.payload with
 | false => rfl
 | true =>
   rw [places_at _ _ hb]
   cases ha : inP order a.payload with
   | false => rfl
   | true => rw [places_at _ _ ha]
theorem timely_no {l : List Co} {order : List ByteArray} {k q : Nat} (hk : k < l.length) (hq : q < l.length) (h : pairP order (l.getD q default) (l.getD k default) = false) : timelyP l order = false := by
 unfold timelyP
 refine List.all_eq_false.2 ⟨l.getD k default, by rw [Co_idx hk]; exact List.getElem_mem hk, ?_⟩
 rw [Bool.not_eq_true]
 exact List.all_eq_false.2 ⟨l.getD q default, by rw [Co_idx hq]; exact List.getElem_mem hq, by rw [h]; decide⟩
theorem timely_yes {l : List Co} {order : List ByteArray} (h : ∀ k, k < l.length → ∀ q, q < l.length → pairP order (l.getD q default) (l.getD k default) = true) : timelyP l order = true := by
 unfold timelyP
 rw [List.all_eq_true]
 intro b hb
 rw [List.all_eq_true]
 intro a ha
 obtain ⟨k, hk, rfl⟩ := List.mem_iff_getElem.1 hb
 obtain ⟨q, hq, rfl⟩ := List.mem_iff_getElem.1 ha
 have := h k hk q hq
 rwa [Co_idx hk, Co_idx hq] at this
theorem known_fn (l : List Co) (order : List ByteArray) (hl : l.length ≤ 1000) (ho : order.length ≤ 1000) : FnP Tryz.prog 27 [.sl (l.map aCo), .sl (order.map AV.str), .mp ((placesP order order.length).map fun p => (p.1, Value.int .i64 p.2))] (.bool (knownP l order)) := by
 refine FnP.of Tryz.func27 rfl rfl (by simp) (by simp [AV.cells, aIn, aOut, aLn, aCl, aRp, Stk.aIt, Ssn.aSe, aSt, aCo]) (fun G hG => ?_)
 have hN : NoH G.length (.bool (knownP l order)) := (by simp [AV.cells, aIn, aOut, aLn, aCl, aRp, Stk.aIt, Ssn.aSe, aSt, aCo])
 refine sr fun _ => ?_
 refine mz (sr fun _ => ?_)
 refine ARun.makeMap (j := 0) hG rfl rfl rfl rfl rfl optN ?_
 refine ρo (j := 1) zv79 ?_
 refine ρt sz79 ?_
 refine ez ?_
 refine AWP.seq (sr fun _ => ?_)
 refine mv ?_
 refine ρv U26 ?_
 refine mv ?_
 refine ez ?_
 refine AWP.block ?_
 refine AWP.rounds (fun k => k ≤ l.length ∧ ∀ j, j < k → (!decide ((l.getD j default).end_ = 0) && !((placesP order order.length).lookup (l.getD j default).payload).isSome) = false) (fun k => [(1, .sl (order.map AV.str)), (2, .mp ((placesP order order.length).map fun p => (p.1, Value.int .i64 p.2))), (7, .box (G.length + 1) 0), (13, .sl (l.map aCo)), (14, .int .i64 ((l.map aCo).length : Int)), (15, .int .i64 (k : Int))]) (fun k => [.map ((paysP l k).map fun p => (p, Value.bool true)), .box [.mh (G.length + 0)]]) (fun k => l.length - k) 2 0 ⟨by omega, fun j h => by omega⟩ (by repeat (first | exact .nil | refine .cons rfl ?_)) rfl (fun _ => rfl) (fun _ => ⟨by simp [AV.cells, aCo], by simp [AO.conts]⟩) (fun k hI => ?_)
 obtain ⟨hk, hno⟩ := hI
 refine sr fun _ => ?_
 refine ρ2 ?_
 refine ez ?_
 refine AWP.seq ?_
 refine ρp (fun h0 => ?_) (fun h0 => ?_)
 · try simp [-List.getD_eq_getElem?_getD] at h0
   refine AWP.skip (thenA_n ?_)
   refine AWP.seq (AWP.block (sr fun _ => ?_))
   refine ρf U26 sz50 ?_
   refine ρl U50 sz50 ?_
   refine ρo (j := 2) zv50 ?_
   refine ρ1 sz50 ?_
   refine ez (sr fun _ => ?_)
   refine ρd U79 ?_
   refine ρ6 (fo := 2) U50 sz9 ?_
   refine ρd U9 ?_
   refine ARun.mapSet hG rfl rfl rfl U79 U9 (ep rfl) rfl (ep rfl) (ep rfl) rfl (pays_set l k) rfl ?_
   refine ez (sr fun _ => ?_)
   refine mv ?_
   refine ρ6 (fo := 2) U50 sz9 ?_
   refine ρd U9 ?_
   refine ARun.lookMp rfl rfl rfl rfl U54 U9 zv3 (ep rfl) (ep rfl) (lookI _ _) optN ?_
   refine mv ?_
   refine ρ9 ?_
   refine ρ9 ?_
   refine ma ?_
   refine mz (sr fun _ => ?_)
   refine ρ6 (fo := 4) U50 sz3 ?_
   refine ρd U3 ?_
   refine ρ2 ?_
   refine mv ?_
   refine ρg ?_
   refine ARun.not rfl rfl rfl rfl (Ev.opt rfl (fun h => h)) optS ?_
   refine ρ0 ?_
   refine ez ?_
   refine ρp (fun h1 => ?_) (fun h1 => ?_)
   · refine sr fun _ => ?_
     refine mz ?_
     refine AWP.ret (blockA_r ?_)
     refine thenA_r (thenA_r ?_)
     refine blockA_r (thenA_r ?_)
     refine ρi ?_
     rw [known_no1 (by omega) h1]; rfl
   refine AWP.skip (blockA_n (thenA_n ?_))
   refine AWP.region (fun _ => ?_)
   refine ρa ?_
   refine mv ?_
   refine ⟨_, _, rfl, hG, ?_⟩
   refine thenA_n ⟨rfl, k + 1, _, ?_, ?_, rfl, ?_⟩
   · refine ⟨by omega, fun j hj => ?_⟩
     by_cases e : j = k
     · subst e; exact h1
     exact hno j (by omega)
   · repeat (first | exact .nil | refine .cons rfl ?_)
   omega
 simp at h0
 obtain rfl : k = l.length := by omega
 refine AWP.exit ?_
 refine thenA_x ?_
 refine thenA_x ?_
 refine blockA_h ?_
 refine thenA_n (AWP.seq ?_)
 refine AWP.frzMapIn (j := 0) (q := 1) (p := 0) hG rfl rfl rfl rfl ?_
 refine AWP.frzBox 7 hG rfl rfl rfl ?_
 refine AWP.region (fun _ => ?_)
 refine mv ?_
 refine ARun.makeFunc rfl rfl rfl rfl .nil (.cons (ep rfl) .nil) optN ?_
 refine ρk cf43 ?_ (hF := fun hg => containsTx 44 [] [.pe [.mp ((paysP l l.length).map fun p => (p, Value.bool true))]] (fun p => !(paysP l l.length).contains p) order (by omega) cf44 (by simp) (fun x _ => knownF_fn (paysP l l.length) x))
 refine ρC ?_
 refine mz ?_
 refine AWP.ret ?_
 refine ρi ?_
 rw [known_end (fun j hj => hno j (by omega))]
theorem timely_fn (l : List Co) (order : List ByteArray) (hl : l.length ≤ 1000) : FnP Tryz.prog 28 [.sl (l.map aCo), .mp ((placesP order order.length).map fun p => (p.1, Value.int .i64 p.2))] (.bool (timelyP l order)) := by
 refine FnP.of Tryz.func28 rfl rfl (by simp) (by simp [AV.cells, aIn, aOut, aLn, aCl, aRp, Stk.aIt, Ssn.aSe, aSt, aCo]) (fun G hG => ?_)
 have hN : NoH G.length (.bool (timelyP l order)) := (by simp [AV.cells, aIn, aOut, aLn, aCl, aRp, Stk.aIt, Ssn.aSe, aSt, aCo])
 refine sr fun _ => ?_
 refine mz ?_
 refine AWP.seq (sr fun _ => ?_)
 refine mv ?_
 refine ρv U26 ?_
 refine mv ?_
 refine ez ?_
 refine AWP.block ?_
 refine AWP.rounds (fun k => k ≤ l.length ∧ ∀ i, i < k → ∀ q, q < l.length → pairP order (l.getD q default) (l.getD i default) = true) (fun k => [(0, .sl (l.map aCo)), (1, .mp ((placesP order order.length).map fun p => (p.1, Value.int .i64 p.2))), (13, .sl (l.map aCo)), (14, .int .i64 ((l.map aCo).length : Int)), (15, .int .i64 (k : Int))]) (fun k => []) (fun k => l.length - k) 0 0 ⟨by omega, fun j h => by omega⟩ (by repeat (first | exact .nil | refine .cons rfl ?_)) rfl (fun _ => rfl) (fun _ => ⟨by simp [AV.cells, aCo], by simp [AO.conts]⟩) (fun k hI => ?_)
 obtain ⟨hk, hno⟩ := hI
 refine sr fun _ => ?_
 refine ρ2 ?_
 refine ez ?_
 refine AWP.seq ?_
 refine ρp (fun h0 => ?_) (fun h0 => ?_)
 · try simp [-List.getD_eq_getElem?_getD] at h0
   refine AWP.skip (thenA_n ?_)
   refine AWP.seq (AWP.block (sr fun _ => ?_))
   refine ρf U26 sz50 ?_
   refine ρl U50 sz50 ?_
   refine ρo (j := 0) zv50 ?_
   refine ρ1 sz50 ?_
   refine ez ?_
   refine AWP.seq ?_
   refine AWP.frzBox 6 hG rfl rfl rfl ?_
   refine AWP.region (fun _ => ?_)
   refine mv ?_
   refine ρ4 U50 sz9 ?_
   refine ρ7 U9 ?_
   refine ARun.lookMp rfl rfl rfl rfl U54 U9 zv3 (ep rfl) (ep rfl) (lookI _ _) optN ?_
   refine mv ?_
   refine ρ9 ?_
   refine ρ9 ?_
   refine ma ?_
   refine mz (sr fun _ => ?_)
   refine mv ?_
   refine ρv U26 ?_
   refine mv ?_
   refine ez ?_
   refine AWP.block ?_
   refine AWP.rounds (fun q => q ≤ l.length ∧ ∀ i, i < q → pairP order (l.getD i default) (l.getD k default) = true) (fun q => [(0, .sl (l.map aCo)), (1, .mp ((placesP order order.length).map fun p => (p.1, Value.int .i64 p.2))), (6, .pe (aCo (l.getD k default)).cells), (7, .int .i64 (((placesP order order.length).lookup (l.getD k default).payload).getD 0)), (8, .bool ((placesP order order.length).lookup (l.getD k default).payload).isSome), (13, .sl (l.map aCo)), (14, .int .i64 ((l.map aCo).length : Int)), (15, .int .i64 (k : Int)), (26, .sl (l.map aCo)), (27, .int .i64 ((l.map aCo).length : Int)), (28, .int .i64 (q : Int))]) (fun q => [.dead]) (fun q => l.length - q) 1 0 ⟨by omega, fun j h => by omega⟩ (by repeat (first | exact .nil | refine .cons rfl ?_)) rfl (fun _ => rfl) (fun _ => ⟨by simp [AV.cells, aCo], by simp [AO.conts]⟩) (fun q hI => ?_)
   obtain ⟨hqk, hq⟩ := hI
   refine sr fun _ => ?_
   refine ρ2 ?_
   refine ez ?_
   refine AWP.seq ?_
   refine ρp (fun h1 => ?_) (fun h1 => ?_)
   · try simp [-List.getD_eq_getElem?_getD] at h1
     refine AWP.skip (thenA_n ?_)
     refine AWP.seq (AWP.block (sr fun _ => ?_))
     refine ρf U26 sz50 ?_
     refine ρl U50 sz50 ?_
     refine ρo (j := 1) zv50 ?_
     refine ρ1 sz50 ?_
     refine ez ?_
     refine AWP.seq ?_
     refine AWP.frzBox 10 hG rfl rfl rfl ?_
     refine AWP.region (fun _ => ?_)
     refine mv ?_
     refine ρ4 U50 sz9 ?_
     refine ρ7 U9 ?_
     refine ARun.lookMp rfl rfl rfl rfl U54 U9 zv3 (ep rfl) (ep rfl) (lookI _ _) optN ?_
     refine mv ?_
     refine ρ9 ?_
     refine ρ9 ?_
     refine ma ?_
     refine mz (sr fun _ => ?_)
     refine mv ?_
     refine mv ?_
     refine ARun.loadPeA rfl rfl rfl rfl U50 rfl sz50 (ep rfl) rfl optS ?_
     refine ARun.loadPeA rfl rfl rfl rfl U50 rfl sz50 (ep rfl) rfl optS ?_
     refine ARun.call rfl rfl rfl rfl cf35 (ep rfl) (.cons (Ev.opt rfl (fun h => h)) (.cons (Ev.opt rfl (fun h => h)) .nil)) rfl (fun hg => ahead_fn (l.getD q default) (l.getD k default)) optS ?_
     refine ρ0 ?_
     refine mv ?_
     refine ρg ?_
     refine ARun.not rfl rfl rfl rfl (Ev.opt rfl (fun h => h)) optS ?_
     refine ARun.move (.inl rfl) rfl rfl rfl (Ev.opt rfl (fun h => h)) optS ?_
     refine ρg ?_
     refine ρg ?_
     refine ρs ?_
     refine ARun.pick rfl rfl rfl rfl (Ev.opt rfl (fun h => h)) (ep rfl) (Ev.opt rfl (by first | exact pkF | exact pkF2 | simp +contextual)) (orB _ _) optS ?_
     refine ρ0 ?_
     refine ez ?_
     refine ρp (fun h2 => ?_) (fun h2 => ?_)
     · rw [pair_eq] at h2
       rw [Bool.not_eq_true'] at h2
       refine sr fun _ => ?_
       refine mz ?_
       refine AWP.ret (blockA_r ?_)
       refine thenA_r (thenA_r ?_)
       refine blockA_r (blockA_r ?_)
       refine thenA_r (thenA_r ?_)
       refine blockA_r (thenA_r ?_)
       refine ρi ?_
       rw [timely_no (by omega) (by omega) h2]; rfl
     rw [pair_eq] at h2
     rw [Bool.not_eq_false'] at h2
     refine AWP.skip (blockA_n (thenA_n ?_))
     refine AWP.region (fun _ => ?_)
     refine ρa ?_
     refine mv ?_
     refine ⟨_, _, rfl, hG, ?_⟩
     refine thenA_n ⟨rfl, q + 1, _, ?_, ?_, rfl, ?_⟩
     · refine ⟨by omega, fun i hi => ?_⟩
       by_cases e : i = q
       · subst e; exact h2
       exact hq i (by omega)
     · repeat (first | exact .nil | refine .cons rfl ?_)
     omega
   simp at h1
   obtain rfl : q = l.length := by omega
   refine AWP.exit ?_
   refine thenA_x ?_
   refine thenA_x ?_
   refine blockA_h ?_
   refine blockA_n (thenA_n ?_)
   refine AWP.region (fun _ => ?_)
   refine ρa ?_
   refine mv ?_
   refine ⟨_, _, rfl, hG, ?_⟩
   refine thenA_n ⟨rfl, k + 1, _, ?_, ?_, rfl, ?_⟩
   · refine ⟨by omega, fun i hi => ?_⟩
     by_cases e : i = k
     · subst e; exact hq
     exact hno i (by omega)
   · repeat (first | exact .nil | refine .cons rfl ?_)
   omega
 simp at h0
 obtain rfl : k = l.length := by omega
 refine AWP.exit ?_
 refine thenA_x ?_
 refine thenA_x ?_
 refine blockA_h ?_
 refine thenA_n (sr fun _ => ?_)
 refine mz ?_
 refine AWP.ret ?_
 refine ρi ?_
 rw [timely_yes (fun i hi => hno i hi)]; rfl
theorem pl_rng (order : List ByteArray) (p : ByteArray) : 0 ≤ ((placesP order order.length).lookup p).getD 0 ∧ ((placesP order order.length).lookup p).getD 0 ≤ (order.length : Int) ∧ (inP order p = true → (((placesP order order.length).lookup p).getD 0).toNat < order.length) := by
 rw [places_all]
 have := first_ge order p
 unfold inP
 by_cases h : 0 ≤ firstP order p
 · rw [if_pos h]; exact ⟨h, by show firstP order p ≤ _; omega, fun _ => by show (firstP order p).toNat < _; omega⟩
 rw [if_neg h]; exact ⟨by decide, by show (0 : Int) ≤ _; omega, fun e => absurd (of_decide_eq_true e) h⟩
theorem known_in {l : List Co} {order : List ByteArray} (h : knownP l order = true) {k : Nat} (hk : k < l.length) (he : (l.getD k default).end_ ≠ 0) : inP order (l.getD k default).payload = true := by
 unfold knownP at h
 rw [Bool.and_eq_true, List.all_eq_true] at h
 have := h.1 (l.getD k default) (by rw [Co_idx hk]; exact List.getElem_mem hk)
 rw [decide_eq_false he, Bool.false_or] at this
 exact this
theorem told_eq {l : List Co} {order rs : List ByteArray} (h : knownP l order = true) {k : Nat} (hk : k < l.length) {b : Bool} (hb : (l.getD k default).end_ ≠ 0 → b = !decide (rs.getD (((placesP order order.length).lookup (l.getD k default).payload).getD 0).toNat default = (l.getD k default).reply)) : (!decide ((l.getD k default).end_ = 0) && b) = !toldP rs order (l.getD k default) := by
 unfold toldP
 by_cases he : (l.getD k default).end_ = 0
 · rw [decide_eq_true he]; rfl
 rw [decide_eq_false he, hb he, places_at _ _ (known_in h hk he)]; rfl
theorem told_no {l : List Co} {order rs : List ByteArray} {k : Nat} (hk : k < l.length) (h : toldP rs order (l.getD k default) = false) : l.all (toldP rs order) = false :=
 List.all_eq_false.2 ⟨l.getD k default, by rw [Co_idx hk]; exact List.getElem_mem hk, by rw [h]; decide⟩
theorem told_all {l : List Co} {order rs : List ByteArray} (h : ∀ k, k < l.length → toldP rs order (l.getD k default) = true) : l.all (toldP rs order) = true := by
 rw [List.all_eq_true]; intro o ho
 obtain ⟨k, hk, rfl⟩ := List.mem_iff_getElem.1 ho
 rw [← Co_idx hk]; exact h k hk
theorem explain_fn (s : St) (l : List Co) (order : List ByteArray) (hl : l.length ≤ 1000) (hp : ∀ x, x ∈ l → x.payload.size ≤ 1000000) (ho3 : order.length ≤ 30) (hs : ∀ x, x ∈ order → x.size ≤ 2000) (hi1 : s.1.length ≤ 60) (hi2 : s.2.length ≤ 60) : FnP Tryz.prog 14 [aSt s, .sl (l.map aCo), .sl (order.map AV.str)] (.int .i64 (explainP s l order)) := by
 refine FnP.of Tryz.func14 rfl rfl (by simp) (by simp [AV.cells, aIn, aOut, aLn, aCl, aRp, Stk.aIt, Ssn.aSe, aSt, aCo]) (fun G hG => ?_)
 have hN : NoH G.length (.int .i64 (explainP s l order)) := (by simp [AV.cells, aIn, aOut, aLn, aCl, aRp, Stk.aIt, Ssn.aSe, aSt, aCo])
 refine sr fun _ => ?_
 refine ρz ?_
 refine mz ?_
 refine AWP.seq (sr fun _ => ?_)
 refine ρl U25 sz25 ?_
 refine mv ?_
 refine ρh cf25 (fun hg => mayL_fn s l hl hp) ?_
 refine ρC ?_
 refine ez ?_
 refine ρp (fun h0 => ?_) (fun h0 => ?_)
 · simp at h0
   refine sr fun _ => ?_
   refine mz ?_
   refine AWP.ret (thenA_r ?_)
   refine ρi ?_
   unfold explainP; rw [if_pos (by simpa [Classical.or_iff_not_imp_left] using h0)]; rfl
 simp at h0
 refine AWP.skip (thenA_n (sr fun _ => ?_))
 refine mv ?_
 refine ρA cf26 ?_ (hF := fun hg => places_fn order (by omega))
 refine mz ?_
 refine AWP.seq (AWP.block (sr fun _ => ?_))
 refine mv ?_
 refine mv ?_
 refine mv ?_
 refine ARun.call rfl rfl rfl rfl cf27 (ep rfl) (.cons (ep rfl) (.cons (ep rfl) (.cons (ep rfl) .nil))) rfl (fun hg => known_fn l order hl (by omega)) optN ?_
 refine ρC ?_
 refine mz ?_
 refine ρp (fun h1 => ?_) (fun h1 => ?_)
 · rw [Bool.not_eq_true'] at h1
   refine sr fun _ => ?_
   refine mz ?_
   refine AWP.ret (blockA_r (thenA_r ?_))
   refine ρi ?_
   unfold explainP; rw [if_neg (by simp [h0]), if_pos h1]; rfl
 rw [Bool.not_eq_false'] at h1
 refine sr fun _ => ?_
 refine mv ?_
 refine mv ?_
 refine ρh cf28 (fun hg => timely_fn l order hl) ?_
 refine ρC ?_
 refine mz ?_
 refine ρp (fun h2 => ?_) (fun h2 => ?_)
 · rw [Bool.not_eq_true'] at h2
   refine sr fun _ => ?_
   refine mz ?_
   refine AWP.ret (blockA_r (thenA_r ?_))
   refine ρi ?_
   unfold explainP; rw [if_neg (by simp [h0]), if_neg (by rw [h1]; decide), if_pos h2]; rfl
 rw [Bool.not_eq_false'] at h2
 have hfl : (foldP s order).2.length = order.length := by have := (fold_len s order (fun x hx => by have := hs x hx; omega) hi1 hi2 order.length (Nat.le_refl _)).2; rwa [List.take_length] at this
 refine AWP.skip (blockA_n (thenA_n (sr fun _ => ?_)))
 refine ρl U25 sz25 ?_
 refine mv ?_
 refine ρk cf29 ?_ (hF := fun hg => fold_fn s order (by omega) hs (by omega) (by omega))
 refine mv ?_
 refine ρ9 ?_
 refine ρ9 ?_
 refine ρo (j := 0) zv25 ?_
 refine ρ1 sz25 ?_
 refine mz ?_
 refine AWP.seq (AWP.seq ?_)
 refine AWP.frzBox 8 hG rfl rfl rfl ?_
 refine AWP.region (fun _ => ?_)
 refine mv ?_
 refine ρv U26 ?_
 refine mv ?_
 refine ez ?_
 refine AWP.block ?_
 refine AWP.rounds (fun k => k ≤ l.length ∧ ∀ j, j < k → toldP (foldP s order).2 order (l.getD j default) = true) (fun k => [(1, .sl (l.map aCo)), (2, .sl (order.map AV.str)), (7, .mp ((placesP order order.length).map fun p => (p.1, Value.int .i64 p.2))), (9, .sl ((foldP s order).2.map AV.str)), (35, .sl (l.map aCo)), (36, .int .i64 ((l.map aCo).length : Int)), (37, .int .i64 (k : Int))]) (fun k => [.dead]) (fun k => l.length - k) 1 0 ⟨by omega, fun j h => by omega⟩ (by repeat (first | exact .nil | refine .cons rfl ?_)) rfl (fun _ => rfl) (fun _ => ⟨by simp [AV.cells, aCo], by simp [AO.conts]⟩) (fun k hI => ?_)
 obtain ⟨hk, hno⟩ := hI
 obtain ⟨hr1, hr2, hr3⟩ := pl_rng order (l.getD k default).payload
 have hin : ¬ (l.getD k default).end_ = 0 → k < l.length → ((((placesP order order.length).lookup (l.getD k default).payload).getD 0).toNat < (foldP s order).2.length) := fun e hkl => by rw [hfl]; exact hr3 (known_in h1 hkl e)
 refine sr fun _ => ?_
 refine ρ2 ?_
 refine ez ?_
 refine AWP.seq ?_
 refine ρp (fun h3 => ?_) (fun h3 => ?_)
 · try simp [-List.getD_eq_getElem?_getD] at h3
   refine AWP.skip (thenA_n ?_)
   refine AWP.seq (AWP.block (sr fun _ => ?_))
   refine ARun.indexSl rfl rfl rfl rfl U26 sz50 (ep rfl) (ep rfl) (fun _ => rfl) (fun hg => getMap _ _ _ (by first | ((try simp at hg); omega) | exact hr1 | exact hin (by simpa using hg) (by omega))) rfl rfl optN ?_
   refine ρl U50 sz50 ?_
   refine ρo (j := 1) zv50 ?_
   refine ρ1 sz50 ?_
   refine ez ?_
   refine AWP.seq ?_
   refine AWP.frzBox 11 hG rfl rfl rfl ?_
   refine ρE mixed (fun _ => ?_)
   refine ρ4 U50 sz3 ?_
   refine ρ7 U3 ?_
   refine ρ2 ?_
   refine mv ?_
   refine ρg ?_
   refine ρg ?_
   refine ρc U50 sz9 ?_
   refine ρ5 U9 ?_
   refine ARun.lookMp rfl rfl rfl rfl U54 U9 zv3 (Ev.opt rfl (fun h => h)) (Ev.opt rfl (fun h => h)) (lookI1 _ _) optS ?_
   refine ARun.indexSl rfl rfl rfl rfl U27 sz9 (Ev.opt rfl (fun h => h)) (Ev.opt rfl (fun h => h)) (fun hg => ofNonneg (by first | ((try simp at hg); omega) | exact hr1 | exact hin (by simpa using hg) (by omega))) (fun hg => getMap _ _ _ (by first | ((try simp at hg); omega) | exact hr1 | exact hin (by simpa using hg) (by omega))) rfl rfl optS ?_
   refine ρ5 U9 ?_
   refine ρc U50 sz9 ?_
   refine ρ5 U9 ?_
   refine ARun.cmpS rfl rfl rfl rfl (Ev.opt rfl (fun h => h)) (Ev.opt rfl (fun h => h)) rfl optS ?_
   refine ρ0 ?_
   refine ⟨by kernel_rfl, _, _, rfl, hG, ?_⟩
   refine thenA_n ?_
   refine ρp (fun h4 => ?_) (fun h4 => ?_)
   · rw [told_eq h1 (by omega) (rs := (foldP s order).2) (fun he => by simp)] at h4
     refine sr fun _ => ?_
     refine mz ?_
     refine AWP.ret (blockA_r ?_)
     refine thenA_r (thenA_r ?_)
     refine blockA_r (thenA_r ?_)
     refine ρi ?_
     unfold explainP; rw [if_neg (by simp [h0]), if_neg (by rw [h1]; decide), if_neg (by rw [h2]; decide), if_neg (by rw [told_no (by omega) (by rw [Bool.not_eq_true'] at h4; exact h4)]; decide)]; rfl
   rw [told_eq h1 (by omega) (rs := (foldP s order).2) (fun he => by simp)] at h4
   refine AWP.skip (blockA_n (thenA_n ?_))
   refine AWP.region (fun _ => ?_)
   refine ARun.arith rfl rfl rfl rfl (ep rfl) (ep rfl) rfl (fun hg => i64w (by first | ((try simp at hg); omega) | exact hr1 | exact hin (by simpa using hg) (by omega))) optN ?_
   refine mv ?_
   refine ⟨_, _, rfl, hG, ?_⟩
   refine thenA_n ⟨rfl, k + 1, _, ?_, ?_, rfl, ?_⟩
   · refine ⟨by omega, fun j hj => ?_⟩
     by_cases e : j = k
     · subst e; rw [Bool.not_eq_false'] at h4; exact h4
     exact hno j (by omega)
   · repeat (first | exact .nil | refine .cons rfl ?_)
   omega
 simp at h3
 obtain rfl : k = l.length := by omega
 refine AWP.exit ?_
 refine thenA_x ?_
 refine thenA_x ?_
 refine blockA_h ?_
 refine thenA_n (sr fun _ => ?_)
 refine mz ?_
 refine AWP.ret ?_
 refine ρi ?_
 unfold explainP; rw [if_neg (by simp [h0]), if_neg (by rw [h1]; decide), if_neg (by rw [h2]; decide), if_pos (told_all (fun j hj => hno j hj))]; rfl
theorem done_eq2 (pl : List Bool) (i : Nat) : (decide ((i : Int) < ((pl.map AV.bool).length : Int)) && pl.getD i default) = doneP pl i := by
 unfold doneP; rw [List.length_map]; congr 1; exact decide_eq_decide.2 (by omega)
theorem doneF_fn (pl : List Bool) (i : Nat) (hi : i ≤ 1000) (hpl : pl.length ≤ 1000) : FnP Tryz.prog 34 [.int .i64 (i : Int), .pe [.sl (pl.map AV.bool)]] (.bool (doneP pl i)) := by
 refine FnP.of Tryz.func34 rfl rfl (by simp) (by simp [AV.cells, aIn, aOut, aLn, aCl, aRp, Stk.aIt, Ssn.aSe, aSt, aCo]) (fun G hG => ?_)
 have hN : NoH G.length (.bool (doneP pl i)) := (by simp [AV.cells, aIn, aOut, aLn, aCl, aRp, Stk.aIt, Ssn.aSe, aSt, aCo])
 refine sr fun _ => ?_
 refine mz (sr fun _ => ?_)
 refine mv ?_
 refine ρ7 U32 ?_
 refine ρv U32 ?_
 refine ρ2 ?_
 refine mv ?_
 refine ARun.loadPe rfl rfl rfl rfl U32 rfl (ep rfl) rfl optS ?_
 refine ρg ?_
 refine ρu U32 sz4 ?_
 refine ρ5 U4 ?_
 refine ρ0 ?_
 refine mz ?_
 refine AWP.ret ?_
 refine ρi ?_
 exact congrArg AV.bool (done_eq2 pl i)
def freeQ (l : List Co) (pl : List Bool) (k : Nat) : Nat → Bool
 | 0 => !doneP pl k
 | q + 1 => freeQ l pl k q && (doneP pl q || !aheadP (l.getD q default) (l.getD k default))
theorem freeQ_eq (l : List Co) (pl : List Bool) (k : Nat) : ∀ q, freeQ l pl k q = (!doneP pl k && (List.range q).all fun j => doneP pl j || !aheadP (l.getD j default) (l.getD k default)) := by
 intro q
 induction q with
 | zero => rw [freeQ]; simp
 | succ q ih => rw [freeQ, ih, List.range_succ, List.all_append, Bool.and_assoc]; simp
theorem freeQ_at (l : List Co) (pl : List Bool) (k : Nat) : freeQ l pl k l.length = freeAt l pl k := freeQ_eq l pl k l.length
def freeT (l : List Co) (pl : List Bool) (k : Nat) : List AV := ((List.range k).filter (freeAt l pl)).map fun (i : Nat) => AV.int .i64 (i : Int)
theorem freeT_yes {l : List Co} {pl : List Bool} {k : Nat} (h : freeAt l pl k = true) : freeT l pl k ++ [AV.int .i64 (k : Int)] = freeT l pl (k + 1) := by
 unfold freeT; rw [List.range_succ, List.filter_append, List.map_append]; simp [h]
theorem freeT_no {l : List Co} {pl : List Bool} {k : Nat} (h : freeAt l pl k = false) : freeT l pl k = freeT l pl (k + 1) := by
 unfold freeT; rw [List.range_succ, List.filter_append, List.map_append]; simp [h]
theorem freeT_len (l : List Co) (pl : List Bool) (k : Nat) : (freeT l pl k).length ≤ k := by
 unfold freeT; rw [List.length_map]
 have := List.length_filter_le (freeAt l pl) (List.range k)
 rwa [List.length_range] at this
theorem freeT_flat (l : List Co) (pl : List Bool) (k : Nat) : ∀ y, y ∈ (freeT l pl k).flatMap AV.cells → Flat y ∧ ∀ m, NoH m y := by
 intro y hy
 obtain ⟨x, hx, hy⟩ := List.mem_flatMap.1 hy
 unfold freeT at hx
 obtain ⟨i, _, rfl⟩ := List.mem_map.1 hx
 simp only [AV.cells, List.mem_singleton] at hy
 subst hy; exact ⟨.int _ _, fun m => .int _ _⟩
theorem free_new (l : List Co) (pl : List Bool) (hl : l.length ≤ 1000) (hpl : pl.length ≤ 1000) : FnNew Tryz.prog 17 [.sl (l.map aCo), .sl (pl.map AV.bool)] 3 1 (freeT l pl l.length) := by
 refine FnNew.of Tryz.func17 rfl rfl (by simp) (fun y hy => (freeT_flat l pl _ y hy).2 0) (fun G hG => ?_)
 refine sr fun _ => ?_
 refine ARun.boxPe1 rfl rfl rfl rfl (ep rfl) (by first | rfl | exact aEr_one _ | exact aFl_one _) optN ?_
 refine mz (sr fun _ => ?_)
 refine ARun.makeFunc rfl rfl rfl rfl .nil (.cons (ep rfl) .nil) optN ?_
 refine mz (sr fun _ => ?_)
 refine ARun.nilOwn (e := 3) (z := 1) (j := 0) hG rfl ⟨.inl rfl, rfl⟩ (fun _ => rfl) rfl rfl rfl optN ?_
 refine ez ?_
 refine AWP.seq (sr fun _ => ?_)
 refine mv ?_
 refine ρv U26 ?_
 refine mv ?_
 refine ez ?_
 refine AWP.block ?_
 refine AWP.rounds (fun st => st.1 ≤ l.length) (fun st => [(0, .sl (l.map aCo)), (5, .fn (.func 34) [] [.pe [.sl (pl.map AV.bool)]]), (6, .own (G.length + 0) st.2), (13, .sl (l.map aCo)), (14, .int .i64 ((l.map aCo).length : Int)), (15, .int .i64 (st.1 : Int))]) (fun st => [.row st.2 3 1 (freeT l pl st.1)]) (fun st => l.length - st.1) 1 ((0, 0) : Nat × Nat) (Nat.zero_le _) (by repeat (first | exact .nil | refine .cons rfl ?_)) rfl (fun _ => rfl) (fun _ => ⟨by simp [AV.cells, aCo]; rintro x (⟨_, rfl⟩ | ⟨_, rfl⟩) y hy <;> (simp at hy; subst hy; simp), fun o ho x hx => by rcases List.mem_cons.1 ho with rfl | ho; exact (freeT_flat l pl _ x hx).2 _; first | (cases ho; done) | (rw [List.mem_singleton.1 ho] at hx; cases hx)⟩) (fun st hI => ?_)
 obtain ⟨k, g⟩ := st
 dsimp only at hI
 show AWP _ _ _ _ _ [(0, .sl (l.map aCo)), (5, .fn (.func 34) [] [.pe [.sl (pl.map AV.bool)]]), (6, .own (G.length + 0) g), (13, .sl (l.map aCo)), (14, .int .i64 ((l.map aCo).length : Int)), (15, .int .i64 (k : Int))] _ [.row g 3 1 (freeT l pl k)]
 refine sr fun _ => ?_
 refine ρ2 ?_
 refine ez ?_
 refine AWP.seq ?_
 refine ρp (fun h0 => ?_) (fun h0 => ?_)
 · try simp [-List.getD_eq_getElem?_getD] at h0
   refine AWP.skip (thenA_n ?_)
   refine AWP.seq (AWP.block (sr fun _ => ?_))
   refine mv ?_
   refine ρf U26 sz50 ?_
   refine ρl U50 sz50 ?_
   refine ρo (j := 1) zv50 ?_
   refine ma ?_
   refine ρ1 sz50 ?_
   refine ez ?_
   refine AWP.seq ?_
   refine AWP.frzBox 8 hG rfl rfl rfl ?_
   refine AWP.region (fun _ => ?_)
   refine mv ?_
   refine mv ?_
   refine ρA cf34 ?_ (hF := fun hg => doneF_fn pl k (by omega) hpl)
   refine ρC ?_
   refine mz ?_
   refine AWP.seq (sr fun _ => ?_)
   refine mv ?_
   refine ρv U26 ?_
   refine mv ?_
   refine ez ?_
   refine AWP.block ?_
   refine AWP.rounds (fun q => q ≤ l.length) (fun q => [(0, .sl (l.map aCo)), (5, .fn (.func 34) [] [.pe [.sl (pl.map AV.bool)]]), (6, .own (G.length + 0) g), (7, .int .i64 (k : Int)), (8, .pe (aCo (l.getD k default)).cells), (9, .bool (freeQ l pl k q)), (13, .sl (l.map aCo)), (14, .int .i64 ((l.map aCo).length : Int)), (15, .int .i64 (k : Int)), (24, .sl (l.map aCo)), (25, .int .i64 ((l.map aCo).length : Int)), (26, .int .i64 (q : Int))]) (fun q => [.row g 3 1 (freeT l pl k), .dead]) (fun q => l.length - q) 2 0 (Nat.zero_le _) (by repeat (first | exact .nil | refine .cons rfl ?_)) rfl (fun _ => rfl) (fun _ => ⟨by simp [AV.cells, aCo]; rintro x (⟨_, rfl⟩ | ⟨_, rfl⟩) y hy <;> (simp at hy; subst hy; simp), fun o ho x hx => by rcases List.mem_cons.1 ho with rfl | ho; exact (freeT_flat l pl _ x hx).2 _; first | (cases ho; done) | (rw [List.mem_singleton.1 ho] at hx; cases hx)⟩) (fun q hI => ?_)
   refine sr fun _ => ?_
   refine ρ2 ?_
   refine ez ?_
   refine AWP.seq ?_
   refine ρp (fun h1 => ?_) (fun h1 => ?_)
   · try simp [-List.getD_eq_getElem?_getD] at h1
     refine AWP.skip (thenA_n ?_)
     refine AWP.seq (AWP.block (sr fun _ => ?_))
     refine mv ?_
     refine ρf U26 sz50 ?_
     refine ρl U50 sz50 ?_
     refine ρo (j := 2) zv50 ?_
     refine ma ?_
     refine ρ1 sz50 ?_
     refine ez ?_
     refine AWP.frzBox 11 hG rfl rfl rfl ?_
     refine AWP.region (fun _ => ?_)
     refine mv ?_
     refine mv ?_
     refine ρg ?_
     refine ρg ?_
     refine ARun.call rfl rfl rfl rfl cf34 (Ev.opt rfl (fun h => h)) (.cons (Ev.opt rfl (fun h => h)) .nil) rfl (fun hg => doneF_fn pl q (by omega) hpl) optS ?_
     refine ARun.move (.inl rfl) rfl rfl rfl (Ev.opt rfl (fun h => h)) optS ?_
     refine ARun.loadPeA rfl rfl rfl rfl U50 rfl sz50 (ep rfl) rfl optS ?_
     refine ARun.loadPeA rfl rfl rfl rfl U50 rfl sz50 (ep rfl) rfl optS ?_
     refine ARun.call rfl rfl rfl rfl cf35 (ep rfl) (.cons (Ev.opt rfl (fun h => h)) (.cons (Ev.opt rfl (fun h => h)) .nil)) rfl (fun hg => ahead_fn (l.getD q default) (l.getD k default)) optS ?_
     refine ARun.not rfl rfl rfl rfl (Ev.opt rfl (fun h => h)) optS ?_
     refine ARun.pick rfl rfl rfl rfl (Ev.opt rfl (fun h => h)) (ep rfl) (Ev.opt rfl (by first | exact pkF | exact pkF2 | simp +contextual)) (orB _ _) optS ?_
     refine ρ0 ?_
     refine ma ?_
     refine ⟨_, _, rfl, hG, ?_⟩
     refine blockA_n (thenA_n ?_)
     refine AWP.region (fun _ => ?_)
     refine ρa ?_
     refine mv ?_
     refine ⟨_, _, rfl, hG, ?_⟩
     refine thenA_n ⟨rfl, q + 1, _, ?_, ?_, rfl, ?_⟩
     · omega
     · repeat (first | exact .nil | refine .cons rfl ?_)
     omega
   simp at h1
   obtain rfl : q = l.length := by omega
   refine AWP.exit ?_
   refine thenA_x ?_
   refine thenA_x ?_
   refine blockA_h ?_
   refine thenA_n (sr fun _ => ?_)
   refine mv ?_
   refine ez ?_
   refine ρp (fun h2 => ?_) (fun h2 => ?_)
   · rw [freeQ_at] at h2
     refine AWP.region (fun _ => ?_)
     refine mv ?_
     refine mv ?_
     refine ρy U40 sz3 zv3 ?_
     refine ARun.appendL hG rfl rfl rfl rfl U40 ti3 rfl (by decide) (ep rfl) (ep rfl) rfl rfl (by have := freeT_len l pl k; simp [maxLen]; omega) (by have := freeT_len l pl k; simp; omega) (freeT_yes h2) optN rfl ?_
     refine ma ?_
     refine ⟨_, _, rfl, hG, ?_⟩
     refine blockA_n (thenA_n ?_)
     refine AWP.region (fun _ => ?_)
     refine ρa ?_
     refine mv ?_
     refine ⟨_, _, rfl, hG, ?_⟩
     refine thenA_n ⟨rfl, (k + 1, g + 1), _, ?_, ?_, rfl, ?_⟩
     · dsimp only; omega
     · repeat (first | exact .nil | refine .cons rfl ?_)
     dsimp only; omega
   rw [freeQ_at] at h2
   rw [freeT_no h2]
   refine AWP.skip (blockA_n (thenA_n ?_))
   refine AWP.region (fun _ => ?_)
   refine ρa ?_
   refine mv ?_
   refine ⟨_, _, rfl, hG, ?_⟩
   refine thenA_n ⟨rfl, (k + 1, g), _, ?_, ?_, rfl, ?_⟩
   · dsimp only; omega
   · repeat (first | exact .nil | refine .cons rfl ?_)
   dsimp only; omega
 simp at h0
 obtain rfl : k = l.length := by omega
 refine AWP.exit ?_
 refine thenA_x ?_
 refine thenA_x ?_
 refine blockA_h ?_
 refine thenA_n (sr fun _ => ?_)
 refine mv ?_
 refine mz ?_
 refine AWP.ret ?_
 refine endR.one (.inr rfl) rfl (.tmp rfl) ?_
 rfl
theorem free_fn (l : List Co) (pl : List Bool) (hl : l.length ≤ 1000) (hpl : pl.length ≤ 1000) : FnP Tryz.prog 17 [.sl (l.map aCo), .sl (pl.map AV.bool)] (.sl (freeT l pl l.length)) := FnP.of_new (free_new l pl hl hpl) fun y hy => (freeT_flat l pl _ y hy).2 0
theorem freeT_map (l : List Co) (pl : List Bool) : freeT l pl l.length = (freeP l pl).map fun (i : Nat) => AV.int .i64 (i : Int) := rfl
end Go.Proofs.YtcndnllmlhhjiaaGreatDoor
namespace Go.Proofs.YtcndnllmlhhjiaaGreatDoor
open Go.RowKit
open NumP
theorem aheadR_fn (a b : Co) : FnP Tryz.prog 32 [aCo a, aCo b] (.bool (aheadP a b)) := by
 refine FnP.of Tryz.func32 rfl rfl (by simp) (by simp [AV.cells, aIn, aOut, aLn, aCl, aRp, aCo]) (fun G hG => ?_)
 have hN : NoH G.length (.bool (aheadP a b)) := (by simp [AV.cells, aIn, aOut, aLn, aCl, aRp, aCo])
 refine sr fun _ => ?_
 refine ρz ?_
 refine ρz ?_
 refine mz (sr fun _ => ?_)
 refine ρ4 U53 sz3 ?_
 refine ρ7 U3 ?_
 refine ρ2 ?_
 refine mv ?_
 refine ρc U53 sz3 ?_
 refine ρ5 U3 ?_
 refine ρc U53 sz3 ?_
 refine ρ5 U3 ?_
 refine ρs ?_
 refine ρ0 ?_
 refine mz ?_
 refine AWP.ret ?_
 refine ρi ?_
 simp [aheadP]
theorem may_parts {o : Co} (h : mayO o = true) : takeE o.payload = 0 ∧ (takeC o.payload).client = o.client ∧ (takeC o.payload).seq = o.seq ∧ (1 ≤ o.start ∧ o.start ≤ 1000000) ∧ (o.end_ = 0 → o.reply = ⟨#[]⟩) ∧ (o.end_ ≠ 0 → o.start < o.end_ ∧ o.end_ ≤ 1000000) := by
 unfold mayO momentP at h
 simp only [Bool.and_eq_true, decide_eq_true_eq] at h
 refine ⟨h.1.1.1.1, h.1.1.1.2, h.1.1.2, h.1.2, fun e => ?_, fun e => ?_⟩
 · have := h.2; rw [if_pos e] at this; simpa using this
 have := h.2; rw [if_neg e] at this; simpa using this
theorem may_of {o : Co} (h : takeE o.payload = 0 ∧ (takeC o.payload).client = o.client ∧ (takeC o.payload).seq = o.seq ∧ (1 ≤ o.start ∧ o.start ≤ 1000000) ∧ (o.end_ = 0 → o.reply = ⟨#[]⟩) ∧ (o.end_ ≠ 0 → o.start < o.end_ ∧ o.end_ ≤ 1000000)) : mayO o = true := by
 obtain ⟨h1, h2, h3, h4, h5, h6⟩ := h
 unfold mayO momentP
 simp only [Bool.and_eq_true, decide_eq_true_eq]
 refine ⟨⟨⟨⟨h1, h2⟩, h3⟩, h4⟩, ?_⟩
 by_cases e : o.end_ = 0
 · rw [if_pos e]; simpa using h5 e
 rw [if_neg e]; simpa using h6 e
def h2B (o : Co) (k : Nat) (a : Int) : Bool := !decide (takeE o.payload = 0) || !decide ((takeC o.payload).client = o.client) || !decide ((takeC o.payload).seq = o.seq) || decide (o.start < 1) || decide (1000000 < o.start) || (decide (0 < (k : Int)) && decide (o.start ≤ a))
def h3B (o : Co) : Bool := (decide (o.end_ = 0) && !decide (o.reply = ⟨#[]⟩)) || (!decide (o.end_ = 0) && (decide (o.end_ ≤ o.start) || decide (1000000 < o.end_)))
theorem chk2 {l : List Co} {k : Nat} {a : Int} (ha : 0 < k → a = (l.getD (k - 1) default).start) (h : h2B (l.getD k default) k a = true) : okO l k = false := by
 cases ho : okO l k with
 | false => rfl
 | true =>
   obtain ⟨q1, q2, _⟩ := okO_parts ho
   obtain ⟨m1, m2, m3, m4, _, _⟩ := may_parts q1
   unfold h2B at h
   simp only [m1, m2, m3, decide_true, Bool.not_true, Bool.false_or, Bool.or_eq_true, Bool.and_eq_true, decide_eq_true_eq] at h
   rcases h with (h | h) | h
   · omega
   · omega
   have := q2 (by omega); have := ha (by omega); omega
theorem chk3 {l : List Co} {k : Nat} (h : h3B (l.getD k default) = true) : okO l k = false := by
 cases ho : okO l k with
 | false => rfl
 | true =>
   obtain ⟨q1, _, _⟩ := okO_parts ho
   obtain ⟨_, _, _, _, m5, m6⟩ := may_parts q1
   unfold h3B at h
   simp only [Bool.or_eq_true, Bool.and_eq_true, decide_eq_true_eq, Bool.not_eq_true', decide_eq_false_iff_not] at h
   rcases h with ⟨e, h⟩ | ⟨e, h⟩
   · exact absurd (m5 e) h
   have := m6 e; omega
theorem chk_ok {l : List Co} {k : Nat} {a : Int} (ha : 0 < k → a = (l.getD (k - 1) default).start) (h2 : h2B (l.getD k default) k a = false) (h3 : h3B (l.getD k default) = false) (h : ∀ i, i < k → apartP (l.getD i default) (l.getD k default) = true) : okO l k = true := by
 unfold h2B at h2
 unfold h3B at h3
 simp only [Bool.or_eq_false_iff, Bool.and_eq_false_iff, decide_eq_false_iff_not, Bool.not_eq_false', decide_eq_true_eq] at h2 h3
 obtain ⟨⟨⟨⟨⟨a1, a2⟩, a3⟩, a4⟩, a5⟩, a6⟩ := h2
 have hm : mayO (l.getD k default) = true := may_of ⟨a1, a2, a3, by omega, fun e => by rcases h3.1 with q | q; exact absurd e q; exact q, fun e => by rcases h3.2 with q | q; exact absurd q e; omega⟩
 unfold okO
 rw [hm, List.all_eq_true.2 fun i hi => h i (List.mem_range.1 hi)]
 simp only [Bool.true_and, Bool.and_true, Bool.or_eq_true, decide_eq_true_eq]
 by_cases e : k = 0
 · exact .inl e
 right
 have := ha (by omega)
 rcases a6 with q | q <;> omega
theorem h5B (a o : Co) : (decide (a.client = o.client) && (!aheadP a o || decide (o.seq ≤ a.seq))) = !apartP a o := by
 unfold apartP
 by_cases e : a.client = o.client
 · by_cases q : a.seq < o.seq
   · rw [decide_eq_true q, decide_eq_false (show ¬ o.seq ≤ a.seq by omega), decide_eq_true e]; simp [e]
   rw [decide_eq_false q, decide_eq_true (show o.seq ≤ a.seq by omega), decide_eq_true e]; simp [e]
 simp [e]
theorem chk5 {l : List Co} {k j : Nat} (hj : j < k) (h : apartP (l.getD j default) (l.getD k default) = false) : okO l k = false := by
 cases ho : okO l k with
 | false => rfl
 | true => have := (okO_parts ho).2.2 j hj; rw [h] at this; cases this
theorem checkOR_fn (l : List Co) (hl : l.length ≤ 1000) (hp : ∀ x, x ∈ l → x.payload.size ≤ 1000000) : FnP Tryz.prog 30 [.sl (l.map aCo)] (.int .i64 (checkO l)) := by
 refine FnP.of Tryz.func30 rfl rfl (by simp) (by simp [AV.cells, aIn, aOut, aLn, aCl, aRp, aCo]) (fun G hG => ?_)
 have hN : NoH G.length (.int .i64 (checkO l)) := (by simp [AV.cells, aIn, aOut, aLn, aCl, aRp, aCo])
 refine sr fun _ => ?_
 refine mz ?_
 refine AWP.seq (sr fun _ => ?_)
 refine mv ?_
 refine ρv U34 ?_
 refine ρ2 ?_
 refine ez ?_
 refine ρp (fun h0 => ?_) (fun h0 => ?_)
 · simp at h0
   refine sr fun _ => ?_
   refine mz ?_
   refine AWP.ret (thenA_r ?_)
   refine ρi ?_
   rw [check_many (by omega)]; rfl
 simp at h0
 refine AWP.skip (thenA_n (AWP.seq (sr fun _ => ?_)))
 refine mz ?_
 refine AWP.block ?_
 refine AWP.rounds (fun k => k ≤ l.length ∧ ∀ j, j < k → okO l j = true) (fun k => [(0, .sl (l.map aCo)), (3, .int .i64 (k : Int))]) (fun k => []) (fun k => l.length - k) 0 0 ⟨by omega, fun j h => by omega⟩ (by repeat (first | exact .nil | refine .cons rfl ?_)) rfl (fun _ => rfl) (fun _ => ⟨by simp [AV.cells, aCo], by simp⟩) (fun k hI => ?_)
 obtain ⟨hk, hok⟩ := hI
 refine AWP.seq (sr fun _ => ?_)
 refine mv ?_
 refine mv ?_
 refine ρv U34 ?_
 refine ρ2 ?_
 refine ez ?_
 refine ρp (fun h1 => ?_) (fun h1 => ?_)
 · try simp [-List.getD_eq_getElem?_getD] at h1
   refine AWP.skip (thenA_n ?_)
   refine AWP.seq (AWP.block (sr fun _ => ?_))
   refine mv ?_
   refine mv ?_
   refine ρf U34 sz53 ?_
   refine ρl U53 sz53 ?_
   refine ρo (j := 0) zv53 ?_
   refine ρ1 sz53 ?_
   refine ez (sr fun _ => ?_)
   refine ρ6 (fo := 2) U53 sz9 ?_
   refine ρd U9 ?_
   refine ρA cf45 ?_ (hF := fun hg => take_R (l.getD k default).payload (pay_at hp (by omega)))
   refine mv ?_
   refine ρ9 ?_
   refine ρ9 ?_
   refine ρo (j := 1) zv84 ?_
   refine ρ1 sz84 ?_
   refine mz ?_
   refine AWP.seq (AWP.seq ?_)
   refine AWP.frzBox 4 hG rfl rfl rfl ?_
   refine AWP.frzBox 5 hG rfl rfl rfl ?_
   refine ρE mixed (fun _ => ?_)
   refine mv ?_
   refine ρ2 ?_
   refine mv ?_
   refine ρc U84 sz3 ?_
   refine ρ5 U3 ?_
   refine ρc U53 sz3 ?_
   refine ρ5 U3 ?_
   refine ρs ?_
   refine ρ3 ?_
   refine mv ?_
   refine ρc U84 sz3 ?_
   refine ρ5 U3 ?_
   refine ρc U53 sz3 ?_
   refine ρ5 U3 ?_
   refine ρs ?_
   refine ρ3 ?_
   refine mv ?_
   refine ρc U53 sz3 ?_
   refine ρ5 U3 ?_
   refine ρb ?_
   refine ρ3 ?_
   refine mv ?_
   refine ρc U53 sz3 ?_
   refine ρ5 U3 ?_
   refine ρb ?_
   refine ρ3 ?_
   refine mv ?_
   refine ρg ?_
   refine ρb ?_
   refine ARun.move (.inl rfl) rfl rfl rfl (Ev.opt rfl (fun h => h)) optS ?_
   refine ρc U53 sz3 ?_
   refine ρ5 U3 ?_
   refine ρg ?_
   refine ρg ?_
   refine ARun.arith rfl rfl rfl rfl (Ev.opt rfl (fun h => h)) (ep rfl) rfl (fun hg => i64w (by (try simp at hg); omega)) optS ?_
   refine ρq U34 sz53 ?_
   refine ρB U53 sz3 ?_
   refine ρ5 U3 ?_
   refine ρs ?_
   refine ρD ?_
   refine ρ3 ?_
   refine ⟨by kernel_rfl, _, _, rfl, hG, ?_⟩
   refine thenA_n ?_
   refine ρp (fun h2 => ?_) (fun h2 => ?_)
   · replace h2 : h2B (l.getD k default) k (l.getD ((k : Int) - 1).toNat default).start = true := h2
     refine sr fun _ => ?_
     refine mz ?_
     refine AWP.ret (thenA_r ?_)
     refine blockA_r (thenA_r ?_)
     refine thenA_r (blockA_r (thenA_r ?_))
     refine ρi ?_
     rw [check_bad (by omega) (chk2 (fun hk0 => by rw [show ((k : Int) - 1).toNat = k - 1 by omega]) h2)]; rfl
   replace h2 : h2B (l.getD k default) k (l.getD ((k : Int) - 1).toNat default).start = false := h2
   refine AWP.skip (thenA_n (AWP.seq (sr fun _ => ?_)))
   refine ρ4 U53 sz3 ?_
   refine ρ7 U3 ?_
   refine ρ2 ?_
   refine mv ?_
   refine ρc U53 sz9 ?_
   refine ρ5 U9 ?_
   refine ARun.cmpS rfl rfl rfl rfl (Ev.opt rfl (fun h => h)) (ep rfl) rfl optS ?_
   refine ρ0 ?_
   refine mv ?_
   refine ρc U53 sz3 ?_
   refine ρ5 U3 ?_
   refine ρb ?_
   refine ARun.move (.inl rfl) rfl rfl rfl (Ev.opt rfl (fun h => h)) optS ?_
   refine ρc U53 sz3 ?_
   refine ρ5 U3 ?_
   refine ρc U53 sz3 ?_
   refine ρ5 U3 ?_
   refine ρs ?_
   refine ARun.move (.inl rfl) rfl rfl rfl (Ev.opt rfl (fun h => h)) optS ?_
   refine ρc U53 sz3 ?_
   refine ρ5 U3 ?_
   refine ρb ?_
   refine ARun.pick rfl rfl rfl rfl (Ev.opt rfl (fun h => h)) (ep rfl) (Ev.opt rfl (by first | exact pkF | exact pkF2 | simp +contextual)) (orB _ _) optS ?_
   refine ρD ?_
   refine ρ3 ?_
   refine ez ?_
   refine ρp (fun h3 => ?_) (fun h3 => ?_)
   · replace h3 : h3B (l.getD k default) = true := h3
     refine sr fun _ => ?_
     refine mz ?_
     refine AWP.ret (thenA_r ?_)
     refine blockA_r (thenA_r ?_)
     refine thenA_r (blockA_r (thenA_r ?_))
     refine ρi ?_
     rw [check_bad (by omega) (chk3 h3)]; rfl
   replace h3 : h3B (l.getD k default) = false := h3
   refine AWP.skip (thenA_n (sr fun _ => ?_))
   refine mz ?_
   refine AWP.block ?_
   refine AWP.rounds (fun j => j ≤ k ∧ ∀ i, i < j → apartP (l.getD i default) (l.getD k default) = true) (fun j => [(0, .sl (l.map aCo)), (3, .int .i64 (k : Int)), (4, .pe (aCo (l.getD k default)).cells), (7, .int .i64 (j : Int))]) (fun j => [.dead, .dead]) (fun j => k - j) 2 0 ⟨by omega, fun i h => by omega⟩ (by repeat (first | exact .nil | refine .cons rfl ?_)) rfl (fun _ => rfl) (fun _ => ⟨by simp [AV.cells, aCo], by simp [AO.conts]⟩) (fun j hI => ?_)
   obtain ⟨hj, hap⟩ := hI
   refine AWP.seq (sr fun _ => ?_)
   refine mv ?_
   refine mv ?_
   refine ρ2 ?_
   refine ez ?_
   refine ρp (fun h4 => ?_) (fun h4 => ?_)
   · try simp [-List.getD_eq_getElem?_getD] at h4
     refine AWP.skip (thenA_n ?_)
     refine AWP.seq (AWP.block (AWP.seq ?_))
     refine ρE mixed (fun _ => ?_)
     refine mv ?_
     refine mv ?_
     refine ρf U34 sz53 ?_
     refine ρ4 U53 sz3 ?_
     refine ρ7 U3 ?_
     refine ρ4 U53 sz3 ?_
     refine ρ7 U3 ?_
     refine ρ2 ?_
     refine mv ?_
     refine ρg ?_
     refine ρg ?_
     refine ρu U34 sz53 ?_
     refine ARun.loadPeA rfl rfl rfl rfl U53 rfl sz53 (Ev.opt rfl (fun h => h)) rfl optS ?_
     refine ARun.loadPeA rfl rfl rfl rfl U53 rfl sz53 (ep rfl) rfl optS ?_
     refine ARun.call rfl rfl rfl rfl cf32 (ep rfl) (.cons (Ev.opt rfl (fun h => h)) (.cons (Ev.opt rfl (fun h => h)) .nil)) rfl (fun hg => aheadR_fn (l.getD j default) (l.getD k default)) optS ?_
     refine ARun.not rfl rfl rfl rfl (Ev.opt rfl (fun h => h)) optS ?_
     refine ARun.move (.inl rfl) rfl rfl rfl (Ev.opt rfl (fun h => h)) optS ?_
     refine ρg ?_
     refine ρg ?_
     refine ρu U34 sz53 ?_
     refine ρB U53 sz3 ?_
     refine ρ5 U3 ?_
     refine ρc U53 sz3 ?_
     refine ρ5 U3 ?_
     refine ρs ?_
     refine ARun.pick rfl rfl rfl rfl (Ev.opt rfl (fun h => h)) (ep rfl) (Ev.opt rfl (by first | exact pkF | exact pkF2 | simp +contextual)) (orB _ _) optS ?_
     refine ρ0 ?_
     refine ⟨by kernel_rfl, _, _, rfl, hG, ?_⟩
     refine thenA_n ?_
     refine ρp (fun h5 => ?_) (fun h5 => ?_)
     · rw [h5B] at h5
       refine sr fun _ => ?_
       refine mz ?_
       refine AWP.ret (blockA_r ?_)
       refine thenA_r (thenA_r ?_)
       refine blockA_r (blockA_r ?_)
       refine thenA_r (thenA_r ?_)
       refine blockA_r (thenA_r ?_)
       refine ρi ?_
       rw [check_bad (by omega) (chk5 h4 (by simpa using h5))]; rfl
     rw [h5B] at h5
     refine AWP.skip (blockA_n (thenA_n ?_))
     refine AWP.region (fun _ => ?_)
     refine mv ?_
     refine ρa ?_
     refine ma ?_
     refine ⟨_, _, rfl, hG, ?_⟩
     refine thenA_n ⟨rfl, j + 1, _, ?_, ?_, rfl, ?_⟩
     · refine ⟨by omega, fun i hi => ?_⟩
       by_cases e : i = j
       · subst e; simpa using h5
       exact hap i (by omega)
     · repeat (first | exact .nil | refine .cons rfl ?_)
     omega
   simp at h4
   obtain rfl : j = k := by omega
   refine AWP.exit ?_
   refine thenA_x ?_
   refine thenA_x ?_
   refine blockA_h ?_
   refine blockA_n (thenA_n ?_)
   refine AWP.region (fun _ => ?_)
   refine mv ?_
   refine ρa ?_
   refine ma ?_
   refine ⟨_, _, rfl, hG, ?_⟩
   refine thenA_n ⟨rfl, j + 1, _, ?_, ?_, rfl, ?_⟩
   · refine ⟨by omega, fun i hi => ?_⟩
     by_cases e : i = j
     · subst e; exact chk_ok (fun hk0 => by rw [show ((i : Int) - 1).toNat = i - 1 by omega]) h2 h3 hap
     exact hok i (by omega)
   · repeat (first | exact .nil | refine .cons rfl ?_)
   omega
 try simp [-List.getD_eq_getElem?_getD] at h1
 refine AWP.exit ?_
 refine thenA_x ?_
 refine thenA_x ?_
 refine blockA_h ?_
 refine thenA_n (sr fun _ => ?_)
 refine mz ?_
 refine AWP.ret ?_
 refine ρi ?_
 rw [check_good (by omega) (fun j hj => hok j (by omega))]; rfl
end Go.Proofs.YtcndnllmlhhjiaaGreatDoor
namespace Go.Proofs.YtcndnllmlhhjiaaGreatDoor
open Go.RowKit
open NumP
theorem notdone_eq (pl : List Bool) (k : Nat) : (decide (((pl.map AV.bool).length : Int) ≤ (k : Int)) || !pl.getD k default) = !doneP pl k := by
 unfold doneP
 rw [List.length_map, Bool.not_and]
 congr 1
 rw [← decide_not]; exact decide_eq_decide.2 (by omega)
theorem freeQ_false {l : List Co} {pl : List Bool} {k q : Nat} (h : (aheadP (l.getD q default) (l.getD k default) && (decide (((pl.map AV.bool).length : Int) ≤ (q : Int)) || !pl.getD q default)) = true) : false = freeQ l pl k (q + 1) := by
 rw [notdone_eq] at h
 simp only [Bool.and_eq_true, Bool.not_eq_true'] at h
 rw [freeQ, h.1, h.2]; simp
theorem freeQ_same {l : List Co} {pl : List Bool} {k q : Nat} {b : Bool} (hb : b = freeQ l pl k q) (h : (aheadP (l.getD q default) (l.getD k default) && (decide (((pl.map AV.bool).length : Int) ≤ (q : Int)) || !pl.getD q default)) = false) : b = freeQ l pl k (q + 1) := by
 rw [notdone_eq] at h
 rw [freeQ, ← hb]
 cases h1 : aheadP (l.getD q default) (l.getD k default) with
 | false => simp
 | true => rw [h1, Bool.true_and, Bool.not_eq_false'] at h; rw [h]; simp
theorem freeR_fn (l : List Co) (pl : List Bool) (hl : l.length ≤ 1000) (hpl : pl.length ≤ 1000) : FnP Tryz.prog 18 [.sl (l.map aCo), .sl (pl.map AV.bool)] (.sl (freeT l pl l.length)) := by
 refine FnP.of Tryz.func18 rfl rfl (by simp) (.sl _ fun x hx y hy => (freeT_flat l pl _ y (List.mem_flatMap.2 ⟨x, hx, hy⟩)).2 _) (fun G hG => ?_)
 have hN : NoH G.length (.sl (freeT l pl l.length)) := (.sl _ fun x hx y hy => (freeT_flat l pl _ y (List.mem_flatMap.2 ⟨x, hx, hy⟩)).2 _)
 refine sr fun _ => ?_
 refine mz (sr fun _ => ?_)
 refine ARun.nilOwn (e := 3) (z := 1) (j := 0) hG rfl ⟨.inl rfl, rfl⟩ (fun _ => rfl) rfl rfl rfl optN ?_
 refine ez ?_
 refine AWP.seq (sr fun _ => ?_)
 refine mz ?_
 refine AWP.block ?_
 refine AWP.rounds (fun st => st.1 ≤ l.length) (fun st => [(0, .sl (l.map aCo)), (1, .sl (pl.map AV.bool)), (5, .own (G.length + 0) st.2), (6, .int .i64 (st.1 : Int))]) (fun st => [.row st.2 3 1 (freeT l pl st.1)]) (fun st => l.length - st.1) 1 ((0, 0) : Nat × Nat) (Nat.zero_le _) (by repeat (first | exact .nil | refine .cons rfl ?_)) rfl (fun _ => rfl) (fun _ => ⟨by simp [AV.cells, aCo]; rintro x (⟨_, rfl⟩ | ⟨_, rfl⟩) y hy <;> (simp at hy; subst hy; simp), fun o ho x hx => by rcases List.mem_cons.1 ho with rfl | ho; exact (freeT_flat l pl _ x hx).2 _; first | (cases ho; done) | (rw [List.mem_singleton.1 ho] at hx; cases hx)⟩) (fun st hI => ?_)
 obtain ⟨k, g⟩ := st
 dsimp only at hI
 show AWP _ _ _ _ _ [(0, .sl (l.map aCo)), (1, .sl (pl.map AV.bool)), (5, .own (G.length + 0) g), (6, .int .i64 (k : Int))] _ [.row g 3 1 (freeT l pl k)]
 refine AWP.seq (sr fun _ => ?_)
 refine mv ?_
 refine mv ?_
 refine ρv U34 ?_
 refine ρ2 ?_
 refine ez ?_
 refine ρp (fun h0 => ?_) (fun h0 => ?_)
 · try simp [-List.getD_eq_getElem?_getD] at h0
   refine AWP.skip (thenA_n ?_)
   refine AWP.seq (AWP.block (sr fun _ => ?_))
   refine mv ?_
   refine mv ?_
   refine ρv U32 ?_
   refine ρ2 ?_
   refine mv ?_
   refine ρg ?_
   refine ρg ?_
   refine ρu U32 sz4 ?_
   refine ρ5 U4 ?_
   refine ARun.not rfl rfl rfl rfl (Ev.opt rfl (fun h => h)) optS ?_
   refine ρ3 ?_
   refine mz ?_
   refine AWP.seq (sr fun _ => ?_)
   refine mz ?_
   refine AWP.block ?_
   refine AWP.rounds (fun sq => sq.1 ≤ l.length ∧ sq.2 = freeQ l pl k sq.1) (fun sq => [(0, .sl (l.map aCo)), (1, .sl (pl.map AV.bool)), (5, .own (G.length + 0) g), (6, .int .i64 (k : Int)), (7, .bool sq.2), (8, .int .i64 (sq.1 : Int))]) (fun sq => [.row g 3 1 (freeT l pl k)]) (fun sq => l.length - sq.1) 1 ((0, (decide (((pl.map AV.bool).length : Int) ≤ (k : Int)) || !pl.getD k default)) : Nat × Bool) ⟨Nat.zero_le _, notdone_eq pl k⟩ (by repeat (first | exact .nil | refine .cons rfl ?_)) rfl (fun _ => rfl) (fun _ => ⟨by simp [AV.cells, aCo]; rintro x (⟨_, rfl⟩ | ⟨_, rfl⟩) y hy <;> (simp at hy; subst hy; simp), fun o ho x hx => by rcases List.mem_cons.1 ho with rfl | ho; exact (freeT_flat l pl _ x hx).2 _; first | (cases ho; done) | (rw [List.mem_singleton.1 ho] at hx; cases hx)⟩) (fun sq hI => ?_)
   obtain ⟨q, b⟩ := sq
   dsimp only at hI
   show AWP _ _ _ _ _ [(0, .sl (l.map aCo)), (1, .sl (pl.map AV.bool)), (5, .own (G.length + 0) g), (6, .int .i64 (k : Int)), (7, .bool b), (8, .int .i64 (q : Int))] _ [.row g 3 1 (freeT l pl k)]
   obtain ⟨hqq, hb⟩ := hI
   refine AWP.seq (sr fun _ => ?_)
   refine mv ?_
   refine mv ?_
   refine ρv U34 ?_
   refine ρ2 ?_
   refine ez ?_
   refine ρp (fun h1 => ?_) (fun h1 => ?_)
   · try simp [-List.getD_eq_getElem?_getD] at h1
     refine AWP.skip (thenA_n ?_)
     refine AWP.seq (AWP.block (AWP.seq ?_))
     refine ρE mixed (fun _ => ?_)
     refine mv ?_
     refine mv ?_
     refine ρf U34 sz53 ?_
     refine ρl U53 sz53 ?_
     refine mv ?_
     refine mv ?_
     refine ρf U34 sz53 ?_
     refine ρl U53 sz53 ?_
     refine ρh cf32 (fun hg => aheadR_fn (l.getD q default) (l.getD k default)) ?_
     refine mv ?_
     refine ρg ?_
     refine ρg ?_
     refine ARun.lenSl rfl rfl rfl rfl U32 (Ev.opt rfl (fun h => h)) optS ?_
     refine ρs ?_
     refine ARun.move (.inl rfl) rfl rfl rfl (Ev.opt rfl (fun h => h)) optS ?_
     refine ρg ?_
     refine ρg ?_
     refine ρu U32 sz4 ?_
     refine ρ5 U4 ?_
     refine ARun.not rfl rfl rfl rfl (Ev.opt rfl (fun h => h)) optS ?_
     refine ARun.pick rfl rfl rfl rfl (Ev.opt rfl (fun h => h)) (ep rfl) (Ev.opt rfl (by first | exact pkF | exact pkF2 | simp +contextual)) (orB _ _) optS ?_
     refine ρ0 ?_
     refine ⟨by kernel_rfl, _, _, rfl, hG, ?_⟩
     refine thenA_n ?_
     refine ρp (fun h2 => ?_) (fun h2 => ?_)
     · refine AWP.region (fun _ => ?_)
       refine ma ?_
       refine ⟨_, _, rfl, hG, ?_⟩
       refine blockA_n (thenA_n ?_)
       refine AWP.region (fun _ => ?_)
       refine mv ?_
       refine ρa ?_
       refine ma ?_
       refine ⟨_, _, rfl, hG, ?_⟩
       refine thenA_n ⟨rfl, (q + 1, false), _, ?_, ?_, rfl, ?_⟩
       · exact ⟨by dsimp only; omega, freeQ_false h2⟩
       · repeat (first | exact .nil | refine .cons rfl ?_)
       dsimp only; omega
     refine AWP.skip (blockA_n (thenA_n ?_))
     refine AWP.region (fun _ => ?_)
     refine mv ?_
     refine ρa ?_
     refine ma ?_
     refine ⟨_, _, rfl, hG, ?_⟩
     refine thenA_n ⟨rfl, (q + 1, b), _, ?_, ?_, rfl, ?_⟩
     · exact ⟨by dsimp only; omega, freeQ_same hb h2⟩
     · repeat (first | exact .nil | refine .cons rfl ?_)
     dsimp only; omega
   simp at h1
   obtain rfl : q = l.length := by omega
   refine AWP.exit ?_
   refine thenA_x ?_
   refine thenA_x ?_
   refine blockA_h ?_
   refine thenA_n (sr fun _ => ?_)
   refine mv ?_
   refine ez ?_
   refine ρp (fun h3 => ?_) (fun h3 => ?_)
   · have hfa : freeAt l pl k = true := by rw [← freeQ_at, ← hb]; exact h3
     refine AWP.region (fun _ => ?_)
     refine mv ?_
     refine mv ?_
     refine ρy U40 sz3 zv3 ?_
     refine ARun.appendL hG rfl rfl rfl rfl U40 ti3 rfl (by decide) (ep rfl) (ep rfl) rfl rfl (by have := freeT_len l pl k; simp [maxLen]; omega) (by have := freeT_len l pl k; simp; omega) (freeT_yes hfa) optN rfl ?_
     refine ma ?_
     refine ⟨_, _, rfl, hG, ?_⟩
     refine blockA_n (thenA_n ?_)
     refine AWP.region (fun _ => ?_)
     refine mv ?_
     refine ρa ?_
     refine ma ?_
     refine ⟨_, _, rfl, hG, ?_⟩
     refine thenA_n ⟨rfl, (k + 1, g + 1), _, ?_, ?_, rfl, ?_⟩
     · dsimp only; omega
     · repeat (first | exact .nil | refine .cons rfl ?_)
     dsimp only; omega
   have hfa : freeAt l pl k = false := by rw [← freeQ_at, ← hb]; exact h3
   rw [freeT_no hfa]
   refine AWP.skip (blockA_n (thenA_n ?_))
   refine AWP.region (fun _ => ?_)
   refine mv ?_
   refine ρa ?_
   refine ma ?_
   refine ⟨_, _, rfl, hG, ?_⟩
   refine thenA_n ⟨rfl, (k + 1, g), _, ?_, ?_, rfl, ?_⟩
   · dsimp only; omega
   · repeat (first | exact .nil | refine .cons rfl ?_)
   dsimp only; omega
 simp at h0
 obtain rfl : k = l.length := by omega
 refine AWP.exit ?_
 refine thenA_x ?_
 refine thenA_x ?_
 refine blockA_h ?_
 refine thenA_n (AWP.seq ?_)
 refine AWP.frzOwn 5 hG rfl rfl (by decide) (by have := freeT_len l pl l.length; unfold maxLen; omega) rfl ?_
 refine AWP.region (fun _ => ?_)
 refine mv ?_
 refine mz ?_
 refine AWP.ret ?_
 refine ρi ?_
 rfl
end Go.Proofs.YtcndnllmlhhjiaaGreatDoor
namespace Go.Proofs.YtcndnllmlhhjiaaGreatDoor
open Go.RowKit
section
variable {P : Program} {ops : Array Oper} {n m : Nat} {QQ : List Kd → Sl → List AO → Prop} {l : List Oper} {ks : List Kd} {σ : Sl} {G L H : List AO} {o : Oper} {gd : Bool}
theorem ARun.loadRc {x : Operand} {t : TypeId} {u : TypeDesc} {F : Nat} {cs : List AV} {Y : AV} {d : Option Tmp} (ho : o.op = .load t x) (hd : o.dst = d) (hn : dstLt n d = true) (hG : gdS ops σ o.guard = some gd)
   (hu : P.underlying t = some u) (hA : isA u = false) (hx : Ev gd σ x (.rc F cs)) (hY : optA o.guard gd (.fn (.func F) [] (cs ++ [.rc F cs])) = Y)
   (hr : ARun P ops n QQ l (ks ++ [.pure]) (putS σ d Y) H) : ARun P ops n QQ (o :: l) ks σ H := by
 refine ARun.same hd hn hG hY (fun hg a W β hl => ?_) hr
 have h0 := hx.rep hg hl (by simp [ho, Op.operands])
 generalize hv : a.eval x = v at h0
 have h00 := h0
 cases h0 with
 | rc b _ vs _ hb hS hc hl2 h =>
   refine ⟨_, ?_, .fn (.func F) #[] (vs.push (.pointer (some ⟨b, 0, none⟩))) [] (cs ++ [.rc F cs]) rfl (by simp [hl2]) (fun j u x h1 => by simp at h1) fun j u x h1 h2 => ?_⟩
   · have h3 : (loadVar t ⟨b, 0, none⟩).run P W = .ok (.func (.func F) #[] (vs.push (.pointer (some ⟨b, 0, none⟩)))) W := by
       simp only [loadVar, Sem.run_bind, isAgg_run hu, hA]
       simp [hc]
     simp [execOp, ho, hv, Instr.loadAt, Instr.sureAddr, h3]
   by_cases e : j < cs.length
   · rw [List.getElem?_append_left e] at h2
     rw [Array.getElem?_push_lt (by omega)] at h1
     exact h j u x (by rw [← h1, Array.getElem?_eq_getElem]) h2
   have e2 : j = cs.length := by
     have := (List.getElem?_eq_some_iff.1 h2).1
     simp at this; omega
   subst e2
   rw [List.getElem?_append_right (Nat.le_refl _), Nat.sub_self] at h2
   rw [← hl2, Array.getElem?_push_size] at h1
   cases h1; cases h2
   exact h00
theorem ARun.storeBoolO {H0 : List AO} {x y : Operand} {t e : TypeId} {p g k : Nat} {pl : List Bool} {b : Bool} (hi : p < H0.length) (hm : GOK m (H0.set p (.row g e 1 (pl.map AV.bool)))) (ho : o.op = .store t x y) (hd : o.dst = none) (hg : gdS ops σ o.guard = some true) (hz : Sz P t 1)
   (hx : Ev true σ x (.elt p g (k * 1))) (hy : Ev true σ y (.bool b)) (hk : k < pl.length)
   (hr : GOK m (H0.set p (.row g e 1 ((pl.set k b).map AV.bool))) → ARun P ops n QQ l (ks ++ [.write]) σ (H0.set p (.row g e 1 ((pl.set k b).map AV.bool)) ++ L)) : ARun P ops n QQ (o :: l) ks σ (H0.set p (.row g e 1 (pl.map AV.bool)) ++ L) := by
 have hc1 : ∀ (q : List Bool) (x : AV), x ∈ q.map AV.bool → x.cells.length = 1 := fun q x hx => by obtain ⟨c, _, rfl⟩ := List.mem_map.1 hx; rfl
 refine ARun.storeElt (c := 1) (C := [.bool b]) (zs := (pl.set k b).map AV.bool) ho hd hg hz hx hy (atO hi) rfl rfl rfl rfl (by rw [List.length_map]; omega) ?_ (by simp) (hc1 _) ?_
 · rw [List.map_set]
   have := flat_set (z := 1) (pl.map AV.bool) k (.bool b) (hc1 _) rfl (by rw [List.length_map]; exact hk)
   rw [this]; rfl
 rw [setO hi]
 refine hr (hm.setO fun x hx => ?_)
 simp only [AO.conts, List.mem_flatMap, List.mem_map] at hx
 obtain ⟨y, ⟨c, _, rfl⟩, hx⟩ := hx
 simp only [AV.cells, List.mem_singleton] at hx
 subst hx; exact .bool _
inductive FrzA (i g : Nat) (zs : List AV) : List AV → List AV → Prop where
 | nil : FrzA i g zs [] []
 | same {x : AV} {l m : List AV} (t : FrzA i g zs l m) : FrzA i g zs (x :: l) (x :: m)
 | own {l m : List AV} (t : FrzA i g zs l m) : FrzA i g zs (.own i g :: l) (.sl zs :: m)
theorem FrzA.reps {i g : Nat} {zs : List AV} {β β' : List Hd} {W : World} (h1 : ∀ u X, VRep β W u X → VRep β' W u X) (h2 : ∀ u, VRep β W u (.own i g) → VRep β' W u (.sl zs)) {args ax : List AV} (h : FrzA i g zs args ax) :
   ∀ us : List Value, us.length = args.length → (∀ (j : Nat) (u : Value) (x : AV), us[j]? = some u → args[j]? = some x → VRep β W u x) → args.length = ax.length ∧ ∀ (j : Nat) (u : Value) (x : AV), us[j]? = some u → ax[j]? = some x → VRep β' W u x := by
 induction h with
 | nil => intro us _ _; exact ⟨rfl, fun j u x _ h => by simp at h⟩
 | @same x l m t ih =>
   intro us hl hu
   cases us with
   | nil => simp at hl
   | cons u us =>
     obtain ⟨i1, i2⟩ := ih us (by simpa using hl) (fun j u x a b => hu (j + 1) u x (by simpa using a) (by simpa using b))
     refine ⟨by simp [i1], fun j u' x' a b => ?_⟩
     cases j with
     | zero => simp at a b; subst a; subst b; exact h1 _ _ (hu 0 _ _ rfl rfl)
     | succ j => exact i2 j u' x' (by simpa using a) (by simpa using b)
 | @own l m t ih =>
   intro us hl hu
   cases us with
   | nil => simp at hl
   | cons u us =>
     obtain ⟨i1, i2⟩ := ih us (by simpa using hl) (fun j u x a b => hu (j + 1) u x (by simpa using a) (by simpa using b))
     refine ⟨by simp [i1], fun j u' x' a b => ?_⟩
     cases j with
     | zero => simp at a b; subst a; subst b; exact h2 _ (hu 0 _ _ rfl rfl)
     | succ j => exact i2 j u' x' (by simpa using a) (by simpa using b)
theorem HRel.frz {β : List Hd} {W : World} {j g : Nat} {e : TypeId} {z : Nat} {xs : List AV} (hHr : HRel β H W) (hj : H[j]? = some (.row g e z xs)) : ∃ β', Ext β W β' W ∧ HRel β' (H.set j .dead) W ∧ ∀ u, VRep β W u (.own j g) → VRep β' W u (.sl xs) := by
 obtain ⟨hlt, v, hβ⟩ : j < β.length ∧ ∃ v, β[j]? = some (.row v g) := by
   have hlt : j < β.length := by rw [hHr.len]; exact (List.getElem?_eq_some_iff.1 hj).1
   refine ⟨hlt, ?_⟩
   have ho := hHr.ob _ _ _ hj (List.getElem?_eq_getElem hlt)
   cases hb : β[j] with
   | box b => rw [hb] at ho; exact ho.elim
   | dead => rw [hb] at ho; exact ho.elim
   | guard b => rw [hb] at ho; exact ho.elim
   | map b => rw [hb] at ho; exact ho.elim
   | bld b v => rw [hb] at ho; exact ho.elim
   | row v' g' => rw [hb] at ho; obtain ⟨rfl, _⟩ := ho; exact ⟨v', by rw [List.getElem?_eq_getElem hlt, hb]⟩
 obtain ⟨hext, hH1⟩ := hHr.change hβ (x' := .dead) (o := .dead) trivial (fun _ e => by cases e) rfl rfl rfl (Nat.le_refl _) (fun _ _ _ => rfl) (fun b hb => by cases hb) (fun _ => trivial)
 refine ⟨_, hext, hH1, fun u hu => row_reads hHr hj hu (fun b hb x hx e5 => ?_) (.inl hext)⟩
 obtain ⟨us, k1, _⟩ := hu.own_at hHr hj
 obtain ⟨k, hk, rfl⟩ := List.mem_iff_getElem.1 hx
 have hk2 : (β.set j .dead)[k]? = some ((β.set j .dead)[k]) := List.getElem?_eq_getElem hk
 by_cases e : j = k
 · subst e; rw [List.getElem_set_self] at e5; cases e5
 rw [List.getElem?_set_ne e] at hk2
 exact hHr.ap _ _ _ _ b e k1 hk2 (opt_mem.2 hb) e5
theorem ARun.callRF {H0 : List AO} {f : Operand} {args : Array Operand} {ats : Array TypeId} {F p j g : Nat} {fs cs xs ax ax' zs : List AV} {e : TypeId} {z : Nat} {A B : AO} {r Y : AV} {d : Option Tmp} {L' : List AO} (hi : p < H0.length) (hm : GOK m (H0.set p A)) (ho : o.op = .call { callee := .value f, args := args, argTypes := ats }) (hd : o.dst = d) (hn : dstLt n d = true) (hG : gdS ops σ o.guard = some true)
   (hcf : ∀ (va : Array Value) (W : World), (callFunc F va).run P W = .ok (.enter F va) W)
   (hf : Ev true σ f (.fn (.func F) fs cs)) (hx : EvL true σ args.toList xs) (has : fs ++ xs ++ cs = ax) (hj : L[j]? = some (.row g e z zs)) (hA : FrzA (m + j) g zs ax ax') (hL : L.set j .dead = L')
   (hF : FnH P F ax' (H0.set p A ++ L') r (H0.set p B ++ L')) (hno : ∀ x, x ∈ B.conts → NoH m x) (hY : optA o.guard true r = Y)
   (hr : GOK m (H0.set p B) → ARun P ops n QQ l (ks ++ [.write]) (putS σ d Y) (H0.set p B ++ L')) : ARun P ops n QQ (o :: l) ks σ (H0.set p A ++ L) := by
 subst hd; subst hY; subst has
 refine ⟨.write, _, H0.set p B ++ L', hn, fun a W β hHr hl K Q hK => ?_, hr (hm.setO hno)⟩
 rw [gd_wanted hG hl, if_pos rfl]
 have h0 := hf.rep rfl hl (by simp [ho, Op.operands, Call.operands])
 generalize hv : a.eval f = v at h0
 cases h0 with
 | fn _ us vs _ _ hl1 hl2 h1 h2 =>
   have ha := EvL.reps (β := β) (W := W) (a := a) hx (fun x hx X h => h.rep rfl hl (by simp only [ho, Op.operands, Call.operands]; exact Array.mem_append.2 (.inr (by simpa using hx))))
   have hus : us.toList.length = fs.length ∧ ∀ (j : Nat) (u : Value) (x : AV), us.toList[j]? = some u → fs[j]? = some x → VRep β W u x := ⟨by simpa using hl1, fun j u x p q => h1 j u x (by simpa using p) q⟩
   have hvs : vs.toList.length = cs.length ∧ ∀ (j : Nat) (u : Value) (x : AV), vs.toList[j]? = some u → cs[j]? = some x → VRep β W u x := ⟨by simpa using hl2, fun j u x p q => h2 j u x (by simpa using p) q⟩
   have hall := reps_append (reps_append hus ha) hvs
   have hrun : (execOp a.eval o).run P W = .ok (.enter F (us ++ args.map a.eval ++ vs)) W := by
     simp [execOp, ho, resolve, hv, Deferred.ofValue, invoke, hcf]
   have hjH : (H0.set p A ++ L)[m + j]? = some (.row g e z zs) := by rw [hm.at]; exact hj
   obtain ⟨β2, hext, hH2, hsl⟩ := hHr.frz hjH
   rw [hm.set, hL] at hH2
   obtain ⟨q1, q2⟩ := hA.reps (fun u X h => h.ext hext) hsl (us ++ args.map a.eval ++ vs).toList (by simpa using hall.1) (fun j u x p q => hall.2 j u x (by simpa using p) q)
   unfold Oper.wp
   rw [hrun, Oper.upon_enter]
   refine (hF W β2 (us ++ args.map a.eval ++ vs) hH2 ⟨?_, ?_⟩).mono ?_
   · rw [← q1, ← Array.length_toList]; simpa using hall.1
   · intro j u x p q
     exact q2 j u x (by rw [← Array.getElem?_toList] at p; simpa using p) q
   rintro ex w' ⟨v', β', rfl, k1, k2, k3⟩
   refine hK v' w' β' (hext.trans k1) k2 ?_
   cases o.guard with
   | none => exact k3
   | some g => exact .opt _ _ _ (fun _ => k3) (fun e => by cases e)
end
theorem AWP.frzRc {P : Program} {n m : Nat} {c : Code} {Q : QA} {σ : Sl} {G L : List AO} {j F : Nat} {cs : List AV} {L' : List AO} (t : Nat) (hm : GOK m G) (ht : look σ t = some (.box (m + j) 0)) (hj : L[j]? = some (.box [.fn (.func F) [] (cs ++ [.box (m + j) 0])])) (hL : L.set j .dead = L')
   (h : AWP P n m c Q ((t, .rc F cs) :: σ) G L') : AWP P n m c Q σ G L := by
 intro D a W β hmG hn hd hHr hs0
 have hiH : (G ++ L)[m + j]? = some (.box [.fn (.func F) [] (cs ++ [.box (m + j) 0])]) := by rw [hm.at]; exact hj
 obtain ⟨u, ku, hu⟩ := hs0 t _ ht
 obtain ⟨b, arr, T, hβ, hub, hhp, hsz, hcs⟩ := hu.box_at hHr hiH
 have hlt : m + j < β.length := hβ.lt
 obtain ⟨x0, hx0, hxb, hxd, hxg⟩ : ∃ x0, β[m + j]? = some x0 ∧ x0.cb = some b ∧ x0.to .dead ∧ ∀ bs, x0 ≠ .guard bs := by
   rcases hβ with h | ⟨v, h, _⟩
   · exact ⟨_, h, rfl, trivial, fun _ e => by cases e⟩
   exact ⟨_, h, rfl, trivial, fun _ e => by cases e⟩
 obtain ⟨hext, hH2⟩ := hHr.change hx0 (x' := .dead) (o := .dead) (w' := W) hxd hxg rfl rfl rfl (Nat.le_refl _) (fun _ _ _ => rfl) (fun b hb => by cases hb) (fun _ => trivial)
 rw [hm.set, hL] at hH2
 have hpe : VRep (β.set (m + j) .dead) W u (.rc F cs) := by
   rw [hub]
   have hsz1 : arr.size = 1 := by rw [hsz]; rfl
   have h0 := hcs 0 _ _ (Array.getElem?_eq_getElem (by omega)) rfl
   generalize hav : arr[0] = av at h0
   have hcell : W.cell? ⟨b, 0, none⟩ = some av := by simp [World.cell?, hhp, hsz1, hav]
   cases h0 with
   | fn _ us vs _ _ hl1 hl2 h1 h2 =>
     have hus : us = #[] := Array.eq_empty_of_size_eq_zero (by simpa using hl1)
     subst hus
     rw [List.length_append, List.length_singleton] at hl2
     have hlast : vs[cs.length]? = some (.pointer (some ⟨b, 0, none⟩)) := by
       have hq := h2 cs.length _ (.box (m + j) 0) (Array.getElem?_eq_getElem (by omega)) (by rw [List.getElem?_append_right (Nat.le_refl _), Nat.sub_self]; rfl)
       rw [Array.getElem?_eq_getElem (by omega)]
       generalize vs[cs.length] = y at hq
       cases hq with
       | box b' _ _ _ h3 => rw [h3 _ _ hx0 hxb]
     have hpush : vs = vs.pop.push (.pointer (some ⟨b, 0, none⟩)) := by
       refine Array.ext_getElem? fun i => ?_
       by_cases hi : i < cs.length
       · rw [Array.getElem?_push_lt (by simp; omega), Array.getElem?_eq_getElem (by omega)]; simp
       by_cases hi2 : i = cs.length
       · subst hi2
         rw [hlast]
         have : cs.length = vs.pop.size := by simp; omega
         rw [this, Array.getElem?_push_size]
       rw [Array.getElem?_eq_none (by omega), Array.getElem?_eq_none (by simp; omega)]
     refine .rc b F vs.pop cs (Array.getElem?_eq_some_iff.1 hhp).1 (fun x hx e5 => ?_) (by rw [← hpush]; exact hcell) (by simp; omega) (fun i u x q1 q2 => ?_)
     · obtain ⟨k, hk, rfl⟩ := List.mem_iff_getElem.1 hx
       have hk2 : (β.set (m + j) .dead)[k]? = some ((β.set (m + j) .dead)[k]) := List.getElem?_eq_getElem hk
       by_cases e : m + j = k
       · subst e; rw [List.getElem_set_self] at e5; cases e5
       rw [List.getElem?_set_ne e] at hk2
       exact hHr.ap _ _ _ _ b e hx0 hk2 (Hd.cb_mem hxb) e5
     have hi : i < cs.length := (List.getElem?_eq_some_iff.1 q2).1
     refine (h2 i u x ?_ (by rw [List.getElem?_append_left hi]; exact q2)).ext hext
     rw [Array.getElem?_eq_getElem (by simp; omega)] at q1
     rw [Array.getElem?_eq_getElem (by omega)]
     simpa using q1
 refine Code.wp_mono (fun e a' W' hp => hp.ext hext) (h D a W _ hmG hn hd hH2 fun t' X hX => ?_)
 change (bif Nat.beq t t' then some (AV.rc F cs) else look σ t') = some X at hX
 cases hb : Nat.beq t t' with
 | true => rw [hb] at hX; obtain rfl := Nat.eq_of_beq_eq_true hb; cases hX; exact ⟨u, ku, hpe⟩
 | false =>
   rw [hb] at hX
   obtain ⟨u', k1, k2⟩ := hs0 t' X hX
   exact ⟨u', k1, k2.ext hext⟩
theorem FnH.ofRow {P : Program} {f : FuncId} {fn : Func} {c : Code} {args : List AV} {H : List AO} {p : Nat} {A B : AO} {r : AV} {n : Nat} (hi : p < H.length) (hf : P.funcs[f]? = some fn) (hb : fn.body = some c) (hn : fn.ntmps = n) (hna : args.length ≤ n)
   (h : ∀ m, H.length = m → GOK m (H.set p A) → AWP P n m c (endF P fn r (H.set p B)) (zipS args 0) (H.set p A) []) : FnH P f args (H.set p A) r (H.set p B) := by
 refine FnH.of0 hf hb hn hna (fun hG => ?_)
 have hl : (H.set p A).length = H.length := List.length_set ..
 rw [hl] at hG ⊢
 exact h H.length rfl hG
end Go.Proofs.YtcndnllmlhhjiaaGreatDoor
namespace Go.Proofs.YtcndnllmlhhjiaaGreatDoor
open Go.ChangeShapes Go.WideShapes Go.ChangeAt Go.RowKit
def encTx (x : ByteArray) : List Value := [.string x]
theorem encTx_len (x : ByteArray) : (encTx x).length = 1 := rfl
theorem infoTxC : (Tryz.prog.info? 9).map (fun i => (i.zero, i.size, i.bytes)) = some (some (.string ⟨#[]⟩), 1, 16) := by kernel_rfl
theorem cloneTx_any (a : Option Addr) (cap : Nat) (xs : List ByteArray) (w : World) (hr : Reads encTx 1 w a xs) (hl : xs.length ≤ 1000000) :
   Calls Tryz.prog 39 #[.slice a xs.length cap] w fun e w' => ∃ v, e = .returned v ∧ w'.ownsRow w.heap.size 9 1 v xs.length (xs.flatMap encTx) ∧ Below w.heap.size w w' := by
 cases a with
 | none =>
   have hx : xs = [] := by
     cases xs with
     | nil => rfl
     | cons x xs => obtain ⟨b, off, h, _⟩ := hr 0 (by simp); cases h
   subst hx
   have hnil := Lib.run_eql_slice_nil (P := Tryz.prog) w 27 9 none 0 cap 0 0 U27
   have HP := Lib.hid (World.ownsRow_nil w w.heap.size 9 1)
   go_enter Tryz.func39, Tryz.ntmps39
   go_wp2_with fail
   go_ret
   exact ⟨_, rfl, HP.out, Below.refl _ _⟩
 | some ad =>
   obtain ⟨i0, hi, hz0, hz1, hz2⟩ := info_parts infoTxC
   have hnil := Lib.run_eql_slice_nil (P := Tryz.prog) w 27 9 (some ad) xs.length cap 0 0 U27
   have HR := Lib.hid hr
   clear hr
   go_enter Tryz.func39, Tryz.ntmps39
   have hfl := HR.out.flat (by omega) encTx_len
   have HFL := Lib.hid hfl
   clear hfl
   go_wp2_with (at_builtin; refine wpList_append_own _ rfl _ _ 27 rfl w.heap.size 9 i0 (.string ⟨#[]⟩) 1 16 U27 hi hz0 hz1 hz2 rfl (by decide) _ _ _ rfl (World.ownsRow_made w #[] 0 (Nat.le_refl _) (by unfold maxLen; omega) rfl) ad xs.length cap (xs.flatMap encTx) rfl ?c0 ?c1 ?c2 ?c3 ?c4 ?c5 ?_)
   case c0 => rw [flat_len encTx 1 encTx_len]
   case c1 =>
     intro j u hu
     obtain ⟨h1, h2⟩ := HFL.out j u hu
     have h3 : (ad.add j).block = ad.block := by unfold Addr.add; split <;> rfl
     rw [World.cell?_alloc_lt _ _ _ (by rw [h3]; exact h1)]
     exact h2
   case c2 =>
     intro u hu
     obtain ⟨x, _, hx⟩ := List.mem_flatMap.1 hu
     simp [encTx] at hx
     subst hx; rfl
   case c3 => unfold maxLen; omega
   case c4 => omega
   case c5 => simp
   intro v' w2 hown' hgrow _
   have hbel : Below w.heap.size w w2 := ((Below.refl _ _).alloc (Nat.le_refl _) _).grown hgrow (by simp) (fun k hk => by simp [Value.ownBlock] at hk; omega)
   have HO := Lib.hid hown'
   clear hown' hgrow
   go_wp2_with fail
   go_ret
   exact ⟨_, rfl, HO.out, hbel⟩
theorem cloneTx_new (xs : List ByteArray) (hl : xs.length ≤ 1000000) : FnNew Tryz.prog 39 [.sl (xs.map AV.str)] 9 1 (xs.map AV.str) :=
 FnNew.of_owns encTx AV.str 1 encTx_len (fun _ => rfl) (fun x u hu => by simp [encTx] at hu; subst hu; rfl) xs (fun w a cap hr h1 h2 h3 => cloneTx_any a cap xs w hr hl)
end Go.Proofs.YtcndnllmlhhjiaaGreatDoor
namespace Go.Proofs.YtcndnllmlhhjiaaGreatDoor
open NumP
theorem fold_len2 (s : St) (l : List ByteArray) : (foldP s l).2.length = l.length := by
 have : ∀ k, k ≤ l.length → (foldP s (l.take k)).2.length = k := by
   intro k
   induction k with
   | zero => intro _; rfl
   | succ k ih =>
     intro hk
     rw [fold_at s l k (by omega)]
     show ((foldP s (l.take k)).2 ++ [_]).length = _
     rw [List.length_append, ih (by omega)]; rfl
 have h := this l.length (Nat.le_refl _)
 rwa [List.take_length] at h
/-! ### counting -/
def cntP (f : Nat → Bool) (n : Nat) : Nat := ((List.range n).filter f).length
theorem cnt_succ (f : Nat → Bool) (n : Nat) : cntP f (n + 1) = cntP f n + if f n = true then 1 else 0 := by
 unfold cntP; rw [List.range_succ, List.filter_append, List.length_append]
 cases h : f n <;> simp [h]
theorem cnt_same {f g : Nat → Bool} : ∀ n, (∀ j, j < n → f j = g j) → cntP f n = cntP g n := by
 intro n
 induction n with
 | zero => intro _; rfl
 | succ n ih => intro h; rw [cnt_succ, cnt_succ, ih (fun j hj => h j (by omega)), h n (by omega)]
theorem cnt_less {f g : Nat → Bool} {i : Nat} (hf : f i = true) (hg : g i = false) : ∀ n, i < n → (∀ j, j < n → j ≠ i → g j = f j) → cntP f n = cntP g n + 1 := by
 intro n
 induction n with
 | zero => intro h; omega
 | succ n ih =>
   intro hi h
   rw [cnt_succ, cnt_succ]
   by_cases e : i = n
   · subst e
     rw [cnt_same i (fun j hj => (h j (by omega) (by omega)).symm), hf, hg]; simp
   · rw [ih (by omega) (fun j hj hne => h j (by omega) hne), h n (by omega) (fun e2 => e e2.symm)]; omega
theorem cnt_le (f : Nat → Bool) (n : Nat) : cntP f n ≤ n := by
 have := List.length_filter_le f (List.range n)
 rwa [List.length_range] at this
/-! ### payloads -/
abbrev payN (l : List Co) (i : Nat) : ByteArray := (l.getD i default).payload
theorem pay_inj {l : List Co} (h : checkO l = 0) {i j : Nat} (hi : i < l.length) (hj : j < l.length) (e : payN l i = payN l j) : i = j := by
 have key : ∀ {a b : Nat}, a < b → b < l.length → payN l a = payN l b → False := by
   intro a b hab hb e
   obtain ⟨b1, _, b3⟩ := okO_parts (check_at h b hb)
   obtain ⟨a1, _, _⟩ := okO_parts (check_at h a (by omega))
   have hb3 := b3 a hab
   unfold mayO at a1 b1
   simp only [Bool.and_eq_true, decide_eq_true_eq] at a1 b1
   have e' : (l.getD a default).payload = (l.getD b default).payload := e
   rw [e'] at a1
   have := apart_same hb3 (a1.1.1.1.2.symm.trans b1.1.1.1.2)
   have q : (l.getD a default).seq = (l.getD b default).seq := a1.1.1.2.symm.trans b1.1.1.2
   omega
 rcases Nat.lt_trichotomy i j with h1 | h1 | h1
 · exact (key h1 hj e).elim
 · exact h1
 · exact (key h1 hi e.symm).elim
abbrev endB (l : List Co) (i : Nat) : Bool := decide ((l.getD i default).end_ ≠ 0)
theorem endedN_eq (l : List Co) (i : Nat) : endedN (l.getD i default) = if endB l i = true then 1 else 0 := by
 unfold endedN endB; simp
def leftN (l : List Co) (pl : List Bool) : Nat := cntP (fun i => endB l i && !pl.getD i false) l.length
def openN (l : List Co) (pl : List Bool) : Nat := cntP (fun i => !pl.getD i false) l.length
theorem getD_setT (pl : List Bool) (i j : Nat) (hi : i < pl.length) : (pl.set i true).getD j false = if i = j then true else pl.getD j false := by
 rw [List.getD, List.getD]
 by_cases e : i = j
 · subst e; simp [hi]
 · rw [List.getElem?_set_ne e, if_neg e]
theorem left_set {l : List Co} {pl : List Bool} (hl : pl.length = l.length) {i : Nat} (hi : i < l.length) (h : pl.getD i false = false) : (leftN l pl : Int) - endedN (l.getD i default) = leftN l (pl.set i true) := by
 unfold leftN
 rw [endedN_eq]
 by_cases he : endB l i = true
 · rw [if_pos he, cnt_less (g := fun j => endB l j && !(pl.set i true).getD j false) (i := i) (by simp only [he, h]; rfl) (by rw [getD_setT _ _ _ (by omega), if_pos rfl]; simp) _ hi (fun j hj hne => by rw [getD_setT _ _ _ (by omega), if_neg (fun e => hne e.symm)])]
   omega
 · rw [if_neg he, cnt_same (g := fun j => endB l j && !(pl.set i true).getD j false) _ (fun j hj => ?_)]
   · simp
   · rw [getD_setT _ _ _ (by omega)]
     by_cases e : i = j
     · subst e; simp only [he, Bool.false_and]
     · rw [if_neg e]
theorem open_set {l : List Co} {pl : List Bool} (hl : pl.length = l.length) {i : Nat} (hi : i < l.length) (h : pl.getD i false = false) : openN l pl = openN l (pl.set i true) + 1 := by
 unfold openN
 exact cnt_less (by simp only [h]; rfl) (by rw [getD_setT _ _ _ (by omega), if_pos rfl]; rfl) _ hi (fun j hj hne => by rw [getD_setT _ _ _ (by omega), if_neg (fun e => hne e.symm)])
theorem done_eq {l : List Co} {pl : List Bool} (hl : pl.length = l.length) {i : Nat} (hi : i < l.length) : doneP pl i = pl.getD i false := by
 unfold doneP; rw [decide_eq_true (by omega), Bool.true_and]
theorem mem_free {l : List Co} {pl : List Bool} (hl : pl.length = l.length) {i : Nat} : i ∈ freeP l pl ↔ i < l.length ∧ pl.getD i false = false ∧ ∀ k, k < l.length → aheadP (l.getD k default) (l.getD i default) = true → pl.getD k false = true := by
 unfold freeP freeAt
 rw [List.mem_filter, List.mem_range]
 constructor
 · rintro ⟨h1, h2⟩
   simp only [Bool.and_eq_true, Bool.not_eq_true', List.all_eq_true, List.mem_range, Bool.or_eq_true] at h2
   rw [done_eq hl h1] at h2
   refine ⟨h1, h2.1, fun k hk ha => ?_⟩
   rcases h2.2 k hk with h3 | h3
   · rwa [done_eq hl hk] at h3
   · rw [ha] at h3; cases h3
 · rintro ⟨h1, h2, h3⟩
   refine ⟨h1, ?_⟩
   simp only [Bool.and_eq_true, Bool.not_eq_true', List.all_eq_true, List.mem_range, Bool.or_eq_true]
   rw [done_eq hl h1]
   refine ⟨h2, fun k hk => ?_⟩
   rw [done_eq hl hk]
   cases ha : aheadP (l.getD k default) (l.getD i default) with
   | false => exact .inr rfl
   | true => exact .inl (h3 k hk ha)
/-! ### what is found explains the book -/
structure Found (s : St) (l : List Co) (so : List ByteArray) (pl : List Bool) : Prop where
 len : pl.length = l.length
 own : ∀ p, p ∈ so → ∃ i, i < l.length ∧ payN l i = p
 one : ∀ j, j < so.length → firstP so (so.getD j default) = j
 isIn : ∀ i, i < l.length → pl.getD i false = decide (payN l i ∈ so)
 time : ∀ a b, a < l.length → b < l.length → aheadP (l.getD a default) (l.getD b default) = true → payN l b ∈ so → payN l a ∈ so ∧ firstP so (payN l a) < firstP so (payN l b)
 told : ∀ i, i < l.length → endB l i = true → payN l i ∈ so → (foldP s so).2.getD (firstP so (payN l i)).toNat default = (l.getD i default).reply
theorem found_step {s : St} {l : List Co} {so : List ByteArray} {pl : List Bool} (hl : checkO l = 0) (h : Found s l so pl) {i : Nat} (hi : i ∈ freeP l pl) (hr : endB l i = true → (applyP (foldP s so).1 (payN l i)).2 = (l.getD i default).reply) : Found s l (so ++ [payN l i]) (pl.set i true) := by
 obtain ⟨hi1, hi2, hi3⟩ := (mem_free h.len).1 hi
 have hno : payN l i ∉ so := fun e => by have := h.isIn i hi1; rw [hi2, decide_eq_true e] at this; cases this
 have hfn : ¬ 0 ≤ firstP so (payN l i) := fun e => hno (first_mem.1 e)
 have hold : ∀ p, p ∈ so → firstP (so ++ [payN l i]) p = firstP so p := fun p hp => by rw [first_snoc, if_pos (first_mem.2 hp)]
 have hnew : firstP (so ++ [payN l i]) (payN l i) = so.length := by rw [first_snoc, if_neg hfn, if_pos rfl]
 have hfl : (foldP s (so ++ [payN l i])).2 = (foldP s so).2 ++ [(applyP (foldP s so).1 (payN l i)).2] := by rw [fold_snoc]; rfl
 refine ⟨by rw [List.length_set]; exact h.len, fun p hp => ?_, fun j hj => ?_, fun j hj => ?_, fun a b ha hb hab hmem => ?_, fun j hj he hmem => ?_⟩
 · rcases List.mem_append.1 hp with hp | hp
   · exact h.own p hp
   · exact ⟨i, hi1, (List.mem_singleton.1 hp).symm⟩
 · rw [List.length_append, List.length_singleton] at hj
   by_cases e : j < so.length
   · have hg : (so ++ [payN l i]).getD j default = so.getD j default := by rw [List.getD, List.getD, List.getElem?_append_left e]
     have hm : so.getD j default ∈ so := by rw [List.getD, List.getElem?_eq_getElem e]; exact List.getElem_mem e
     rw [hg, hold _ hm]; exact h.one j e
   · have e2 : j = so.length := by omega
     subst e2
     rw [show (so ++ [payN l i]).getD so.length default = payN l i by simp [List.getD], hnew]
 · rw [getD_setT _ _ _ (by rw [h.len]; exact hi1)]
   by_cases e : i = j
   · subst e; rw [if_pos rfl, decide_eq_true (by simp)]
   · rw [if_neg e, h.isIn j hj]
     refine decide_eq_decide.2 ?_
     rw [List.mem_append, List.mem_singleton]
     exact ⟨.inl, fun hh => hh.elim id (fun e2 => absurd (pay_inj hl hi1 hj e2.symm) e)⟩
 · rcases List.mem_append.1 hmem with hm | hm
   · obtain ⟨h1, h2⟩ := h.time a b ha hb hab hm
     exact ⟨List.mem_append.2 (.inl h1), by rw [hold _ h1, hold _ hm]; exact h2⟩
   · have e : b = i := pay_inj hl hb hi1 (List.mem_singleton.1 hm)
     subst e
     have h1 := hi3 a ha hab
     rw [h.isIn a ha] at h1
     have h1 := of_decide_eq_true h1
     refine ⟨List.mem_append.2 (.inl h1), ?_⟩
     rw [hold _ h1, hnew]; exact (first_ge so _).2
 · rw [hfl]
   have hlen := fold_len2 s so
   rcases List.mem_append.1 hmem with hm | hm
   · rw [hold _ hm]
     have h1 := h.told j hj he hm
     have h2 := first_ge so (payN l j)
     have h3 := first_mem.2 hm
     rw [List.getD, List.getElem?_append_left (by omega)]
     exact h1
   · have e : j = i := pay_inj hl hj hi1 (List.mem_singleton.1 hm)
     subst e
     rw [hnew, show ((so.length : Int)).toNat = so.length by omega, List.getD, List.getElem?_append_right (by omega), hlen, Nat.sub_self]
     exact hr he
theorem try_found {s : St} {l : List Co} (hl : checkO l = 0) : ∀ (n : Nat) (so : List ByteArray) (pl : List Bool) (out : List ByteArray) (pl' : List Bool), Found s l so pl → tryP l n (foldP s so).1 so (leftN l pl) pl = some (out, pl') → Found s l out pl' ∧ leftN l pl' = 0 := by
 intro n
 induction n with
 | zero =>
   intro so pl out pl' hf h
   unfold tryP at h
   split at h
   · rename_i h0; cases h; exact ⟨hf, by omega⟩
   · cases h
 | succ n ih =>
   intro so pl out pl' hf h
   unfold tryP at h
   split at h
   · rename_i h0; cases h; exact ⟨hf, by omega⟩
   · change ((freeP l pl).findSome? _) = some (out, pl') at h
     obtain ⟨i, hi, h2⟩ := List.exists_of_findSome?_eq_some h
     obtain ⟨hi1, hi2, _⟩ := (mem_free hf.len).1 hi
     split at h2
     · cases h2
     · rename_i hr
       rw [left_set hf.len hi1 hi2] at h2
       have hst : (applyP (foldP s so).1 (l.getD i default).payload).1 = (foldP s (so ++ [payN l i])).1 := by rw [fold_snoc]; rfl
       rw [hst] at h2
       refine ih _ _ _ _ (found_step hl hf hi fun he => ?_) h2
       refine Classical.byContradiction fun e => hr ⟨?_, e⟩
       rw [endedN_eq, if_pos he]
theorem found_zero (s : St) (l : List Co) : Found s l [] (List.replicate l.length false) := by
 have hg : ∀ i, (List.replicate l.length false).getD i false = false := by
   intro i; rw [List.getD, List.getElem?_replicate]; split <;> rfl
 refine ⟨by simp, fun p hp => (by cases hp), fun j hj => absurd hj (Nat.not_lt_zero _), fun i hi => (by rw [hg]; simp), fun a b _ _ _ hm => (by cases hm), fun i _ _ hm => (by cases hm)⟩
theorem left_zero (l : List Co) : ((l.length : Int) - (openP l).length) = leftN l (List.replicate l.length false) := by
 have hg : ∀ i, (List.replicate l.length false).getD i false = false := by
   intro i; rw [List.getD, List.getElem?_replicate]; split <;> rfl
 have : ∀ k, k ≤ l.length → cntP (fun i => endB l i && !(List.replicate l.length false).getD i false) k + (openP (l.take k)).length = k := by
   intro k
   induction k with
   | zero => intro _; rfl
   | succ k ih =>
     intro hk
     have hgk : l.getD k default = l[k] := by rw [List.getD, List.getElem?_eq_getElem (by omega)]; rfl
     have i0 := ih (by omega)
     rw [cnt_succ, List.take_succ_eq_append_getElem (by omega)]
     unfold openP at i0 ⊢
     rw [List.filter_append, List.length_append, hg]
     have hf : ([l[k]].filter fun o => decide (o.end_ = 0)).length + (if (endB l k && !false) = true then 1 else 0) = 1 := by
       unfold endB; rw [hgk]
       by_cases e : l[k].end_ = 0 <;> simp [e]
     omega
 have h := this l.length (Nat.le_refl _)
 rw [List.take_length] at h
 unfold leftN; omega
theorem search_mk {s : St} {l : List Co} (hc : chkP s = 0) (hl : checkO l = 0) (h7 : l.length ≤ 7) : searchP s l = (tryP l 8 s [] (leftN l (List.replicate l.length false)) (List.replicate l.length false)).map (·.1) := by
 unfold searchP; rw [if_neg (by rw [hl, hc]; simp; omega), left_zero]
end Go.Proofs.YtcndnllmlhhjiaaGreatDoor
namespace Go.Proofs.YtcndnllmlhhjiaaGreatDoor
open Go.RowKit
open NumP
theorem pay_at2 {l : List Co} {n : Nat} (hp : ∀ x, x ∈ l → x.payload.size ≤ n) {k : Nat} (hk : k < l.length) : (payN l k).size ≤ n := by
 show (l.getD k default).payload.size ≤ n
 rw [Co_idx hk]; exact hp _ (List.getElem_mem hk)
def tryR (o : Option (List ByteArray × List Bool)) : AV := .tup [.sl (((o.map (·.1)).getD []).map AV.str), .bool o.isSome]
def tryRow (pl : List Bool) (o : Option (List ByteArray × List Bool)) : List Bool := (o.map (·.2)).getD pl
def kidG (l : List Co) (s : St) (sub : Nat → Option (List ByteArray × List Bool)) (i : Nat) : Option (List ByteArray × List Bool) :=
 if endedN (l.getD i default) = 1 ∧ (applyP s (l.getD i default).payload).2 ≠ (l.getD i default).reply then none else sub i
def tryG (l : List Co) (s : St) (so : List ByteArray) (left : Int) (pl : List Bool) (sub : Nat → Option (List ByteArray × List Bool)) : Option (List ByteArray × List Bool) :=
 if left = 0 then some (so, pl) else (freeP l pl).findSome? (kidG l s sub)
theorem find_none {α β : Type} [Inhabited α] {f : α → Option β} {l : List α} (h : ∀ j, j < l.length → f (l.getD j default) = none) : l.findSome? f = none := by
 rw [List.findSome?_eq_none_iff]
 intro x hx
 obtain ⟨j, hj, rfl⟩ := List.mem_iff_getElem.1 hx
 have := h j hj
 rwa [List.getD, List.getElem?_eq_getElem hj] at this
theorem find_first {α β : Type} [Inhabited α] {f : α → Option β} : ∀ {l : List α} {k : Nat}, k < l.length → (∀ j, j < k → f (l.getD j default) = none) → (f (l.getD k default)).isSome = true → l.findSome? f = f (l.getD k default) := by
 intro l
 induction l with
 | nil => intro k h; simp at h
 | cons x l ih =>
   intro k hk h1 h2
   cases k with
   | zero =>
     have h2' : (f x).isSome = true := h2
     rw [List.findSome?_cons]
     cases e : f x with
     | none => rw [e] at h2'; cases h2'
     | some y => exact e.symm
   | succ k =>
     have h0 : f x = none := h1 0 (by omega)
     rw [List.findSome?_cons, h0]
     exact ih (k := k) (by simpa using hk) (fun j hj => h1 (j + 1) (by omega)) h2
theorem free_at {l : List Co} {pl : List Bool} {k : Nat} (hk : k < (freeP l pl).length) : (freeP l pl).getD k default ∈ freeP l pl ∧ (freeP l pl).getD k default < l.length := by
 have h1 : (freeP l pl).getD k default ∈ freeP l pl := by rw [List.getD, List.getElem?_eq_getElem hk]; exact List.getElem_mem hk
 exact ⟨h1, List.mem_range.1 (List.mem_filter.1 h1).1⟩
theorem set_back {pl : List Bool} {l : List Co} (hpl : pl.length = l.length) {i : Nat} (h : i ∈ freeP l pl) : (pl.set i true).set i false = pl := by
 obtain ⟨h1, h2, _⟩ := (mem_free hpl).1 h
 rw [List.set_set]
 refine List.ext_getElem? fun j => ?_
 by_cases e : i = j
 · subst e
   rw [List.getElem?_set_self (by omega), List.getElem?_eq_getElem (by omega)]
   rw [List.getD, List.getElem?_eq_getElem (by omega)] at h2
   exact congrArg some h2.symm
 rw [List.getElem?_set_ne e]
theorem FnH.app {P : Program} {F p : Nat} {ax : List AV} {A B : AO} {r : AV} (h : ∀ H' : List AO, p < H'.length → FnH P F ax (H'.set p A) r (H'.set p B)) {H L : List AO} (hi : p < H.length) : FnH P F ax (H.set p A ++ L) r (H.set p B ++ L) := by
 have := h (H ++ L) (by rw [List.length_append]; omega)
 rwa [List.set_append_left _ _ hi, List.set_append_left _ _ hi] at this
theorem noH_bools (m : Nat) (q : List Bool) (g e z : Nat) : ∀ x, x ∈ (AO.row g e z (q.map AV.bool)).conts → NoH m x := by
 intro x hx
 simp only [AO.conts, List.mem_flatMap, List.mem_map] at hx
 obtain ⟨y, ⟨c, _, rfl⟩, hx⟩ := hx
 simp only [AV.cells, List.mem_singleton] at hx
 subst hx; exact .bool _
theorem str_snocT (l : List ByteArray) (x : ByteArray) : l.map AV.str ++ [AV.str x] = (l ++ [x]).map AV.str := by simp
theorem row_none {pl : List Bool} {o : Option (List ByteArray × List Bool)} (h : o.isSome = false) : tryRow pl o = pl := by cases o with | none => rfl | some x => cases h
theorem try_walk (l : List Co) (hl7 : l.length ≤ 7) (hp : ∀ x, x ∈ l → x.payload.size ≤ 2000) (s : St) (so : List ByteArray) (left : Int) (pl : List Bool) (hpl : pl.length = l.length) (hso : so.length ≤ 1000) (hlt : -1000 ≤ left ∧ left ≤ 1000) (hi1 : s.1.length ≤ 60) (hi2 : s.2.length ≤ 60) (p g : Nat) (sub : Nat → Option (List ByteArray × List Bool))
   (hsub : ∀ i, i ∈ freeP l pl → ∀ H : List AO, p < H.length → FnH Tryz.prog 37 [aSt (applyP s (payN l i)).1, .sl ((so ++ [payN l i]).map AV.str), .int .i64 (left - endedN (l.getD i default)), .pe [.sl (l.map aCo)], .pe [.own p g], .rc 37 [.pe [.sl (l.map aCo)], .pe [.own p g]]] (H.set p (.row g 4 1 ((pl.set i true).map AV.bool))) (tryR (sub i)) (H.set p (.row g 4 1 ((tryRow (pl.set i true) (sub i)).map AV.bool))))
   (H : List AO) (hi : p < H.length) : FnH Tryz.prog 37 [aSt s, .sl (so.map AV.str), .int .i64 left, .pe [.sl (l.map aCo)], .pe [.own p g], .rc 37 [.pe [.sl (l.map aCo)], .pe [.own p g]]] (H.set p (.row g 4 1 (pl.map AV.bool))) (tryR (tryG l s so left pl sub)) (H.set p (.row g 4 1 ((tryRow pl (tryG l s so left pl sub)).map AV.bool))) := by
 have hfl : (freeP l pl).length ≤ l.length := by have := freeT_len l pl l.length; rw [freeT_map, List.length_map] at this; exact this
 refine FnH.ofRow hi Tryz.func37 rfl rfl (by simp) (fun m hHm hG => ?_)
 have hN : NoH H.length (tryR (tryG l s so left pl sub)) := (by simp [tryR, AV.cells])
 refine sr fun _ => ?_
 refine ρz ?_
 refine ma ?_
 refine mz ?_
 refine AWP.seq (sr fun _ => ?_)
 refine mv ?_
 refine ρ2 ?_
 refine ez ?_
 refine ρp (fun h0 => ?_) (fun h0 => ?_)
 · simp only [decide_eq_true_eq] at h0
   refine sr fun _ => ?_
   refine mv ?_
   refine ma ?_
   refine mz ?_
   refine AWP.ret (thenA_r ?_)
   refine endF.toG (congrArg (fun q : List Bool => H.set p (AO.row g 4 1 (q.map AV.bool))) (by unfold tryG; rw [if_pos h0]; rfl)) ?_
   refine endF.many (.inr rfl) (rs := [.tmp 9, .tmp 10]) rfl (.cons (.tmp rfl) (.cons (.tmp rfl) .nil)) (by simp) ?_ (by rw [List.length_set]; exact hN)
   unfold tryG; rw [if_pos h0]; rfl
 simp only [decide_eq_false_iff_not] at h0
 refine AWP.skip (thenA_n (AWP.seq (sr fun _ => ?_)))
 refine ρ7 U26 ?_
 refine ρ7 U32 ?_
 refine ARun.callLentNew (j := 0) hG rfl rfl rfl rfl rfl cf17 (ep rfl) (.cons (ep rfl) (.cons (ep rfl) .nil)) rfl (.same (.own (atO hi) (by simp [maxLen]; omega) .nil)) (free_new l pl (by omega) (by omega)) (fun y hy => (freeT_flat l pl _ y hy).1) optN ?_
 refine ARun.lenOwn rfl rfl rfl rfl U40 (ep rfl) ((hG.at _ _).trans rfl) optN ?_
 refine mv ?_
 refine ez ?_
 refine AWP.block ?_
 refine AWP.frzOwn 23 hG rfl rfl (by decide) (by have := freeT_len l pl l.length; unfold maxLen; omega) rfl ?_
 refine AWP.roundsO (fun k => k ≤ (freeP l pl).length ∧ ∀ j, j < k → kidG l s sub ((freeP l pl).getD j default) = none) (fun k => [(1, .sl (so.map AV.str)), (2, .int .i64 left), (3, .pe [.sl (l.map aCo)]), (4, .pe [.own p g]), (5, .rc 37 [.pe [.sl (l.map aCo)], .pe [.own p g]]), (6, .pe (aSt s).cells), (23, .sl ((freeP l pl).map fun (i : Nat) => AV.int .i64 (i : Int))), (24, .int .i64 (((freeP l pl).map fun (i : Nat) => AV.int .i64 (i : Int)).length : Int)), (25, .int .i64 (k : Int))]) (fun k => H.set p (.row g 4 1 (pl.map AV.bool))) (fun k => [.dead]) (fun k => (freeP l pl).length - k) 1 0 ⟨by omega, fun j h => by omega⟩ (by repeat (first | exact .nil | refine .cons rfl ?_)) rfl rfl (fun _ => rfl) (fun _ => ⟨by simp [AV.cells, aCo, aSt, Stk.aIt, Ssn.aSe, freeT]; omega, by simp [AO.conts]⟩) (fun k hI hG => ?_)
 show AWP _ _ _ _ _ [(1, .sl (so.map AV.str)), (2, .int .i64 left), (3, .pe [.sl (l.map aCo)]), (4, .pe [.own p g]), (5, .rc 37 [.pe [.sl (l.map aCo)], .pe [.own p g]]), (6, .pe (aSt s).cells), (23, .sl ((freeP l pl).map fun (i : Nat) => AV.int .i64 (i : Int))), (24, .int .i64 (((freeP l pl).map fun (i : Nat) => AV.int .i64 (i : Int)).length : Int)), (25, .int .i64 (k : Int))] (H.set p (.row g 4 1 (pl.map AV.bool))) [.dead]
 replace hG : GOK _ (H.set p (.row g 4 1 (pl.map AV.bool))) := hG
 obtain ⟨hk, hno⟩ := hI
 refine sr fun _ => ?_
 refine ρ2 ?_
 refine ez ?_
 refine AWP.seq ?_
 refine ρp (fun h1 => ?_) (fun h1 => ?_)
 · simp only [decide_eq_true_eq] at h1
   have hkl : k < (freeP l pl).length := by rw [List.length_map] at h1; omega
   obtain ⟨hIm, hIl⟩ := free_at hkl
   refine AWP.skip (thenA_n ?_)
   refine AWP.seq (AWP.block (sr fun _ => ?_))
   refine ARun.indexSl rfl rfl rfl rfl U40 sz3 (ep rfl) (ep rfl) (fun _ => rfl) (fun hg => getMap _ _ _ (by ((try simp at hg) <;> omega))) rfl rfl optN ?_
   refine ρ7 U3 ?_
   refine mz ?_
   refine AWP.seq ?_
   refine ρE mixed (fun _ => ?_)
   refine ρl U25 sz25 ?_
   refine ρ7 U26 ?_
   refine mv ?_
   refine ARun.indexSl rfl rfl rfl rfl U26 sz50 (ep rfl) (ep rfl) (fun _ => rfl) (fun hg => getMap _ _ _ (by ((try simp at hg) <;> omega))) rfl rfl optN ?_
   refine ρ4 U50 sz9 ?_
   refine ρ7 U9 ?_
   refine ρk cf38 ?_ (hF := fun hg => apply_fn s (payN l ((freeP l pl).getD k default)) (pay_at2 hp hIl) (by omega) (by omega))
   refine mv ?_
   refine ρ9 ?_
   refine ρ9 ?_
   refine ρo (j := 1) zv25 ?_
   refine ρ1 sz25 ?_
   refine ma ?_
   refine ⟨by kernel_rfl, _, _, rfl, hG, ?_⟩
   refine thenA_n (sr fun _ => ?_)
   refine mz ?_
   refine AWP.seq (sr fun _ => ?_)
   refine ρ7 U26 ?_
   refine mv ?_
   refine ARun.indexSl rfl rfl rfl rfl U26 sz50 (ep rfl) (ep rfl) (fun _ => rfl) (fun hg => getMap _ _ _ (by ((try simp at hg) <;> omega))) rfl rfl optN ?_
   refine ρ4 U50 sz3 ?_
   refine ρ7 U3 ?_
   refine ρ2 ?_
   refine ez ?_
   refine ρp (fun h2 => ?_) (fun h2 => ?_)
   · change (!decide ((l.getD ((freeP l pl).getD k default) default).end_ = 0)) = true at h2
     have hE : endedN (l.getD ((freeP l pl).getD k default) default) = 1 := by unfold endedN; rw [if_pos (fun e => by rw [decide_eq_true e] at h2; exact absurd h2 (by decide))]
     have hs1 := hsub ((freeP l pl).getD k default) hIm
     rw [hE] at hs1
     refine AWP.region (fun _ => ?_)
     refine mz ?_
     refine AWP.seq (sr fun _ => ?_)
     refine mv ?_
     refine ρ2 ?_
     refine mv ?_
     refine ρg ?_
     refine ARun.loadPe rfl rfl rfl rfl U26 rfl (ep rfl) rfl optS ?_
     refine ρg ?_
     refine ARun.indexSl rfl rfl rfl rfl U26 sz50 (Ev.opt rfl (fun h => h)) (Ev.opt rfl (fun h => h)) (fun _ => rfl) (fun hg => getMap _ _ _ (by ((try simp at hg) <;> omega))) rfl rfl optS ?_
     refine ρB U50 sz9 ?_
     refine ρ5 U9 ?_
     refine ARun.cmpS rfl rfl rfl rfl (Ev.opt rfl (fun h => h)) (Ev.opt rfl (fun h => h)) rfl optS ?_
     refine ρ0 ?_
     refine ez ?_
     refine ρp (fun h3 => ?_) (fun h3 => ?_)
     · change (decide ((1 : Int) = 1) && !decide ((applyP s (l.getD ((freeP l pl).getD k default) default).payload).2 = (l.getD ((freeP l pl).getD k default) default).reply)) = true at h3
       have hkn : kidG l s sub ((freeP l pl).getD k default) = none := by unfold kidG; rw [if_pos ⟨hE, fun e => by rw [decide_eq_true e] at h3; exact absurd h3 (by decide)⟩]
       refine AWP.exit ?_
       refine thenA_x ?_
       refine blockA_h ?_
       refine thenA_n ?_
       refine AWP.region (fun _ => ?_)
       refine ARun.arith rfl rfl rfl rfl (ep rfl) (ep rfl) rfl (fun hg => i64w (by ((try simp at hg) <;> omega))) optN ?_
       refine mv ?_
       refine ⟨_, _, rfl, hG, ?_⟩
       refine thenA_n ⟨k + 1, _, ?_, ?_, ?_, rfl, ?_⟩
       · rfl
       · refine ⟨by omega, fun j hj => ?_⟩
         by_cases e : j = k
         · subst e; exact hkn
         exact hno j (by omega)
       · repeat (first | exact .nil | refine .cons rfl ?_)
       omega
     change (decide ((1 : Int) = 1) && !decide ((applyP s (l.getD ((freeP l pl).getD k default) default).payload).2 = (l.getD ((freeP l pl).getD k default) default).reply)) = false at h3
     have hks : kidG l s sub ((freeP l pl).getD k default) = sub ((freeP l pl).getD k default) := by unfold kidG; rw [if_neg (by rintro ⟨_, e⟩; rw [decide_eq_false e] at h3; exact absurd h3 (by decide))]
     refine AWP.skip (thenA_n (sr fun _ => ?_))
     refine ρ7 U32 ?_
     refine mv ?_
     refine ARun.indexOwn (j := ((freeP l pl).getD k default)) rfl rfl rfl rfl U32 sz4 (atO hi) (ep rfl) (ep rfl) (fun hg => rfl) (fun hg => (by rw [List.length_map]; omega)) optN ?_
     refine ARun.storeBoolO hi hG rfl rfl rfl sz4 (ep rfl) (ep rfl) (by omega) (fun hG => ?_)
     refine ez ?_
     refine AWP.seq (AWP.seq ?_)
     refine AWP.frzBox 13 hG rfl rfl rfl ?_
     refine ρE mixed (fun _ => ?_)
     refine ARun.loadRc rfl rfl rfl rfl U67 rfl (ep rfl) optN ?_
     refine ρl U25 sz25 ?_
     refine mv ?_
     refine ARun.callNew (j := 2) hG rfl rfl rfl rfl rfl cf39 (ep rfl) (.cons (ep rfl) .nil) rfl (cloneTx_new so (by omega)) optN ?_
     refine ρ7 U26 ?_
     refine mv ?_
     refine ARun.indexSl rfl rfl rfl rfl U26 sz50 (ep rfl) (ep rfl) (fun _ => rfl) (fun hg => getMap _ _ _ (by ((try simp at hg) <;> omega))) rfl rfl optN ?_
     refine ρ4 U50 sz9 ?_
     refine ρ7 U9 ?_
     refine ρy U27 sz9 zv9 ?_
     refine ARun.appendL hG rfl rfl rfl rfl U27 ti9 rfl (by decide) (ep rfl) (ep rfl) rfl rfl (by simp [maxLen]; omega) (by simp; omega) (str_snocT so (payN l ((freeP l pl).getD k default))) optN rfl ?_
     refine mv ?_
     refine mv ?_
     refine ARun.arith rfl rfl rfl rfl (ep rfl) (ep rfl) rfl (fun hg => i64w (by ((try simp at hg) <;> omega))) optN ?_
     refine ARun.callRF (j := 2) hi hG rfl rfl rfl rfl cf37 (ep rfl) (.cons (ep rfl) (.cons (ep rfl) (.cons (ep rfl) .nil))) rfl rfl (.same (.own (.same (.same (.same (.same .nil)))))) rfl (FnH.app hs1 hi) (noH_bools _ _ _ _ _) optN (fun hG => ?_)
     refine mv ?_
     refine ρ9 ?_
     refine ρ9 ?_
     refine ma ?_
     refine ma ?_
     refine ⟨by kernel_rfl, _, _, rfl, hG, ?_⟩
     refine thenA_n (sr fun _ => ?_)
     refine mv ?_
     refine ez ?_
     refine ρp (fun h4 => ?_) (fun h4 => ?_)
     · refine sr fun _ => ?_
       refine mv ?_
       refine ma ?_
       refine mz ?_
       refine AWP.ret (thenA_r ?_)
       refine blockA_r (thenA_r ?_)
       refine thenA_r (blockA_r (thenA_r ?_))
       refine endF.toG (congrArg (fun q : List Bool => H.set p (AO.row g 4 1 (q.map AV.bool))) (by unfold tryG; rw [if_neg h0, find_first hkl hno (by rw [hks]; exact h4), hks]; cases e : sub _ with | none => rw [e] at h4; cases h4 | some x => rfl)) ?_
       refine endF.many (.inr rfl) (rs := [.tmp 9, .tmp 10]) rfl (.cons (.tmp rfl) (.cons (.tmp rfl) .nil)) (by simp) ?_ (by rw [List.length_set]; exact hN)
       unfold tryG; rw [if_neg h0, find_first hkl hno (by rw [hks]; exact h4), hks, h4]; rfl
     rw [row_none h4] at hG ⊢
     refine AWP.skip (thenA_n ?_)
     refine AWP.region (fun _ => ?_)
     refine ρ7 U32 ?_
     refine mv ?_
     refine ARun.indexOwn (j := ((freeP l pl).getD k default)) rfl rfl rfl rfl U32 sz4 (atO hi) (ep rfl) (ep rfl) (fun hg => rfl) (fun hg => (by rw [List.length_map, List.length_set]; omega)) optN ?_
     refine ARun.storeBoolO hi hG rfl rfl rfl sz4 (ep rfl) (ep rfl) (by rw [List.length_set]; omega) (fun hG => ?_)
     refine ⟨_, _, rfl, hG, ?_⟩
     refine blockA_n (thenA_n ?_)
     refine AWP.region (fun _ => ?_)
     refine ARun.arith rfl rfl rfl rfl (ep rfl) (ep rfl) rfl (fun hg => i64w (by ((try simp at hg) <;> omega))) optN ?_
     refine mv ?_
     refine ⟨_, _, rfl, hG, ?_⟩
     refine thenA_n ⟨k + 1, _, ?_, ?_, ?_, rfl, ?_⟩
     · rw [set_back hpl hIm]
     · refine ⟨by omega, fun j hj => ?_⟩
       by_cases e : j = k
       · subst e; rw [hks]; exact Option.isNone_iff_eq_none.1 (by rw [← Option.not_isSome, h4]; rfl)
       exact hno j (by omega)
     · repeat (first | exact .nil | refine .cons rfl ?_)
     omega
   change (!decide ((l.getD ((freeP l pl).getD k default) default).end_ = 0)) = false at h2
   have hE : endedN (l.getD ((freeP l pl).getD k default) default) = 0 := by unfold endedN; rw [if_neg (fun hne => by rw [decide_eq_false hne] at h2; exact absurd h2 (by decide))]
   have hs1 := hsub ((freeP l pl).getD k default) hIm
   rw [hE] at hs1
   refine AWP.skip (thenA_n (AWP.seq (sr fun _ => ?_)))
   refine mv ?_
   refine ρ2 ?_
   refine mv ?_
   refine ρg ?_
   refine ARun.loadPe rfl rfl rfl rfl U26 rfl (ep rfl) rfl optS ?_
   refine ρg ?_
   refine ARun.indexSl rfl rfl rfl rfl U26 sz50 (Ev.opt rfl (fun h => h)) (Ev.opt rfl (fun h => h)) (fun _ => rfl) (fun hg => getMap _ _ _ (by ((try simp at hg) <;> omega))) rfl rfl optS ?_
   refine ρB U50 sz9 ?_
   refine ρ5 U9 ?_
   refine ARun.cmpS rfl rfl rfl rfl (Ev.opt rfl (fun h => h)) (Ev.opt rfl (fun h => h)) rfl optS ?_
   refine ρ0 ?_
   refine ez ?_
   refine ρp (fun h5 => ?_) (fun h5 => ?_)
   · simp at h5
   have hks : kidG l s sub ((freeP l pl).getD k default) = sub ((freeP l pl).getD k default) := by unfold kidG; rw [if_neg (by rintro ⟨e, _⟩; rw [hE] at e; exact absurd e (by decide))]
   refine AWP.skip (thenA_n (sr fun _ => ?_))
   refine ρ7 U32 ?_
   refine mv ?_
   refine ARun.indexOwn (j := ((freeP l pl).getD k default)) rfl rfl rfl rfl U32 sz4 (atO hi) (ep rfl) (ep rfl) (fun hg => rfl) (fun hg => (by rw [List.length_map]; omega)) optN ?_
   refine ARun.storeBoolO hi hG rfl rfl rfl sz4 (ep rfl) (ep rfl) (by omega) (fun hG => ?_)
   refine ez ?_
   refine AWP.seq (AWP.seq ?_)
   refine AWP.frzBox 13 hG rfl rfl rfl ?_
   refine ρE mixed (fun _ => ?_)
   refine ARun.loadRc rfl rfl rfl rfl U67 rfl (ep rfl) optN ?_
   refine ρl U25 sz25 ?_
   refine mv ?_
   refine ARun.callNew (j := 2) hG rfl rfl rfl rfl rfl cf39 (ep rfl) (.cons (ep rfl) .nil) rfl (cloneTx_new so (by omega)) optN ?_
   refine ρ7 U26 ?_
   refine mv ?_
   refine ARun.indexSl rfl rfl rfl rfl U26 sz50 (ep rfl) (ep rfl) (fun _ => rfl) (fun hg => getMap _ _ _ (by ((try simp at hg) <;> omega))) rfl rfl optN ?_
   refine ρ4 U50 sz9 ?_
   refine ρ7 U9 ?_
   refine ρy U27 sz9 zv9 ?_
   refine ARun.appendL hG rfl rfl rfl rfl U27 ti9 rfl (by decide) (ep rfl) (ep rfl) rfl rfl (by simp [maxLen]; omega) (by simp; omega) (str_snocT so (payN l ((freeP l pl).getD k default))) optN rfl ?_
   refine mv ?_
   refine mv ?_
   refine ARun.arith rfl rfl rfl rfl (ep rfl) (ep rfl) rfl (fun hg => i64w (by ((try simp at hg) <;> omega))) optN ?_
   refine ARun.callRF (j := 2) hi hG rfl rfl rfl rfl cf37 (ep rfl) (.cons (ep rfl) (.cons (ep rfl) (.cons (ep rfl) .nil))) rfl rfl (.same (.own (.same (.same (.same (.same .nil)))))) rfl (FnH.app hs1 hi) (noH_bools _ _ _ _ _) optN (fun hG => ?_)
   refine mv ?_
   refine ρ9 ?_
   refine ρ9 ?_
   refine ma ?_
   refine ma ?_
   refine ⟨by kernel_rfl, _, _, rfl, hG, ?_⟩
   refine thenA_n (sr fun _ => ?_)
   refine mv ?_
   refine ez ?_
   refine ρp (fun h6 => ?_) (fun h6 => ?_)
   · refine sr fun _ => ?_
     refine mv ?_
     refine ma ?_
     refine mz ?_
     refine AWP.ret (thenA_r ?_)
     refine blockA_r (thenA_r ?_)
     refine thenA_r (blockA_r (thenA_r ?_))
     refine endF.toG (congrArg (fun q : List Bool => H.set p (AO.row g 4 1 (q.map AV.bool))) (by unfold tryG; rw [if_neg h0, find_first hkl hno (by rw [hks]; exact h6), hks]; cases e : sub _ with | none => rw [e] at h6; cases h6 | some x => rfl)) ?_
     refine endF.many (.inr rfl) (rs := [.tmp 9, .tmp 10]) rfl (.cons (.tmp rfl) (.cons (.tmp rfl) .nil)) (by simp) ?_ (by rw [List.length_set]; exact hN)
     unfold tryG; rw [if_neg h0, find_first hkl hno (by rw [hks]; exact h6), hks, h6]; rfl
   rw [row_none h6] at hG ⊢
   refine AWP.skip (thenA_n ?_)
   refine AWP.region (fun _ => ?_)
   refine ρ7 U32 ?_
   refine mv ?_
   refine ARun.indexOwn (j := ((freeP l pl).getD k default)) rfl rfl rfl rfl U32 sz4 (atO hi) (ep rfl) (ep rfl) (fun hg => rfl) (fun hg => (by rw [List.length_map, List.length_set]; omega)) optN ?_
   refine ARun.storeBoolO hi hG rfl rfl rfl sz4 (ep rfl) (ep rfl) (by rw [List.length_set]; omega) (fun hG => ?_)
   refine ⟨_, _, rfl, hG, ?_⟩
   refine blockA_n (thenA_n ?_)
   refine AWP.region (fun _ => ?_)
   refine ARun.arith rfl rfl rfl rfl (ep rfl) (ep rfl) rfl (fun hg => i64w (by ((try simp at hg) <;> omega))) optN ?_
   refine mv ?_
   refine ⟨_, _, rfl, hG, ?_⟩
   refine thenA_n ⟨k + 1, _, ?_, ?_, ?_, rfl, ?_⟩
   · rw [set_back hpl hIm]
   · refine ⟨by omega, fun j hj => ?_⟩
     by_cases e : j = k
     · subst e; rw [hks]; exact Option.isNone_iff_eq_none.1 (by rw [← Option.not_isSome, h6]; rfl)
     exact hno j (by omega)
   · repeat (first | exact .nil | refine .cons rfl ?_)
   omega
 simp only [decide_eq_false_iff_not] at h1
 have hkl : k = (freeP l pl).length := by rw [List.length_map] at h1; omega
 refine AWP.exit ?_
 refine thenA_x ?_
 refine thenA_x ?_
 refine blockA_h ?_
 refine thenA_n (sr fun _ => ?_)
 refine ma ?_
 refine mz ?_
 refine AWP.ret ?_
 refine endF.toG (congrArg (fun q : List Bool => H.set p (AO.row g 4 1 (q.map AV.bool))) (by unfold tryG; rw [if_neg h0, find_none (fun j hj => hno j (by omega))]; rfl)) ?_
 refine endF.many (.inr rfl) (rs := [.tmp 9, .tmp 10]) rfl (.cons (.tmp rfl) (.cons (.tmp rfl) .nil)) (by simp) ?_ (by rw [List.length_set]; exact hN)
 unfold tryG; rw [if_neg h0, find_none (fun j hj => hno j (by omega))]; rfl
theorem ended_rng (o : Co) : 0 ≤ endedN o ∧ endedN o ≤ 1 := by unfold endedN; split <;> omega
theorem openP_leL (l : List Co) : (openP l).length ≤ l.length := List.length_filter_le _ _
theorem try_fn (l : List Co) (hl7 : l.length ≤ 7) (hp : ∀ x, x ∈ l → x.payload.size ≤ 2000) : ∀ (n : Nat) (s : St) (so : List ByteArray) (left : Int) (pl : List Bool) (hpl : pl.length = l.length) (hso : so.length + n ≤ 100) (hlt : (n : Int) - 100 ≤ left ∧ left ≤ 100) (hi1 : s.1.length ≤ 60) (hi2 : s.2.length ≤ 60) (hop : openN l pl ≤ n) (p g : Nat)
   (H : List AO) (hi : p < H.length), FnH Tryz.prog 37 [aSt s, .sl (so.map AV.str), .int .i64 left, .pe [.sl (l.map aCo)], .pe [.own p g], .rc 37 [.pe [.sl (l.map aCo)], .pe [.own p g]]] (H.set p (.row g 4 1 (pl.map AV.bool))) (tryR (tryP l n s so left pl)) (H.set p (.row g 4 1 ((tryRow pl (tryP l n s so left pl)).map AV.bool))) := by
 intro n
 induction n with
 | zero =>
   intro s so left pl hpl hso hlt hi1 hi2 hop p g H hi
   have hfr : freeP l pl = [] := by
     cases e : freeP l pl with
     | nil => rfl
     | cons i is =>
       obtain ⟨h1, h2, _⟩ := (mem_free hpl).1 (show i ∈ freeP l pl by rw [e]; exact List.mem_cons_self)
       have := open_set hpl h1 h2
       omega
   have h := try_walk l hl7 hp s so left pl hpl (by omega) (by omega) hi1 hi2 p g (fun _ => none) (fun i hi => by rw [hfr] at hi; cases hi) H hi
   have e : tryG l s so left pl (fun _ => none) = tryP l 0 s so left pl := by
     unfold tryG; rw [hfr]; unfold tryP; rfl
   rwa [e] at h
 | succ n ih =>
   intro s so left pl hpl hso hlt hi1 hi2 hop p g H hi
   have h := try_walk l hl7 hp s so left pl hpl (by omega) (by omega) hi1 hi2 p g (fun i => tryP l n (applyP s (payN l i)).1 (so ++ [payN l i]) (left - endedN (l.getD i default)) (pl.set i true)) (fun i hif H hH => by
     obtain ⟨h1, h2, _⟩ := (mem_free hpl).1 hif
     have h3 := open_set hpl h1 h2
     have h4 := ended_rng (l.getD i default)
     have h5 := apply_len s (payN l i) (by have := pay_at2 hp h1; omega) hi1 hi2
     exact ih _ _ _ _ (by rw [List.length_set]; exact hpl) (by rw [List.length_append, List.length_singleton]; omega) (by omega) h5.1 h5.2 (by omega) p g H hH) H hi
   have e : tryG l s so left pl (fun i => tryP l n (applyP s (payN l i)).1 (so ++ [payN l i]) (left - endedN (l.getD i default)) (pl.set i true)) = tryP l (n + 1) s so left pl := by
     unfold tryG; conv => rhs; unfold tryP
     rfl
   rwa [e] at h
def srR (o : Option (List ByteArray)) : AV := .tup [.sl ((o.getD []).map AV.str), .bool o.isSome]
theorem openN_le (l : List Co) (pl : List Bool) : openN l pl ≤ l.length := cnt_le _ _
theorem try_top (l : List Co) (hl7 : l.length ≤ 7) (hp : ∀ x, x ∈ l → x.payload.size ≤ 2000) (s : St) (hi1 : s.1.length ≤ 60) (hi2 : s.2.length ≤ 60) (H : List AO) (p : Nat) (hH : H[p]? = some (.row 0 4 1 (List.replicate l.length (AV.bool false)))) :
   FnH Tryz.prog 37 [aSt s, .sl [], .int .i64 (((l.map aCo).length : Int) - (((openP l).map aCo).length : Int)), .pe [.sl (l.map aCo)], .pe [.own p 0], .rc 37 [.pe [.sl (l.map aCo)], .pe [.own p 0]]] H (tryR (tryP l 8 s [] ((l.length : Int) - (openP l).length) (List.replicate l.length false)))
     (H.set p (.row 0 4 1 ((tryRow (List.replicate l.length false) (tryP l 8 s [] ((l.length : Int) - (openP l).length) (List.replicate l.length false))).map AV.bool))) := by
 have hop := openP_leL l
 have h := try_fn l hl7 hp 8 s [] ((l.length : Int) - (openP l).length) (List.replicate l.length false) (by simp) (by simp) (by omega) hi1 hi2 (by have := openN_le l (List.replicate l.length false); omega) p 0 H (List.getElem?_eq_some_iff.1 hH).1
 rw [List.map_replicate] at h
 have e := set_of_get hH
 rw [e] at h
 rw [List.length_map, List.length_map]
 exact h
theorem search_no {s : St} {l : List Co} (h : (!(decide (checkO l = 0) && decide (chkP s = 0)) || decide (7 < ((l.map aCo).length : Int))) = true) : searchP s l = none := by
 unfold searchP; rw [if_pos]
 rw [List.length_map] at h
 simp only [Bool.or_eq_true, Bool.not_eq_true', Bool.and_eq_false_iff, decide_eq_false_iff_not, decide_eq_true_eq] at h
 rcases h with (h | h) | h
 · exact .inl h
 · exact .inr (.inl h)
 exact .inr (.inr (by omega))
theorem search_yes {s : St} {l : List Co} (h : (!(decide (checkO l = 0) && decide (chkP s = 0)) || decide (7 < ((l.map aCo).length : Int))) = false) : l.length ≤ 7 ∧ searchP s l = (tryP l 8 s [] ((l.length : Int) - (openP l).length) (List.replicate l.length false)).map (·.1) := by
 rw [List.length_map] at h
 simp only [Bool.or_eq_false_iff, Bool.not_eq_false', Bool.and_eq_true, decide_eq_true_eq, decide_eq_false_iff_not] at h
 refine ⟨by omega, ?_⟩
 unfold searchP; rw [if_neg]
 rintro (e | e | e)
 · exact e h.1.1
 · exact e h.1.2
 omega
theorem openP_le2 (l : List Co) : ((openP l).map aCo).length ≤ (l.map aCo).length := by rw [List.length_map, List.length_map]; exact openP_leL l
theorem search_fn (l : List Co) (hl : l.length ≤ 1000) (hp : ∀ x, x ∈ l → x.payload.size ≤ 2000) (s : St) (hi1 : s.1.length ≤ 60) (hi2 : s.2.length ≤ 60) : FnP Tryz.prog 19 [aSt s, .sl (l.map aCo)] (srR (searchP s l)) := by
 refine FnP.of Tryz.func19 rfl rfl (by simp) (by simp [srR, AV.cells]) (fun G hG => ?_)
 have hN : NoH G.length (srR (searchP s l)) := (by simp [srR, AV.cells])
 refine sr fun _ => ?_
 refine ρz ?_
 refine ARun.boxPe1 rfl rfl rfl rfl (ep rfl) (by first | rfl | exact aEr_one _ | exact aFl_one _) optN ?_
 refine ma ?_
 refine mz ?_
 refine AWP.seq (sr fun _ => ?_)
 refine ρl U25 sz25 ?_
 refine ρ7 U26 ?_
 refine ρk cf25 ?_ (hF := fun hg => mayL_fn s l hl (fun x hx => by have := hp x hx; omega))
 refine ρC ?_
 refine mv ?_
 refine ARun.loadPe rfl rfl rfl rfl U26 rfl (ep rfl) rfl optS ?_
 refine ARun.lenSl rfl rfl rfl rfl U26 (Ev.opt rfl (fun h => h)) optS ?_
 refine ρb ?_
 refine ρ3 ?_
 refine ez ?_
 refine ρp (fun h0 => ?_) (fun h0 => ?_)
 · refine sr fun _ => ?_
   refine ma ?_
   refine mz ?_
   refine AWP.ret (thenA_r ?_)
   refine ρj (rs := [.tmp 4, .tmp 5]) (.cons (.tmp rfl) (.cons (.tmp rfl) .nil)) ?_
   rw [search_no h0]; rfl
 obtain ⟨hl7, hsr⟩ := search_yes h0
 have hop := openP_le2 l
 have hlm : (l.map aCo).length = l.length := List.length_map ..
 refine AWP.skip (thenA_n (sr fun _ => ?_))
 refine ρ7 U26 ?_
 refine ρv U26 ?_
 refine ARun.makeSl (j := 0) (q := l.length) hG rfl rfl rfl rfl rfl U32 ti4 rfl (by decide) (ep rfl) (ep rfl) (by simp) (by omega) optN ?_
 refine ρo (j := 1) zv32 ?_
 refine ρt sz32 ?_
 refine ez ?_
 refine AWP.seq ?_
 refine AWP.frzBox 6 hG rfl rfl rfl ?_
 refine ρE mixed (fun _ => ?_)
 refine ρ7 U26 ?_
 refine ρv U26 ?_
 refine ρ7 U26 ?_
 refine ρm cf36 (fun hg => open_fn l hl) ?_
 refine ρv U26 ?_
 refine ρa ?_
 refine ma ?_
 refine ⟨by kernel_rfl, _, _, rfl, hG, ?_⟩
 refine thenA_n (sr fun _ => ?_)
 refine ρo (j := 2) zv67 ?_
 refine ez (sr fun _ => ?_)
 refine ARun.makeFunc rfl rfl rfl rfl .nil (.cons (ep rfl) (.cons (ep rfl) (.cons (ep rfl) .nil))) optN ?_
 refine ρt sz67 ?_
 refine ez ?_
 refine AWP.seq ?_
 refine AWP.frzRc (cs := [.pe [.sl (l.map aCo)], .pe [.own (G.length + 0) 0]]) (F := 37) 8 hG rfl rfl rfl ?_
 refine AWP.region (fun _ => ?_)
 refine ARun.loadRc rfl rfl rfl rfl U67 rfl (ep rfl) optN ?_
 refine ρl U25 sz25 ?_
 refine mv ?_
 refine ARun.callSet (j := 0) hG rfl rfl rfl rfl cf37 (ep rfl) (.cons (ep rfl) (.cons (ep rfl) (.cons (ep rfl) .nil))) rfl (by refine try_top l hl7 hp s hi1 hi2 _ _ ?_; exact (hG.at _ _).trans rfl) rfl optN ?_
 refine ρ9 ?_
 refine ρ9 ?_
 refine ma ?_
 refine mz ?_
 refine AWP.ret ?_
 refine ρj (rs := [.tmp 4, .tmp 5]) (.cons (.tmp rfl) (.cons (.tmp rfl) .nil)) ?_
 rw [hsr, Option.isSome_map]
end Go.Proofs.YtcndnllmlhhjiaaGreatDoor
namespace Go.Proofs.YtcndnllmlhhjiaaGreatDoor
open Go.RowKit
open NumP
theorem fewO_small {l : List Co} (h : fewO l = true) : l.length ≤ 120 ∧ ∀ x, x ∈ l → x.payload.size ≤ 2000 := by
 unfold fewO smallO at h
 simp only [Bool.and_eq_true, decide_eq_true_eq, List.all_eq_true] at h
 exact ⟨h.1, fun x hx => by have := (h.2 x hx).1; omega⟩
theorem try_len {l : List Co} : ∀ (n : Nat) (s : St) (so : List ByteArray) (left : Int) (pl : List Bool) (out : List ByteArray) (pl' : List Bool), tryP l n s so left pl = some (out, pl') → out.length ≤ so.length + n := by
 intro n
 induction n with
 | zero =>
   intro s so left pl out pl' h
   unfold tryP at h
   split at h
   · cases h; exact Nat.le_refl _
   cases h
 | succ n ih =>
   intro s so left pl out pl' h
   unfold tryP at h
   split at h
   · cases h; omega
   change ((freeP l pl).findSome? _) = some (out, pl') at h
   obtain ⟨i, hi, h2⟩ := List.exists_of_findSome?_eq_some h
   split at h2
   · cases h2
   have := ih _ _ _ _ _ _ h2
   rw [List.length_append, List.length_singleton] at this; omega
theorem search_small {s : St} {l : List Co} {out : List ByteArray} {n : Nat} (hp : ∀ x, x ∈ l → x.payload.size ≤ n) (h : searchP s l = some out) : out.length ≤ 8 ∧ ∀ x, x ∈ out → x.size ≤ n := by
 have hh := h
 unfold searchP at hh
 split at hh
 · cases hh
 rename_i hn
 have hl : checkO l = 0 := Classical.byContradiction fun e => hn (.inl e)
 have hc : chkP s = 0 := Classical.byContradiction fun e => hn (.inr (.inl e))
 rw [search_mk hc hl (by omega), Option.map_eq_some_iff] at h
 obtain ⟨⟨o, pl'⟩, h1, rfl⟩ := h
 obtain ⟨h2, _⟩ := try_found hl 8 [] _ _ _ (found_zero s l) h1
 refine ⟨by have := try_len _ _ _ _ _ _ _ h1; simpa using this, fun x hx => ?_⟩
 obtain ⟨i, hi, rfl⟩ := h2.own x hx
 show (l.getD i default).payload.size ≤ n
 rw [Co_idx hi]; exact hp _ (List.getElem_mem hi)
def crP : ByteArray := ⟨#[1, 1, 1, 7, 0, 5, 0]⟩
def quP : ByteArray := ⟨#[2, 1, 7, 7, 0, 0, 0]⟩
def fiP : ByteArray := ⟨#[0, 3, 5, 0, 0]⟩
def noP : ByteArray := ⟨#[40, 0]⟩
def bookP (a : Int) (r : ByteArray) : List Co := [⟨1, 1, crP, 1, 5, fiP⟩, ⟨2, 1, quP, a, 9, r⟩]
theorem seaA : searchP ([], []) (bookP 2 noP) = some [quP, crP] := by decide +kernel
theorem seaB : searchP ([], []) (bookP 6 fiP) = some [crP, quP] := by decide +kernel
theorem seaC : searchP ([], []) (bookP 6 noP) = none := by decide +kernel
theorem ex1 : explainP ([], []) (bookP 6 fiP) [crP, quP] = 0 := by decide +kernel
theorem ex2 : explainP ([], []) (bookP 6 fiP) [quP, crP] = 33 := by decide +kernel
theorem ex3 : explainP ([], []) (bookP 2 fiP) [quP, crP] = 5 := by decide +kernel
theorem ex4 : explainP ([], []) (bookP 2 fiP) [quP] = 31 := by decide +kernel
theorem ex5 : explainP ([], []) [default] [] = 2 := by decide +kernel
theorem book_small (a : Int) (r : ByteArray) : (bookP a r).length ≤ 1000 ∧ ∀ x, x ∈ bookP a r → x.payload.size ≤ 2000 := by
 refine ⟨by show (2 : Nat) ≤ 1000; decide, fun x hx => ?_⟩
 unfold bookP at hx
 simp only [List.mem_cons, List.not_mem_nil, or_false] at hx
 rcases hx with rfl | rfl <;> (show (7 : Nat) ≤ 2000; decide)
theorem book_fn (a : Int) (r : ByteArray) : FnP Tryz.prog 23 [.int .i64 a, .str r] (.sl ((bookP a r).map aCo)) := by
 refine FnP.of Tryz.func23 rfl rfl (by simp) (by simp [bookP, AV.cells, aCo]) (fun G hG => ?_)
 have hN : NoH G.length (.sl ((bookP a r).map aCo)) := (by simp [bookP, AV.cells, aCo])
 refine sr fun _ => ?_
 refine mz (sr fun _ => ?_)
 refine ARun.build rfl rfl rfl rfl so50 (.cons (ep rfl) (.cons (ep rfl) (.cons (ep rfl) (.cons (ep rfl) (.cons (ep rfl) (.cons (ep rfl) .nil)))))) rfl rfl optN ?_
 refine mv ?_
 refine mv ?_
 refine ARun.build rfl rfl rfl rfl so50 (.cons (ep rfl) (.cons (ep rfl) (.cons (ep rfl) (.cons (ep rfl) (.cons (ep rfl) (.cons (ep rfl) .nil)))))) rfl rfl optN ?_
 refine ARun.buildSl rfl rfl rfl rfl U26 sz50 zv50 rfl (by decide) (.cons (ep rfl) (.cons (ep rfl) .nil)) rfl rfl rfl rfl (by decide) rfl rfl optN ?_
 refine mz ?_
 refine AWP.ret ?_
 refine ρi ?_
 rfl
theorem sea1 : FnP Tryz.prog 19 [aSt ([], []), .sl ((bookP 2 noP).map aCo)] (srR (some [quP, crP])) := by
 have h := search_fn (bookP 2 noP) (book_small _ _).1 (book_small _ _).2 ([], []) (Nat.zero_le _) (Nat.zero_le _)
 rwa [seaA] at h
theorem sea2 : FnP Tryz.prog 19 [aSt ([], []), .sl ((bookP 6 fiP).map aCo)] (srR (some [crP, quP])) := by
 have h := search_fn (bookP 6 fiP) (book_small _ _).1 (book_small _ _).2 ([], []) (Nat.zero_le _) (Nat.zero_le _)
 rwa [seaB] at h
theorem sea3 : FnP Tryz.prog 19 [aSt ([], []), .sl ((bookP 6 noP).map aCo)] (srR none) := by
 have h := search_fn (bookP 6 noP) (book_small _ _).1 (book_small _ _).2 ([], []) (Nat.zero_le _) (Nat.zero_le _)
 rwa [seaC] at h
theorem exF1 : FnP Tryz.prog 14 [aSt ([], []), .sl ((bookP 6 fiP).map aCo), .sl (([crP, quP] : List ByteArray).map AV.str)] (.int .i64 0) := by
 have h := explain_fn ([], []) (bookP 6 fiP) [crP, quP] (book_small _ _).1 (fun x hx => by have := (book_small _ _).2 x hx; omega) (by decide) (by intro x hx; simp only [List.mem_cons, List.not_mem_nil, or_false] at hx <;> first | (rcases hx with rfl | rfl <;> (show (7 : Nat) ≤ 2000; decide)) | (subst hx; show (7 : Nat) ≤ 2000; decide) | (cases hx; done)) (Nat.zero_le _) (Nat.zero_le _)
 rwa [ex1] at h
theorem exF2 : FnP Tryz.prog 14 [aSt ([], []), .sl ((bookP 6 fiP).map aCo), .sl (([quP, crP] : List ByteArray).map AV.str)] (.int .i64 33) := by
 have h := explain_fn ([], []) (bookP 6 fiP) [quP, crP] (book_small _ _).1 (fun x hx => by have := (book_small _ _).2 x hx; omega) (by decide) (by intro x hx; simp only [List.mem_cons, List.not_mem_nil, or_false] at hx <;> first | (rcases hx with rfl | rfl <;> (show (7 : Nat) ≤ 2000; decide)) | (subst hx; show (7 : Nat) ≤ 2000; decide) | (cases hx; done)) (Nat.zero_le _) (Nat.zero_le _)
 rwa [ex2] at h
theorem exF3 : FnP Tryz.prog 14 [aSt ([], []), .sl ((bookP 2 fiP).map aCo), .sl (([quP, crP] : List ByteArray).map AV.str)] (.int .i64 5) := by
 have h := explain_fn ([], []) (bookP 2 fiP) [quP, crP] (book_small _ _).1 (fun x hx => by have := (book_small _ _).2 x hx; omega) (by decide) (by intro x hx; simp only [List.mem_cons, List.not_mem_nil, or_false] at hx <;> first | (rcases hx with rfl | rfl <;> (show (7 : Nat) ≤ 2000; decide)) | (subst hx; show (7 : Nat) ≤ 2000; decide) | (cases hx; done)) (Nat.zero_le _) (Nat.zero_le _)
 rwa [ex3] at h
theorem exF4 : FnP Tryz.prog 14 [aSt ([], []), .sl ((bookP 2 fiP).map aCo), .sl (([quP] : List ByteArray).map AV.str)] (.int .i64 31) := by
 have h := explain_fn ([], []) (bookP 2 fiP) [quP] (book_small _ _).1 (fun x hx => by have := (book_small _ _).2 x hx; omega) (by decide) (by intro x hx; simp only [List.mem_cons, List.not_mem_nil, or_false] at hx <;> first | (rcases hx with rfl | rfl <;> (show (7 : Nat) ≤ 2000; decide)) | (subst hx; show (7 : Nat) ≤ 2000; decide) | (cases hx; done)) (Nat.zero_le _) (Nat.zero_le _)
 rwa [ex4] at h
theorem exF5 : FnP Tryz.prog 14 [aSt ([], []), .sl ([default].map aCo), .sl (([] : List ByteArray).map AV.str)] (.int .i64 2) := by
 have h := explain_fn ([], []) [default] [] (by decide) (by intro x hx; obtain rfl := List.mem_singleton.1 hx; exact Nat.zero_le _) (by decide) (by intro x hx; simp only [List.mem_cons, List.not_mem_nil, or_false] at hx <;> first | (rcases hx with rfl | rfl <;> (show (7 : Nat) ≤ 2000; decide)) | (subst hx; show (7 : Nat) ≤ 2000; decide) | (cases hx; done)) (Nat.zero_le _) (Nat.zero_le _)
 rwa [ex5] at h
theorem sameF_fn (l : List Co) (pl : List Bool) (b : List Int) (hl : l.length ≤ 1000) : FnP Tryz.prog 16 [.sl (freeT l pl l.length), .sl (b.map (AV.int .i64))] (.bool (decide ((freeP l pl).map (fun (i : Nat) => (i : Int)) = b))) := by
 have hf := List.length_filter_le (freeAt l pl) (List.range l.length)
 rw [List.length_range] at hf
 have h := sameI_fn ((freeP l pl).map (fun (i : Nat) => (i : Int))) b (by rw [List.length_map]; show ((List.range l.length).filter (freeAt l pl)).length ≤ _; omega)
 rw [List.map_map] at h
 exact h
theorem awake_fn  : FnP Tryz.prog 10 [] (.bool true) := by
 refine FnP.of Tryz.func10 rfl rfl (by simp) (by simp [AV.cells, aIn, aOut, aLn, aCl, aRp, Stk.aIt, Ssn.aSe, aSt, aCo]) (fun G hG => ?_)
 have hN : NoH G.length (.bool true) := (by simp [AV.cells, aIn, aOut, aLn, aCl, aRp, Stk.aIt, Ssn.aSe, aSt, aCo])
 refine sr fun _ => ?_
 refine mz (sr fun _ => ?_)
 refine ρo (j := 0) zv25 ?_
 refine ez ?_
 refine AWP.seq ?_
 refine AWP.frzBox 1 hG rfl rfl rfl ?_
 refine ρE mixed (fun _ => ?_)
 refine ρl U25 sz25 ?_
 refine ρh cf23 (fun hg => book_fn 2 noP) ?_
 refine ρh cf19 (fun hg => sea1) ?_
 refine mv ?_
 refine ρ9 ?_
 refine ρ9 ?_
 refine ma ?_
 refine ma ?_
 refine ⟨by kernel_rfl, _, _, rfl, hG, ?_⟩
 refine thenA_n (AWP.seq ?_)
 refine ρE mixed (fun _ => ?_)
 refine ρl U25 sz25 ?_
 refine ρh cf23 (fun hg => book_fn 6 fiP) ?_
 refine ρh cf19 (fun hg => sea2) ?_
 refine mv ?_
 refine ρ9 ?_
 refine ρ9 ?_
 refine ma ?_
 refine ma ?_
 refine ⟨by kernel_rfl, _, _, rfl, hG, ?_⟩
 refine thenA_n (AWP.seq ?_)
 refine ρE mixed (fun _ => ?_)
 refine ρl U25 sz25 ?_
 refine ρh cf23 (fun hg => book_fn 6 noP) ?_
 refine ρh cf19 (fun hg => sea3) ?_
 refine mv ?_
 refine ρ9 ?_
 refine ρ9 ?_
 refine ma ?_
 refine ma ?_
 refine ⟨by kernel_rfl, _, _, rfl, hG, ?_⟩
 refine thenA_n (AWP.seq ?_)
 refine ρE mixed (fun _ => ?_)
 refine mv ?_
 refine mv ?_
 refine ρg ?_
 refine ARun.buildSl rfl rfl rfl rfl U27 sz9 zv9 rfl (by decide) (.cons (ep rfl) (.cons (ep rfl) .nil)) rfl rfl rfl rfl (by decide) rfl rfl optS ?_
 refine ARun.call rfl rfl rfl rfl cf21 (ep rfl) (.cons (Ev.opt rfl (fun h => h)) (.cons (Ev.opt rfl (fun h => h)) .nil)) rfl (fun hg => sameT_fn [quP, crP] [quP, crP] (by decide)) optS ?_
 refine ρ0 ?_
 refine mv ?_
 refine ρg ?_
 refine ρ0 ?_
 refine mv ?_
 refine ρg ?_
 refine ARun.buildSl rfl rfl rfl rfl U27 sz9 zv9 rfl (by decide) (.cons (ep rfl) (.cons (ep rfl) .nil)) rfl rfl rfl rfl (by decide) rfl rfl optS ?_
 refine ARun.call rfl rfl rfl rfl cf21 (ep rfl) (.cons (Ev.opt rfl (fun h => h)) (.cons (Ev.opt rfl (fun h => h)) .nil)) rfl (fun hg => sameT_fn [crP, quP] [crP, quP] (by decide)) optS ?_
 refine ρ0 ?_
 refine mv ?_
 refine ρg ?_
 refine ARun.not rfl rfl rfl rfl (Ev.opt rfl (fun h => h)) optS ?_
 refine ρ0 ?_
 refine mv ?_
 refine ARun.loadPeA rfl rfl rfl rfl U25 rfl sz25 (ep rfl) rfl optS ?_
 refine ARun.call rfl rfl rfl rfl cf23 (ep rfl) (.cons (ep rfl) (.cons (ep rfl) .nil)) rfl (fun hg => book_fn 6 fiP) optS ?_
 refine ρg ?_
 refine ARun.call rfl rfl rfl rfl cf14 (ep rfl) (.cons (Ev.opt rfl (fun h => h)) (.cons (Ev.opt rfl (fun h => h)) (.cons (Ev.opt rfl (fun h => h)) .nil))) rfl (fun hg => exF1) optS ?_
 refine ρb ?_
 refine ρ0 ?_
 refine mv ?_
 refine ARun.loadPeA rfl rfl rfl rfl U25 rfl sz25 (ep rfl) rfl optS ?_
 refine ARun.call rfl rfl rfl rfl cf23 (ep rfl) (.cons (ep rfl) (.cons (ep rfl) .nil)) rfl (fun hg => book_fn 6 fiP) optS ?_
 refine ρg ?_
 refine ARun.call rfl rfl rfl rfl cf14 (ep rfl) (.cons (Ev.opt rfl (fun h => h)) (.cons (Ev.opt rfl (fun h => h)) (.cons (Ev.opt rfl (fun h => h)) .nil))) rfl (fun hg => exF2) optS ?_
 refine ρb ?_
 refine ρ0 ?_
 refine mv ?_
 refine ARun.loadPeA rfl rfl rfl rfl U25 rfl sz25 (ep rfl) rfl optS ?_
 refine ARun.call rfl rfl rfl rfl cf23 (ep rfl) (.cons (ep rfl) (.cons (ep rfl) .nil)) rfl (fun hg => book_fn 2 fiP) optS ?_
 refine ρg ?_
 refine ARun.call rfl rfl rfl rfl cf14 (ep rfl) (.cons (Ev.opt rfl (fun h => h)) (.cons (Ev.opt rfl (fun h => h)) (.cons (Ev.opt rfl (fun h => h)) .nil))) rfl (fun hg => exF3) optS ?_
 refine ρb ?_
 refine ρ0 ?_
 refine mv ?_
 refine ARun.loadPeA rfl rfl rfl rfl U25 rfl sz25 (ep rfl) rfl optS ?_
 refine ARun.call rfl rfl rfl rfl cf23 (ep rfl) (.cons (ep rfl) (.cons (ep rfl) .nil)) rfl (fun hg => book_fn 2 fiP) optS ?_
 refine ρg ?_
 refine ARun.cutSl (a := 0) (b := 1) rfl rfl rfl rfl U27 sz9 (Ev.opt rfl (fun h => h)) (fun _ => (by simp [AV.cells])) (fun _ => rfl) ⟨_, _, (ep rfl), fun hg => rfl⟩ (fun hg => by decide) rfl optS ?_
 refine ARun.call rfl rfl rfl rfl cf14 (ep rfl) (.cons (Ev.opt rfl (fun h => h)) (.cons (Ev.opt rfl (fun h => h)) (.cons (Ev.opt rfl (fun h => h)) .nil))) rfl (fun hg => exF4) optS ?_
 refine ρb ?_
 refine ρ0 ?_
 refine mv ?_
 refine ρg ?_
 refine ARun.call rfl rfl rfl rfl cf11 (ep rfl) (.cons (Ev.opt rfl (fun h => h)) (.cons (ep rfl) .nil)) rfl (fun hg => first_fn [quP, crP] crP (by decide)) optS ?_
 refine ρb ?_
 refine ρ0 ?_
 refine mv ?_
 refine ρg ?_
 refine ARun.call rfl rfl rfl rfl cf11 (ep rfl) (.cons (Ev.opt rfl (fun h => h)) (.cons (ep rfl) .nil)) rfl (fun hg => first_fn [quP, crP] ⟨#[120]⟩ (by decide)) optS ?_
 refine ρb ?_
 refine ρ0 ?_
 refine mv ?_
 refine ARun.call rfl rfl rfl rfl cf23 (ep rfl) (.cons (ep rfl) (.cons (ep rfl) .nil)) rfl (fun hg => book_fn 6 fiP) optS ?_
 refine ARun.call rfl rfl rfl rfl cf17 (ep rfl) (.cons (Ev.opt rfl (fun h => h)) (.cons (ep rfl) .nil)) rfl (fun hg => free_fn (bookP 6 fiP) [] (by decide) (by decide)) optS ?_
 refine ARun.buildSl rfl rfl rfl rfl U40 sz3 zv3 rfl (by decide) (.cons (ep rfl) .nil) rfl rfl rfl rfl (by decide) rfl rfl optS ?_
 refine ARun.call rfl rfl rfl rfl cf16 (ep rfl) (.cons (Ev.opt rfl (fun h => h)) (.cons (Ev.opt rfl (fun h => h)) .nil)) rfl (fun hg => sameF_fn (bookP 6 fiP) [] [0] (by decide)) optS ?_
 refine ρ0 ?_
 refine mv ?_
 refine ARun.loadPeA rfl rfl rfl rfl U25 rfl sz25 (ep rfl) rfl optS ?_
 refine ARun.build rfl rfl rfl rfl so50 .nil rfl rfl optS ?_
 refine ARun.buildSl rfl rfl rfl rfl U26 sz50 zv50 rfl (by decide) (.cons (Ev.opt rfl (fun h => h)) .nil) rfl rfl rfl rfl (by decide) rfl rfl optS ?_
 refine ARun.call rfl rfl rfl rfl cf14 (ep rfl) (.cons (Ev.opt rfl (fun h => h)) (.cons (Ev.opt rfl (fun h => h)) (.cons (ep rfl) .nil))) rfl (fun hg => exF5) optS ?_
 refine ρb ?_
 refine ρ0 ?_
 refine ma ?_
 refine ⟨by kernel_rfl, _, _, rfl, hG, ?_⟩
 refine thenA_n (AWP.ret ?_)
 refine ρi ?_
 refine congrArg AV.bool ?_
 decide +kernel
theorem finds_of {s : St} {l : List Co} {n : Int} (h : (!fewS s || !fewO l || decide (n < ((l.map aCo).length : Int))) = false) : (s.1.length ≤ 60 ∧ s.2.length ≤ 60) ∧ (l.length ≤ 120 ∧ ∀ x, x ∈ l → x.payload.size ≤ 2000) ∧ (l.length : Int) ≤ n := by
 simp only [Bool.or_eq_false_iff, Bool.not_eq_false', decide_eq_false_iff_not, List.length_map] at h
 have h1 := fewS_facts h.1.1
 exact ⟨⟨h1.1, h1.2.1⟩, fewO_small h.1.2, by omega⟩
end Go.Proofs.YtcndnllmlhhjiaaGreatDoor
namespace Go.Proofs.YtcndnllmlhhjiaaGreatDoor
open NumP
structure Nd where
 s : St
 so : List ByteArray
 pl : List Bool
 left : Int
instance : Inhabited Nd := ⟨⟨([], []), [], [], 0⟩⟩
def kidN (l : List Co) (x : Nd) (i : Nat) : Option Nd :=
 if endedN (l.getD i default) = 1 ∧ (applyP x.s (payN l i)).2 ≠ (l.getD i default).reply then none else
 some ⟨(applyP x.s (payN l i)).1, x.so ++ [payN l i], x.pl.set i true, x.left - endedN (l.getD i default)⟩
def kidsN (l : List Co) (x : Nd) (k : Nat) : List Nd := ((freeP l x.pl).drop k).filterMap (kidN l x)
def dfsN (l : List Co) (x : Nd) : Option (List ByteArray) := (tryP l (openN l x.pl) x.s x.so x.left x.pl).map (·.1)
theorem tryP_zero (l : List Co) (s : St) (so : List ByteArray) (left : Int) (pl : List Bool) : tryP l 0 s so left pl = if left = 0 then some (so, pl) else none := by
 unfold tryP; rfl
theorem tryP_succ (l : List Co) (n : Nat) (s : St) (so : List ByteArray) (left : Int) (pl : List Bool) : tryP l (n + 1) s so left pl = if left = 0 then some (so, pl) else (freeP l pl).findSome? fun i =>
     if endedN (l.getD i default) = 1 ∧ (applyP s (payN l i)).2 ≠ (l.getD i default).reply then none else
     tryP l n (applyP s (payN l i)).1 (so ++ [payN l i]) (left - endedN (l.getD i default)) (pl.set i true) := by
 conv => lhs; unfold tryP
theorem free_zero {l : List Co} {pl : List Bool} (hl : pl.length = l.length) (h : openN l pl = 0) : freeP l pl = [] := by
 cases e : freeP l pl with
 | nil => rfl
 | cons i is =>
   obtain ⟨h1, h2, _⟩ := (mem_free hl).1 (show i ∈ freeP l pl by rw [e]; exact List.mem_cons_self)
   have := open_set hl h1 h2
   omega
theorem findSome_congr {α β : Type} {f g : α → Option β} {l : List α} (h : ∀ x, x ∈ l → f x = g x) : l.findSome? f = l.findSome? g := by
 induction l with
 | nil => rfl
 | cons x l ih => rw [List.findSome?_cons, List.findSome?_cons, h x List.mem_cons_self, ih (fun y hy => h y (List.mem_cons_of_mem _ hy))]
theorem findSome_fm {α β γ : Type} (f : α → Option β) (g : β → Option γ) (l : List α) : (l.filterMap f).findSome? g = l.findSome? fun x => (f x).bind g := by
 induction l with
 | nil => rfl
 | cons x l ih =>
   rw [List.filterMap_cons, List.findSome?_cons]
   cases e : f x with
   | none => exact ih
   | some y => rw [List.findSome?_cons, ih]; rfl
theorem map_findSome {α β γ : Type} (f : α → Option β) (g : β → γ) (l : List α) : (l.findSome? f).map g = l.findSome? fun x => (f x).map g := by
 induction l with
 | nil => rfl
 | cons x l ih =>
   rw [List.findSome?_cons, List.findSome?_cons]
   cases e : f x with
   | none => exact ih
   | some y => rfl
theorem try_fuel {l : List Co} : ∀ (n m : Nat) (s : St) (so : List ByteArray) (left : Int) (pl : List Bool), pl.length = l.length → openN l pl ≤ n → openN l pl ≤ m → tryP l n s so left pl = tryP l m s so left pl := by
 intro n
 induction n with
 | zero =>
   intro m s so left pl hl h1 h2
   cases m with
   | zero => rfl
   | succ m => rw [tryP_zero, tryP_succ, free_zero hl (by omega)]; rfl
 | succ n ih =>
   intro m s so left pl hl h1 h2
   cases m with
   | zero => rw [tryP_zero, tryP_succ, free_zero hl (by omega)]; rfl
   | succ m =>
     rw [tryP_succ, tryP_succ]
     congr 1
     refine findSome_congr fun i hi => ?_
     obtain ⟨k1, k2, _⟩ := (mem_free hl).1 hi
     have k3 := open_set hl k1 k2
     congr 1
     exact ih m _ _ _ _ (by rw [List.length_set]; exact hl) (by omega) (by omega)
theorem dfs_zero {l : List Co} {x : Nd} (h : x.left = 0) : dfsN l x = some x.so := by
 unfold dfsN; unfold tryP; rw [if_pos h]; rfl
theorem dfs_kids {l : List Co} {x : Nd} (hl : x.pl.length = l.length) (h : x.left ≠ 0) : dfsN l x = (kidsN l x 0).findSome? (dfsN l) := by
 unfold kidsN
 rw [List.drop_zero]
 conv => lhs; unfold dfsN
 cases e : openN l x.pl with
 | zero => rw [tryP_zero, if_neg h, free_zero hl e]; rfl
 | succ n =>
   rw [tryP_succ, if_neg h, map_findSome, findSome_fm]
   refine findSome_congr fun i hi => ?_
   obtain ⟨h1, h2, _⟩ := (mem_free hl).1 hi
   have h3 := open_set hl h1 h2
   unfold kidN
   by_cases c : endedN (l.getD i default) = 1 ∧ (applyP x.s (payN l i)).2 ≠ (l.getD i default).reply
   · rw [if_pos c, if_pos c]; rfl
   · rw [if_neg c, if_neg c]
     show _ = (tryP l (openN l (x.pl.set i true)) _ _ _ _).map _
     rw [show openN l (x.pl.set i true) = n by omega]
def wtN : Nat → Nat
 | 0 => 1
 | n + 1 => 1 + (n + 1) * wtN n
theorem wt_step (n : Nat) : wtN n ≤ wtN (n + 1) := by
 have h : 1 * wtN n ≤ (n + 1) * wtN n := Nat.mul_le_mul_right _ (by omega)
 rw [Nat.one_mul] at h
 rw [wtN]; omega
theorem wt_mono {n m : Nat} (h : n ≤ m) : wtN n ≤ wtN m := by
 induction m with
 | zero => rw [Nat.le_zero.1 h]; exact Nat.le_refl _
 | succ m ih =>
   by_cases e : n = m + 1
   · rw [e]; exact Nat.le_refl _
   · exact Nat.le_trans (ih (by omega)) (wt_step m)
theorem wt_pos (n : Nat) : 1 ≤ wtN n := wt_mono (Nat.zero_le n)
def sumW (l : List Co) (st : List Nd) : Nat := (st.map fun x => wtN (openN l x.pl)).sum
theorem sumW_cons (l : List Co) (x : Nd) (st : List Nd) : sumW l (x :: st) = wtN (openN l x.pl) + sumW l st := by unfold sumW; rw [List.map_cons, List.sum_cons]
theorem sumW_app (l : List Co) (a b : List Nd) : sumW l (a ++ b) = sumW l a + sumW l b := by unfold sumW; rw [List.map_append, List.sum_append]
theorem sumW_le {l : List Co} {w : Nat} : ∀ {st : List Nd}, (∀ y, y ∈ st → wtN (openN l y.pl) ≤ w) → sumW l st ≤ st.length * w := by
 intro st
 induction st with
 | nil => intro _; exact Nat.zero_le _
 | cons x st ih =>
   intro h
   rw [sumW_cons, List.length_cons, Nat.add_mul, Nat.one_mul]
   have := h x List.mem_cons_self
   have := ih (fun y hy => h y (List.mem_cons_of_mem _ hy))
   omega
theorem free_len {l : List Co} {pl : List Bool} (hl : pl.length = l.length) : (freeP l pl).length ≤ openN l pl := by
 unfold freeP openN cntP
 rw [← List.countP_eq_length_filter, ← List.countP_eq_length_filter]
 refine List.countP_mono_left fun i hi h => ?_
 have hlt := List.mem_range.1 hi
 unfold freeAt at h
 rw [Bool.and_eq_true, done_eq hl hlt] at h
 exact h.1
def WFN (l : List Co) (x : Nd) : Prop := x.pl.length = l.length ∧ x.so.length + openN l x.pl ≤ 7 ∧ (openN l x.pl : Int) - 100 ≤ x.left ∧ x.left ≤ 100 ∧ x.s.1.length ≤ 60 ∧ x.s.2.length ≤ 60
theorem ended_rngN (o : Co) : 0 ≤ endedN o ∧ endedN o ≤ 1 := by unfold endedN; split <;> omega
theorem kid_open {l : List Co} {x y : Nd} {i : Nat} (hl : x.pl.length = l.length) (hi : i ∈ freeP l x.pl) (h : kidN l x i = some y) : openN l x.pl = openN l y.pl + 1 := by
 unfold kidN at h
 split at h
 · cases h
 · cases h
   obtain ⟨h1, h2, _⟩ := (mem_free hl).1 hi
   exact open_set hl h1 h2
theorem kid_wf {l : List Co} {x y : Nd} {i : Nat} (hp : ∀ o, o ∈ l → o.payload.size ≤ 2000) (hx : WFN l x) (hi : i ∈ freeP l x.pl) (h : kidN l x i = some y) : WFN l y := by
 have ho := kid_open hx.1 hi h
 obtain ⟨w1, w2, w3, w4, w5, w6⟩ := hx
 have he := ended_rngN (l.getD i default)
 obtain ⟨h1, _, _⟩ := (mem_free w1).1 hi
 have hpy : (payN l i).size ≤ 1000000 := by
   have := hp _ (show l.getD i default ∈ l by rw [List.getD, List.getElem?_eq_getElem h1]; exact List.getElem_mem h1)
   show (l.getD i default).payload.size ≤ _; omega
 have ha := apply_len x.s (payN l i) hpy w5 w6
 unfold kidN at h
 split at h
 · cases h
 · cases h
   refine ⟨by rw [List.length_set]; exact w1, ?_, ?_, ?_, ha.1, ha.2⟩
   · show (x.so ++ [payN l i]).length + _ ≤ 7
     rw [List.length_append, List.length_singleton]
     change openN l x.pl = openN l (x.pl.set i true) + 1 at ho
     show _ + openN l (x.pl.set i true) ≤ 7
     omega
   · change openN l x.pl = openN l (x.pl.set i true) + 1 at ho
     show (openN l (x.pl.set i true) : Int) - 100 ≤ x.left - endedN (l.getD i default)
     omega
   · show x.left - endedN (l.getD i default) ≤ 100
     omega
theorem kids_mem {l : List Co} {x y : Nd} {k : Nat} (h : y ∈ kidsN l x k) : ∃ i, i ∈ freeP l x.pl ∧ kidN l x i = some y := by
 unfold kidsN at h
 obtain ⟨i, h1, h2⟩ := List.mem_filterMap.1 h
 exact ⟨i, List.mem_of_mem_drop h1, h2⟩
theorem kids_sum {l : List Co} {x : Nd} (hl : x.pl.length = l.length) : sumW l (kidsN l x 0) + 1 ≤ wtN (openN l x.pl) := by
 cases e : openN l x.pl with
 | zero =>
   unfold kidsN
   rw [free_zero hl e]
   exact Nat.le_refl 1
 | succ n =>
   have h1 : sumW l (kidsN l x 0) ≤ (kidsN l x 0).length * wtN n := sumW_le fun y hy => by
     obtain ⟨i, hi, hy⟩ := kids_mem hy
     have := kid_open hl hi hy
     rw [show openN l y.pl = n by omega]; exact Nat.le_refl _
   have h2 : (kidsN l x 0).length ≤ n + 1 := by
     unfold kidsN
     rw [List.drop_zero]
     have a := List.length_filterMap_le (kidN l x) (freeP l x.pl)
     have b := free_len hl
     omega
   have h3 := Nat.mul_le_mul_right (wtN n) h2
   rw [wtN]; omega
theorem kids_some {l : List Co} {x y : Nd} {k : Nat} (hk : k < (freeP l x.pl).length) (h : kidN l x ((freeP l x.pl).getD k default) = some y) : kidsN l x k = y :: kidsN l x (k + 1) := by
 unfold kidsN
 have h' : kidN l x (freeP l x.pl)[k] = some y := by rw [List.getD, List.getElem?_eq_getElem hk] at h; exact h
 rw [List.drop_eq_getElem_cons hk, List.filterMap_cons_some h']
theorem kids_none {l : List Co} {x : Nd} {k : Nat} (hk : k < (freeP l x.pl).length) (h : kidN l x ((freeP l x.pl).getD k default) = none) : kidsN l x k = kidsN l x (k + 1) := by
 unfold kidsN
 have h' : kidN l x (freeP l x.pl)[k] = none := by rw [List.getD, List.getElem?_eq_getElem hk] at h; exact h
 rw [List.drop_eq_getElem_cons hk, List.filterMap_cons_none h']
theorem kids_all (l : List Co) (x : Nd) : kidsN l x (freeP l x.pl).length = [] := by
 unfold kidsN; rw [List.drop_length]; rfl
def findN (l : List Co) (st : List Nd) : Option (List ByteArray) := st.findSome? (dfsN l)
theorem find_top {l : List Co} {x : Nd} {st : List Nd} (h : x.left = 0) : findN l (x :: st) = some x.so := by
 unfold findN; rw [List.findSome?_cons, dfs_zero h]
theorem find_next {l : List Co} {x : Nd} {st : List Nd} (hl : x.pl.length = l.length) (h : x.left ≠ 0) : findN l (x :: st) = findN l (kidsN l x 0 ++ st) := by
 unfold findN; rw [List.findSome?_cons, dfs_kids hl h, List.findSome?_append]
 cases (kidsN l x 0).findSome? (dfsN l) <;> rfl
def rootN (s : St) (l : List Co) : Nd := ⟨s, [], List.replicate l.length false, (cntP (endB l) l.length : Int)⟩
theorem repl_getD (n i : Nat) : (List.replicate n false).getD i false = false := by
 rw [List.getD, List.getElem?_replicate]; split <;> rfl
theorem root_left (l : List Co) : (cntP (endB l) l.length : Int) = leftN l (List.replicate l.length false) := by
 unfold leftN
 exact congrArg Nat.cast (cnt_same _ fun j hj => by rw [repl_getD]; simp)
theorem root_wf {s : St} {l : List Co} (h7 : l.length ≤ 7) (h1 : s.1.length ≤ 60) (h2 : s.2.length ≤ 60) : WFN l (rootN s l) := by
 have ho := cnt_le (fun i => !(List.replicate l.length false).getD i false) l.length
 have hc := cnt_le (endB l) l.length
 refine ⟨List.length_replicate .., ?_, ?_, ?_, h1, h2⟩
 · show 0 + openN l (List.replicate l.length false) ≤ 7
   unfold openN; omega
 · show (openN l (List.replicate l.length false) : Int) - 100 ≤ (cntP (endB l) l.length : Int)
   unfold openN; omega
 · show (cntP (endB l) l.length : Int) ≤ 100
   omega
theorem root_sum {s : St} {l : List Co} (h7 : l.length ≤ 7) : 0 + sumW l [rootN s l] ≤ 13700 := by
 have ho := cnt_le (fun i => !(List.replicate l.length false).getD i false) l.length
 have h : wtN (openN l (List.replicate l.length false)) ≤ wtN 7 := wt_mono (by unfold openN; omega)
 have e7 : wtN 7 = 13700 := by decide
 rw [sumW_cons]
 show 0 + (wtN (openN l (List.replicate l.length false)) + 0) ≤ 13700
 omega
theorem root_find {s : St} {l : List Co} (hc : chkP s = 0) (hl : checkO l = 0) (h7 : l.length ≤ 7) : findN l [rootN s l] = searchP s l := by
 have ho := cnt_le (fun i => !(List.replicate l.length false).getD i false) l.length
 have e : findN l [rootN s l] = dfsN l (rootN s l) := by
   unfold findN; rw [List.findSome?_cons]; cases dfsN l (rootN s l) <;> rfl
 rw [e, search_mk hc hl h7, ← root_left]
 unfold dfsN
 show (tryP l (openN l (List.replicate l.length false)) s [] (cntP (endB l) l.length : Int) (List.replicate l.length false)).map _ = _
 rw [try_fuel (openN l (List.replicate l.length false)) 8 _ _ _ _ (List.length_replicate ..) (Nat.le_refl _) (by unfold openN; omega)]
theorem sum_pos {l : List Co} {x : Nd} {st : List Nd} : 1 ≤ sumW l (x :: st) := by
 rw [sumW_cons]; have := wt_pos (openN l x.pl); omega
end Go.Proofs.YtcndnllmlhhjiaaGreatDoor
namespace Go.Proofs.YtcndnllmlhhjiaaGreatDoor
open Go.RowKit
section
variable {P : Program} {ops : Array Oper} {n m : Nat} {QQ : List Kd → Sl → List AO → Prop} {l : List Oper} {ks : List Kd} {σ : Sl} {G L H : List AO} {o : Oper} {gd : Bool}
theorem ARun.on {q c : Nat} {Z : AO} {X Y : AV} {d : Option Tmp} (hd : o.dst = d) (hn : dstLt n d = true) (hg : gdS ops σ o.guard = some true) (hY : optA o.guard true X = Y) (hq : q < H.length)
   (h : ∀ H0 : List AO, H0[q]? = H[q]? → ∀ (a : Act) (W : World) (β : List Hd), HRel β H0 W → LRep β W a σ (o.looksAt ops) → ∃ v W' β', (execOp a.eval o).run P W = .ok (.value v) W' ∧ Ext β W β' W' ∧ HRel β' (H0.set q Z) W' ∧ VRep β' W' v X)
   (hr : ARun P ops n QQ l (ks ++ [.on q c]) (putS σ d Y) (H.set q Z)) : ARun P ops n QQ (o :: l) ks σ H := by
 subst hd; subst hY
 exact ⟨.on q c, _, H.set q Z, hn, ⟨Z, hq, rfl, fun H0 h0 => OpStep.val hg (.inl rfl) (fun _ => trivial) fun _ a W β hHr hl => h H0 h0 a W β hHr hl⟩, hr⟩
theorem lt_at {j : Nat} {x : AO} (hm : GOK m G) (h : L[j]? = some x) : m + j < (G ++ L).length := by
 have := (List.getElem?_eq_some_iff.1 h).1
 rw [List.length_append, hm.1]; omega
theorem ARun.litOn {t e : TypeId} {j g z : Nat} {zv : Value} {Y : AV} {d : Option Tmp} {L' : List AO} (hm : GOK m G) (ho : o.op = .buildSlice t 0 #[]) (hd : o.dst = d) (hn : dstLt n d = true) (hG : gdS ops σ o.guard = some true)
   (hu : P.underlying t = some (.slice e)) (hz : Sz P e z) (hzv : Zv P e zv) (hH : L[j]? = some (.row g e z [])) (hY : optA o.guard true (.own (m + j) (g + 1)) = Y) (hL : L.set j (.row (g + 1) e z []) = L')
   (hr : ARun P ops n QQ l (ks ++ [.on (m + j) j]) (putS σ d Y) (G ++ L')) : ARun P ops n QQ (o :: l) ks σ (G ++ L) := by
 refine ARun.on (Z := .row (g + 1) e z []) hd hn hG hY (lt_at hm hH) (fun H0 h0 a W β hHr hl => ?_) (by rw [hm.set, hL]; exact hr)
 rw [hm.at, hH] at h0
 have hlt : m + j < β.length := by rw [hHr.len]; exact (List.getElem?_eq_some_iff.1 h0).1
 have hg0 : β[m + j]? = some β[m + j] := List.getElem?_eq_getElem hlt
 have hob := hHr.ob _ _ _ h0 hg0
 cases hb : β[m + j] <;> rw [hb] at hob hg0 <;> first | exact hob.elim | skip
 rename_i v g2
 obtain ⟨e1, us, h2, h3, h4⟩ := hob
 subst e1
 have hbl : Below W.heap.size W (W.alloc (.cells #[] e)) := (Below.refl _ _).alloc (Nat.le_refl _) _
 have hgr := hHr.grow hg0 (w' := W.alloc (.cells #[] e)) (v' := .slice (some ⟨W.heap.size, 0, none⟩) 0 0) ⟨hbl.os, hbl.tape, hbl.output, hbl.size, fun k hk _ => hbl.block k hk⟩ (.inr rfl) (o := .row (_ + 1) e z []) (fun _ =>
   ⟨rfl, [], ⟨by simp, .inr ⟨W.heap.size, 0, #[], rfl, Nat.zero_le _, heap_alloc_new W _, Nat.le_refl _, Nat.zero_le _, by simp, by simp⟩⟩, (fun x hx => by cases hx), fun q u y a1 => by simp at a1⟩)
 refine ⟨.slice (some ⟨W.heap.size, 0, none⟩) 0 0, _, _, ?_, hgr.1, hgr.2, .own _ _ _ (by rw [List.length_set]; exact hlt) fun u g' hb2 => ?_⟩
 · have e2 : Array.range 0 = #[] := rfl
   have e3 : Instr.fill (fun i => some (i * z, z)) #[] [] = some #[] := rfl
   simp [execOp, ho, Instr.buildSlice, run_underlying hu, hz.run, e2, e3, newRow]
 rw [List.getElem?_set_self hlt] at hb2
 cases hb2; exact ⟨Nat.le_refl _, fun _ => rfl⟩
theorem ARun.appendOn {x y : Operand} {t e : TypeId} {j g z by_ : Nat} {zv : Value} {xs ys zs : List AV} {L' : List AO} {d : Option Tmp} {Y : AV} (hmG : GOK m G) (ho : o.op = .call { callee := .builtin .append, args := #[x, y], argTypes := #[t, t] }) (hd : o.dst = d) (hn : dstLt n d = true) (hg : gdS ops σ o.guard = some true)
   (hu : P.underlying t = some (.slice e)) (hT : Ti P e zv z by_) (hzs : zv.cells.size = z) (hz0 : 0 < z)
   (hx : Ev true σ x (.own (m + j) g)) (hy : Ev true σ y (.sl ys)) (hH : L[j]? = some (.row g e z xs)) (hys : (ys.all fun y => Nat.beq y.cells.length z && y.cells.all AV.one) = true)
   (hm : xs.length + ys.length ≤ maxLen) (hby : (xs.length + ys.length) * by_ ≤ 140737488355328) (hzz : xs ++ ys = zs) (hY : optA o.guard true (.own (m + j) (g + 1)) = Y) (hL : L.set j (.row (g + 1) e z zs) = L')
   (hr : ARun P ops n QQ l (ks ++ [.on (m + j) j]) (putS σ d Y) (G ++ L')) : ARun P ops n QQ (o :: l) ks σ (G ++ L) :=
 ARun.on (Z := .row (g + 1) e z zs) hd hn hg hY (lt_at hmG hH) (fun H0 h0 a W β hHr hl => append_step ho hu hT hzs hz0 hx hy (by rw [h0, hmG.at]; exact hH) hys hm hby hzz a W β hHr hl) (by rw [hmG.set, hL]; exact hr)
theorem ARun.makeSlP {x y : Operand} {t e : TypeId} {q by_ : Nat} {i : Int} {zv : Value} {Y : AV} {d : Option Tmp} (ho : o.op = .makeSlice t x y) (hd : o.dst = d) (hn : dstLt n d = true) (hg : gdS ops σ o.guard = some gd)
   (hu : P.underlying t = some (.slice e)) (hi : Ti P e zv 1 by_) (hz : zv.cells = #[zv]) (h8 : by_ ≤ 8) (hx : Ev gd σ x (.int .i64 i)) (hy : Ev gd σ y (.int .i64 i)) (hq : i = (q : Int)) (hb : q ≤ 1000000)
   (hY : optA o.guard gd (.sl (List.replicate q (cAV zv))) = Y)
   (hr : ARun P ops n QQ l (ks ++ [.pure]) (putS σ d Y) H) : ARun P ops n QQ (o :: l) ks σ H := by
 refine ARun.valH hd hn hg hY (fun hg a W β hβ hl => ?_) hr
 have h1 := (hx.rep hg hl (by simp [ho, Op.operands])).int_inv
 have h2 := (hy.rep hg hl (by simp [ho, Op.operands])).int_inv
 have hrun := run_make_row' (P := P) t e zv by_ hu hi hz .i64 .i64 q (by have := Nat.mul_le_mul h8 hb; omega) (by omega) W
 have hmc : (madeCells #[zv] q).toList = List.replicate q zv := made_one zv q
 have hco : ∀ (k : Nat) (X : AV), X.cells = [X] → (List.replicate k X).flatMap AV.cells = List.replicate k X := by
   intro k X hX; induction k with
   | zero => rfl
   | succ k ih => rw [List.replicate_succ, List.flatMap_cons, ih, hX]; rfl
 have hc1 : (cAV zv).cells = [cAV zv] := by unfold cAV; split <;> rfl
 refine ⟨.slice (some ⟨W.heap.size, 0, none⟩) q q, W.alloc (.cells (madeCells #[zv] q) e), by simp [execOp, ho, h1, h2, hq, hrun], (Below.refl _ _).alloc (Nat.le_refl _) _, ?_⟩
 have hcr : CRep β W (madeCells #[zv] q) (List.replicate q (cAV zv)) := by
   refine ⟨by rw [← Array.length_toList, hmc]; simp, fun k u y a c => ?_⟩
   have e1 := List.eq_of_mem_replicate (List.mem_of_getElem? c)
   have a' : (madeCells #[zv] q).toList[k]? = some u := by rw [Array.getElem?_toList]; exact a
   rw [hmc] at a'
   have e2 := List.eq_of_mem_replicate (List.mem_of_getElem? a')
   rw [e1, e2]; exact cAV_rep _ _ _
 have := CRep.newrow (t := e) (xs := List.replicate q (cAV zv)) (z := 1) hβ hcr (hco _ _ hc1).symm (fun x hx => by rw [List.eq_of_mem_replicate hx, hc1]; rfl) (by rw [List.length_replicate]; unfold maxLen; omega)
 rw [List.length_replicate] at this
 exact this
theorem ARun.loadEltA {x : Operand} {t e : TypeId} {u : TypeDesc} {i g k z : Nat} {xs cs : List AV} {X Y : AV} {d : Option Tmp} (ho : o.op = .load t x) (hd : o.dst = d) (hn : dstLt n d = true) (hG : gdS ops σ o.guard = some true)
   (hu : P.underlying t = some u) (hA : isA u = true) (hz : Sz P t z) (hx : Ev true σ x (.elt i g (k * z))) (hH : H[i]? = some (.row g e z xs)) (hX : xs[k]? = some X) (hC : X.cells = cs) (hY : optA o.guard true (.agg cs) = Y)
   (hr : ARun P ops n QQ l (ks ++ [.read]) (putS σ d Y) H) : ARun P ops n QQ (o :: l) ks σ H := by
 refine ARun.read hd hn hG hY (fun hg a W β hHr hl => ?_) hr
 have h0 := hx.rep rfl hl (by simp [ho, Op.operands])
 generalize hv : a.eval x = v at h0
 subst hC
 cases h0 with
 | elt _ _ _ _ hi h =>
   have hob := hHr.ob i _ _ hH (List.getElem?_eq_getElem hi)
   have hg0 : β[i]? = some β[i] := List.getElem?_eq_getElem hi
   cases hb : β[i] <;> rw [hb] at hob hg0 <;> first | exact hob.elim | skip
   rename_i v2 g2
   obtain ⟨e1, us, h2, h3, h4⟩ := hob
   subst e1
   obtain ⟨_, k2⟩ := h v2 _ hg0
   obtain ⟨gb, k3, rfl⟩ := k2 rfl
   rcases h2.2 with ⟨h6, h0'⟩ | ⟨gb', cap, cur, h6, _, hgg, hnc, hcm, hcs, htake⟩
   · rw [h6] at k3; cases k3
   obtain rfl : gb = gb' := by rw [h6] at k3; simp only [Value.ownBlock] at k3; injection k3 with k3; exact k3.symm
   have hus : us.length = xs.length * z := h2.1
   have hfl := flat_len' xs h3
   have hXz : X.cells.length = z := h3 X (List.mem_of_getElem? hX)
   have hcell : ∀ q u, us[q]? = some u → W.cell? ⟨gb, q, none⟩ = some u := by
     intro q u hq
     rw [cell_of_row W gb q cur e (0, 0) hgg]
     rw [← htake, List.getElem?_take] at hq
     split at hq
     · simpa using hq
     cases hq
   obtain ⟨vs, v1, v2', v3⟩ := cells_list W gb (k * z) X.cells β (fun j y hy => by
     have h7 := flat_at xs h3 k j X y hX hy
     have hlt7 : k * z + j < us.length := by rw [hus, ← hfl]; exact (List.getElem?_eq_some_iff.1 h7).1
     exact ⟨_, hcell _ _ (List.getElem?_eq_getElem hlt7)⟩) (fun j y w hy hw => by
     have h7 := flat_at xs h3 k j X y hX hy
     have hlt7 : k * z + j < us.length := by rw [hus, ← hfl]; exact (List.getElem?_eq_some_iff.1 h7).1
     rw [hcell _ _ (List.getElem?_eq_getElem hlt7)] at hw
     cases hw
     exact h4 _ _ y (List.getElem?_eq_getElem hlt7) h7)
   refine ⟨.agg vs.toArray, ?_, .agg _ _ (by simpa using v1) (fun j u y hj hy => v3 j u y (by simpa using hj) hy)⟩
   have h9 : (loadVar t ⟨gb, k * z, none⟩).run P W = .ok (.agg vs.toArray) W := by
     simp only [loadVar, Sem.run_bind, isAgg_run hu, hA, if_true]
     have h5 := run_loadCells_list (P := P) (w := W) ⟨gb, k * z, none⟩ vs (fun j u hj => by rw [aadd]; exact v2' j u hj)
     rw [← hXz, ← v1] at hz
     simp [hz.run, h5]
   simp [execOp, ho, hv, Instr.loadAt, Instr.sureAddr, h9]
theorem ARun.shrinkOwn {t e : TypeId} {x : Operand} {hi : Option Operand} {b j g z : Nat} {xs r : List AV} {L' : List AO} {Y : AV} {d : Option Tmp} (hm : GOK m G) (ho : o.op = .slice t x none hi none) (hd : o.dst = d) (hn : dstLt n d = true) (hG : gdS ops σ o.guard = some true)
   (hu : P.underlying t = some (.slice e)) (hz : Sz P e z) (hx : Ev true σ x (.own (m + j) g)) (hH : L[j]? = some (.row g e z xs)) (hhi : BO true σ hi xs.length b) (h0 : 0 < xs.length) (h1 : b ≤ xs.length) (hr' : xs.take b = r) (hY : optA o.guard true (.own (m + j) (g + 1)) = Y) (hL : L.set j (.row (g + 1) e z r) = L')
   (hr : ARun P ops n QQ l (ks ++ [.write]) (putS σ d Y) (G ++ L')) : ARun P ops n QQ (o :: l) ks σ (G ++ L) := by
 refine ARun.write hd hn hG hY (fun act W β hHr hl => ?_) hr
 subst hr'
 have hH' : (G ++ L)[m + j]? = some (.row g e z xs) := by rw [hm.at]; exact hH
 obtain ⟨us, k1, k2, k3, k4⟩ := (hx.rep rfl hl (by simp [ho, Op.operands])).own_at hHr hH'
 generalize hv : act.eval x = v at k1 k2
 have hlt := (List.getElem?_eq_some_iff.1 k1).1
 rcases k2.2 with ⟨h6, h0'⟩ | ⟨gb, cap, cur, h6, _, hgg, hnc, hcm, hcs, htake⟩
 · omega
 subst h6
 have hus : us.length = xs.length * z := k2.1
 have hfl := flat_len' xs k3
 have hbz : b * z ≤ xs.length * z := Nat.mul_le_mul_right _ h1
 have hrl : (xs.take b).length = b := by rw [List.length_take]; omega
 have hrz : ∀ x, x ∈ xs.take b → x.cells.length = z := fun x hx => k3 x (List.mem_of_mem_take hx)
 have hfb : (xs.take b).flatMap AV.cells = (xs.flatMap AV.cells).take (b * z) := by
   have e1 : xs.flatMap AV.cells = (xs.take b).flatMap AV.cells ++ (xs.drop b).flatMap AV.cells := by rw [← List.flatMap_append, List.take_append_drop]
   have e2 := flat_len' (xs.take b) hrz
   rw [hrl] at e2
   rw [e1, ← e2, List.take_left]
 have hbd := bounds_run (P := P) (W := W) (s := true) (cap := cap) (β := β) (act := act) (gd := true) (lo := none) rfl (fun _ => rfl) hhi (Nat.zero_le _) (by omega) (fun y hy X hX => hX.rep rfl hl (by rcases hy with e | e <;> simp [ho, Op.operands, e] at *))
 simp only [Option.map_none] at hbd
 have hch := hHr.change k1 (x' := .row (.slice (some ⟨gb, 0, none⟩) b cap) (g + 1)) (w' := W) (Or.inl (Nat.lt_succ_self g)) (fun _ e => by cases e) rfl rfl rfl (Nat.le_refl _) (fun k _ _ => rfl) (fun c hc => .inl hc) (o := .row (g + 1) e z (xs.take b)) (fun hx => by
   refine ⟨rfl, us.take (b * z), ⟨by rw [List.length_take, hrl, hus]; omega, .inr ⟨gb, cap, cur, by rw [hrl], Nat.zero_le _, hgg, by omega, hcm, hcs, ?_⟩⟩, hrz, fun q u y a1 a2 => ?_⟩
   · rw [hrl, ← htake, List.take_take, Nat.min_eq_left hbz]
   · rw [hfb] at a2
     rw [List.getElem?_take] at a1 a2
     split at a1
     · rename_i hq
       rw [if_pos hq] at a2
       exact (k4 q u y a1 a2).ext hx
     · cases a1)
 rw [hm.set, hL] at hch
 refine ⟨.slice (some ⟨gb, 0, none⟩) b cap, W, _, ?_, hch.1, hch.2, .own _ _ _ (by rw [List.length_set]; exact hlt) fun u g' hb2 => ?_⟩
 · have hca : ¬ cap = 0 := by omega
   simp [execOp, ho, hv, Instr.sliceAt, Instr.slice, run_underlying hu, hbd, hz.run, hca, aadd]
 rw [List.getElem?_set_self hlt] at hb2
 cases hb2; exact ⟨Nat.le_refl _, fun _ => rfl⟩
end
theorem AWP.resRow {P : Program} {n m : Nat} {c : Code} {Q : QA} {σ : Sl} {G L : List AO} (e : TypeId) (z : Nat) (h : AWP P n m c Q σ G (L ++ [.row 0 e z []])) : AWP P n m c Q σ G L := by
 intro D a W β hmG hn hd hHr hs
 have hsn := hHr.snoc (w' := W) (Below.refl _ _) (x := .row (.slice none 0 0) 0) (o := .row 0 e z []) ⟨rfl, [], World.ownsRow_nil W 0 e z, (fun x hx => by cases hx), (fun q u y h1 => by simp at h1)⟩ (fun b hb => by simp [Hd.blks, Value.ownBlock] at hb)
 refine Code.wp_mono (fun e a' W' hp => hp.ext hsn.1) (h D a W _ hmG hn hd (by rw [← List.append_assoc]; exact hsn.2) (hs.ext hsn.1))
end Go.Proofs.YtcndnllmlhhjiaaGreatDoor
namespace Go.Proofs.YtcndnllmlhhjiaaGreatDoor
open Go.RowKit
open NumP
def aNd (x : Nd) : AV := .agg [.sl (x.s.1.map Stk.aIt), .sl (x.s.2.map Ssn.aSe), .sl (x.so.map AV.str), .sl (x.pl.map AV.bool), .int .i64 x.left]
abbrev ndRow (st : List Nd) : List AV := st.reverse.map aNd
theorem ndRow_len (st : List Nd) : (ndRow st).length = st.length := by rw [List.length_map, List.length_reverse]
theorem ndRow_cons (x : Nd) (st : List Nd) : ndRow (x :: st) = ndRow st ++ [aNd x] := by unfold ndRow; rw [List.reverse_cons, List.map_append]; rfl
theorem ndRow_top (x : Nd) (st : List Nd) : (ndRow (x :: st))[st.length]? = some (aNd x) := by
 have h := ndRow_len st
 rw [ndRow_cons, List.getElem?_append_right (by omega), h, Nat.sub_self]; rfl
theorem ndRow_pop (x : Nd) (st : List Nd) : (ndRow (x :: st)).take st.length = ndRow st := by
 rw [ndRow_cons, ← ndRow_len st, List.take_left]
theorem ndRow_push {l : List Co} {x y : Nd} {st : List Nd} {k : Nat} (h : kidsN l x k = y :: kidsN l x (k + 1)) : ndRow (kidsN l x (k + 1) ++ st) ++ [aNd y] = ndRow (kidsN l x k ++ st) := by
 rw [h, List.cons_append, ndRow_cons]
theorem aNd_noH (m : Nat) (x : Nd) : ∀ y, y ∈ (aNd x).cells → NoH m y := by
 intro y hy
 simp only [aNd, AV.cells, List.mem_cons, List.not_mem_nil, or_false] at hy
 rcases hy with rfl | rfl | rfl | rfl | rfl
 · simp [Stk.aIt, AV.cells]
 · simp [Ssn.aSe, AV.cells]
 · simp [AV.cells]
 · refine .sl _ fun z hz y hy => ?_
   obtain ⟨c, _, rfl⟩ := List.mem_map.1 hz
   simp only [AV.cells, List.mem_singleton] at hy
   subst hy; exact .bool _
 exact .int _ _
theorem ndRow_noH (m : Nat) (st : List Nd) (g e z : Nat) : ∀ y, y ∈ (AO.row g e z (ndRow st)).conts → NoH m y := by
 intro y hy
 simp only [AO.conts, List.mem_flatMap, List.mem_map] at hy
 obtain ⟨a, ⟨x, _, rfl⟩, hy⟩ := hy
 exact aNd_noH m x y hy
theorem len_sum (l : List Co) (st : List Nd) : st.length ≤ sumW l st := by
 induction st with
 | nil => exact Nat.zero_le _
 | cons x st ih => rw [sumW_cons, List.length_cons]; have := wt_pos (openN l x.pl); omega
theorem kids_len (l : List Co) (x : Nd) (k : Nat) : (kidsN l x k).length ≤ (freeP l x.pl).length := by
 unfold kidsN
 have := List.length_filterMap_le (kidN l x) ((freeP l x.pl).drop k)
 rw [List.length_drop] at this; omega
theorem noR {s : St} {l : List Co} (h : (!decide (checkO l = 0) || !decide (chkP s = 0) || decide (7 < ((l.map aCo).length : Int))) = true) : searchP s l = none := by
 unfold searchP; rw [if_pos]
 rw [List.length_map] at h
 simp only [Bool.or_eq_true, Bool.not_eq_true', decide_eq_false_iff_not, decide_eq_true_eq] at h
 rcases h with (h | h) | h
 · exact .inl h
 · exact .inr (.inl h)
 exact .inr (.inr (by omega))
theorem yesR {s : St} {l : List Co} (h : (!decide (checkO l = 0) || !decide (chkP s = 0) || decide (7 < ((l.map aCo).length : Int))) = false) : checkO l = 0 ∧ chkP s = 0 ∧ l.length ≤ 7 := by
 rw [List.length_map] at h
 simp only [Bool.or_eq_false_iff, Bool.not_eq_false', decide_eq_true_eq, decide_eq_false_iff_not] at h
 exact ⟨h.1.1, h.1.2, by omega⟩
theorem freeR2_fn (l : List Co) (pl : List Bool) (hl : l.length ≤ 1000) (hpl : pl.length ≤ 1000) : FnP Tryz.prog 18 [.sl (l.map aCo), .sl (pl.map AV.bool)] (.sl ((freeP l pl).map fun (i : Nat) => AV.int .i64 (i : Int))) := freeR_fn l pl hl hpl
theorem all_strs (l : List ByteArray) : ((l.map AV.str).all fun y => Nat.beq y.cells.length 1 && y.cells.all AV.one) = true := by rw [List.all_map]; exact List.all_eq_true.2 fun _ _ => rfl
theorem all_bools (l : List Bool) : ((l.map AV.bool).all fun y => Nat.beq y.cells.length 1 && y.cells.all AV.one) = true := by rw [List.all_map]; exact List.all_eq_true.2 fun _ _ => rfl
theorem bools_flat (q : List Bool) (k : Nat) (hk : k < q.length) : ((q.set k true).map AV.bool).flatMap AV.cells = ((q.map AV.bool).flatMap AV.cells).take (k * 1) ++ [AV.bool true] ++ ((q.map AV.bool).flatMap AV.cells).drop (k * 1 + 1) := by
 rw [List.map_set]
 exact flat_set (z := 1) (q.map AV.bool) k (.bool true) (fun x hx => by obtain ⟨c, _, rfl⟩ := List.mem_map.1 hx; rfl) rfl (by rw [List.length_map]; exact hk)
theorem kid_yes {l : List Co} {x : Nd} {i : Nat} {d : Int} (hd : endedN (l.getD i default) = d) (h : (!decide ((l.getD i default).end_ = 0) && !decide ((applyP x.s (payN l i)).2 = (l.getD i default).reply)) = false) : kidN l x i = some ⟨(applyP x.s (payN l i)).1, x.so ++ [payN l i], x.pl.set i true, x.left - d⟩ := by
 subst hd
 unfold kidN
 rw [if_neg]
 rintro ⟨e1, e2⟩
 unfold endedN at e1
 split at e1
 · rename_i e3
   rw [decide_eq_false e3, decide_eq_false e2] at h; cases h
 cases e1
theorem kid_no {l : List Co} {x : Nd} {i : Nat} (h : (!decide ((l.getD i default).end_ = 0) && !decide ((applyP x.s (payN l i)).2 = (l.getD i default).reply)) = true) : kidN l x i = none := by
 simp only [Bool.and_eq_true, Bool.not_eq_true', decide_eq_false_iff_not] at h
 unfold kidN
 rw [if_pos ⟨by unfold endedN; rw [if_pos h.1], h.2⟩]
theorem end1 {o : Co} (h : (!decide (o.end_ = 0)) = true) : endedN o = 1 := by
 unfold endedN; rw [if_pos (by simpa using h)]
theorem end0 {o : Co} (h : (!decide (o.end_ = 0)) = false) : endedN o = 0 := by
 unfold endedN; rw [if_neg (by simpa using h)]
theorem root_row (s : St) (l : List Co) (n : Int) (hn : n = (cntP (endB l) l.length : Int)) : [AV.agg [.sl (s.1.map Stk.aIt), .sl (s.2.map Ssn.aSe), .sl [], .sl (List.replicate l.length (AV.bool false)), .int .i64 n]] = ndRow [rootN s l] := by
 subst hn
 show _ = [aNd (rootN s l)]
 unfold aNd rootN
 rw [List.map_replicate]; rfl
theorem next_ok {l : List Co} {x : Nd} {st : List Nd} {c : Nat} {R : Option (List ByteArray)} (hp : ∀ o, o ∈ l → o.payload.size ≤ 2000) (h1 : c + sumW l (x :: st) ≤ 13700) (h2 : ∀ y, y ∈ x :: st → WFN l y) (h3 : findN l (x :: st) = R) (h4 : x.left ≠ 0) :
   c + 1 + sumW l (kidsN l x 0 ++ st) ≤ 13700 ∧ (∀ y, y ∈ kidsN l x 0 ++ st → WFN l y) ∧ findN l (kidsN l x 0 ++ st) = R := by
 have hx := h2 x List.mem_cons_self
 have hk := kids_sum hx.1
 rw [sumW_cons] at h1
 rw [sumW_app]
 refine ⟨by omega, fun y hy => ?_, by rw [← find_next hx.1 h4]; exact h3⟩
 rcases List.mem_append.1 hy with hy | hy
 · obtain ⟨i, hi, hk⟩ := kids_mem hy
   exact kid_wf hp hx hi hk
 exact h2 y (List.mem_cons_of_mem _ hy)
set_option maxHeartbeats 20000000 in
theorem searchR_fn (l : List Co) (hl : l.length ≤ 1000) (hp : ∀ x, x ∈ l → x.payload.size ≤ 2000) (s : St) (hi1 : s.1.length ≤ 60) (hi2 : s.2.length ≤ 60) : FnP Tryz.prog 20 [aSt s, .sl (l.map aCo)] (srR (searchP s l)) := by
 refine FnP.of Tryz.func20 rfl rfl (by simp) (by simp [srR, AV.cells]) (fun G hG => ?_)
 have hN : NoH G.length (srR (searchP s l)) := (by simp [srR, AV.cells])
 refine sr fun _ => ?_
 refine ρz ?_
 refine ma ?_
 refine mz ?_
 refine AWP.seq (sr fun _ => ?_)
 refine mv ?_
 refine ρA cf30 ?_ (hF := fun hg => checkOR_fn l hl (fun x hx => by have := hp x hx; omega))
 refine ρ2 ?_
 refine mv ?_
 refine ARun.loadPeA rfl rfl rfl rfl U25 rfl sz25 (ep rfl) rfl optS ?_
 refine ρr cf31 (fun hg => chkR_fn s) ?_
 refine ρb ?_
 refine ρ3 ?_
 refine mv ?_
 refine ρg ?_
 refine ARun.lenSl rfl rfl rfl rfl U34 (Ev.opt rfl (fun h => h)) optS ?_
 refine ρb ?_
 refine ρ3 ?_
 refine ez ?_
 refine ρp (fun h0 => ?_) (fun h0 => ?_)
 · refine sr fun _ => ?_
   refine ma ?_
   refine mz ?_
   refine AWP.ret (thenA_r ?_)
   refine ρj (rs := [.tmp 4, .tmp 5]) (.cons (.tmp rfl) (.cons (.tmp rfl) .nil)) ?_
   rw [noR h0]; rfl
 obtain ⟨hco, hcs, hl7⟩ := yesR h0
 refine AWP.skip (thenA_n (sr fun _ => ?_))
 refine mz ?_
 refine AWP.seq (sr fun _ => ?_)
 refine mz ?_
 refine AWP.block ?_
 refine AWP.rounds (fun sq => sq.1 ≤ l.length ∧ sq.2 = cntP (endB l) sq.1) (fun sq => [(1, .sl (l.map aCo)), (2, .pe (aSt s).cells), (6, .int .i64 (sq.2 : Int)), (7, .int .i64 (sq.1 : Int))]) (fun sq => []) (fun sq => l.length - sq.1) 0 ((0, 0) : Nat × Nat) ⟨Nat.zero_le _, rfl⟩ (by repeat (first | exact .nil | refine .cons rfl ?_)) rfl (fun _ => rfl) (fun _ => ⟨by simp [AV.cells, aCo, aSt, Stk.aIt, Ssn.aSe], by simp [AO.conts]⟩) (fun sq hI => ?_)
 obtain ⟨k, d⟩ := sq
 dsimp only at hI
 show AWP _ _ _ _ _ [(1, .sl (l.map aCo)), (2, .pe (aSt s).cells), (6, .int .i64 (d : Int)), (7, .int .i64 (k : Int))] _ []
 obtain ⟨hk, hd⟩ := hI
 have hcl := cnt_le (endB l) k
 refine AWP.seq (sr fun _ => ?_)
 refine mv ?_
 refine mv ?_
 refine ρv U34 ?_
 refine ρ2 ?_
 refine ez ?_
 refine ρp (fun h1 => ?_) (fun h1 => ?_)
 · try simp [-List.getD_eq_getElem?_getD] at h1
   refine AWP.skip (thenA_n ?_)
   refine AWP.seq (AWP.block (sr fun _ => ?_))
   refine mv ?_
   refine mv ?_
   refine ARun.indexSl rfl rfl rfl rfl U34 sz53 (ep rfl) (ep rfl) (fun _ => rfl) (fun hg => getMap _ _ _ (by first | exact hIl | ((try simp at hg) <;> omega))) rfl rfl optN ?_
   refine ρ4 U53 sz3 ?_
   refine ρ7 U3 ?_
   refine ρ2 ?_
   refine ez ?_
   refine ρp (fun h2 => ?_) (fun h2 => ?_)
   · have he : (if endB l k = true then 1 else 0) = 1 := if_pos (by unfold endB; simpa using h2)
     refine AWP.region (fun _ => ?_)
     refine mv ?_
     refine ARun.arith rfl rfl rfl rfl (ep rfl) (ep rfl) rfl (fun hg => i64w (by first | exact hIl | ((try simp at hg) <;> omega))) optN ?_
     refine ma ?_
     refine ⟨_, _, rfl, hG, ?_⟩
     refine blockA_n (thenA_n ?_)
     refine AWP.region (fun _ => ?_)
     refine mv ?_
     refine ARun.arith rfl rfl rfl rfl (ep rfl) (ep rfl) rfl (fun hg => i64w (by first | exact hIl | ((try simp at hg) <;> omega))) optN ?_
     refine ma ?_
     refine ⟨_, _, rfl, hG, ?_⟩
     refine thenA_n ⟨rfl, (k + 1, d + 1), _, ?_, ?_, rfl, ?_⟩
     · exact ⟨by dsimp only; omega, by dsimp only; rw [hd]; have := cnt_succ (endB l) k; rw [he] at this; omega⟩
     · repeat (first | exact .nil | refine .cons rfl ?_)
     dsimp only; omega
   have he : (if endB l k = true then 1 else 0) = 0 := if_neg (by unfold endB; simpa using h2)
   refine AWP.skip (blockA_n (thenA_n ?_))
   refine AWP.region (fun _ => ?_)
   refine mv ?_
   refine ARun.arith rfl rfl rfl rfl (ep rfl) (ep rfl) rfl (fun hg => i64w (by first | exact hIl | ((try simp at hg) <;> omega))) optN ?_
   refine ma ?_
   refine ⟨_, _, rfl, hG, ?_⟩
   refine thenA_n ⟨rfl, (k + 1, d), _, ?_, ?_, rfl, ?_⟩
   · exact ⟨by dsimp only; omega, by dsimp only; rw [hd]; have := cnt_succ (endB l) k; rw [he] at this; omega⟩
   · repeat (first | exact .nil | refine .cons rfl ?_)
   dsimp only; omega
 simp at h1
 obtain rfl : k = l.length := by omega
 refine AWP.exit ?_
 refine thenA_x ?_
 refine thenA_x ?_
 refine blockA_h ?_
 refine thenA_n (AWP.seq ?_)
 refine ρE mixed (fun _ => ?_)
 refine ρl U25 sz25 ?_
 refine mv ?_
 refine ρv U34 ?_
 refine ARun.makeSlP (q := l.length) rfl rfl rfl rfl U32 ti4 rfl (by decide) (ep rfl) (ep rfl) (by simp) (by omega) optN ?_
 refine mv ?_
 refine ARun.build rfl rfl rfl rfl so72 (.cons (ep rfl) (.cons (ep rfl) (.cons (ep rfl) .nil))) rfl rfl optN ?_
 refine ARun.buildOwn (j := 0) hG rfl rfl rfl rfl rfl U73 sz72 zv72 rfl (by decide) (.cons (ep rfl) .nil) rfl rfl rfl rfl (by decide) rfl rfl optN ?_
 refine ma ?_
 refine ⟨by kernel_rfl, _, _, rfl, hG, ?_⟩
 refine thenA_n (AWP.seq ?_)
 refine sr fun _ => ?_
 refine mz ?_
 refine AWP.block ?_
 refine AWP.rounds (fun so3 => so3.1 + sumW l so3.2.1 ≤ 13700 ∧ (∀ y, y ∈ so3.2.1 → WFN l y) ∧ findN l so3.2.1 = searchP s l) (fun so3 => [(1, .sl (l.map aCo)), (8, .own (G.length + 0) so3.2.2), (9, .int .i64 (so3.1 : Int))]) (fun so3 => [.row so3.2.2 72 5 (ndRow so3.2.1)]) (fun so3 => 100000 - so3.1) 1 ((0, [rootN s l], 0) : Nat × List Nd × Nat) ⟨root_sum hl7, fun y hy => (by rw [List.mem_singleton.1 hy]; exact root_wf hl7 hi1 hi2), root_find hcs hco hl7⟩ (by repeat (first | exact .nil | refine .cons rfl ?_)) (Eq.trans (b := [AO.row 0 72 5 [AV.agg [.sl (s.1.map Stk.aIt), .sl (s.2.map Ssn.aSe), .sl [], .sl (List.replicate l.length (AV.bool false)), .int .i64 (d : Int)]]]) rfl (by rw [root_row s l (d : Int) (by rw [hd])])) (fun _ => rfl) (fun _ => ⟨by simp [AV.cells, aCo], fun o ho x hx => by rw [List.mem_singleton.1 ho] at hx; exact ndRow_noH _ _ _ _ _ x hx⟩) (fun so3 hI => ?_)
 obtain ⟨c, st, g⟩ := so3
 dsimp only at hI
 show AWP _ _ _ _ _ [(1, .sl (l.map aCo)), (8, .own (G.length + 0) g), (9, .int .i64 (c : Int))] _ [.row g 72 5 (ndRow st)]
 obtain ⟨hsm, hwf, hfd⟩ := hI
 refine AWP.seq (sr fun _ => ?_)
 refine mv ?_
 refine ARun.lenOwn rfl rfl rfl rfl U73 (ep rfl) ((hG.at _ _).trans rfl) optN ?_
 refine ρ2 ?_
 refine mv ?_
 refine ρg ?_
 refine ρb ?_
 refine ρ0 ?_
 refine ez ?_
 refine ρp (fun h3 => ?_) (fun h3 => ?_)
 · obtain ⟨x, st, rfl⟩ : ∃ x t, st = x :: t := by
     cases st with
     | nil => simp at h3
     | cons x t => exact ⟨x, t, rfl⟩
   have hx := hwf x List.mem_cons_self
   obtain ⟨x1, x2, x3, x4, x5, x6⟩ := hx
   have hfl : (freeP l x.pl).length ≤ 7 := by have := free_len x1; omega
   have hsl : st.length ≤ 13700 := by have := len_sum l (x :: st); rw [List.length_cons] at this; omega
   have hrl : (ndRow (x :: st)).length = st.length + 1 := ndRow_len _
   have hfm : ((freeP l x.pl).map fun (i : Nat) => AV.int .i64 (i : Int)).length = (freeP l x.pl).length := List.length_map ..
   refine AWP.skip (thenA_n ?_)
   refine AWP.seq (AWP.block (sr fun _ => ?_))
   refine mv ?_
   refine mv ?_
   refine ARun.lenOwn rfl rfl rfl rfl U73 (ep rfl) ((hG.at _ _).trans rfl) optN ?_
   refine ARun.arith rfl rfl rfl rfl (ep rfl) (ep rfl) rfl (fun hg => i64w (by first | exact hIl | ((try simp at hg) <;> omega))) optN ?_
   refine ARun.indexOwn (j := st.length) rfl rfl rfl rfl U73 sz72 ((hG.at _ _).trans rfl) (ep rfl) (ep rfl) (fun hg => (by rw [ndRow_len, List.length_cons]; omega)) (fun hg => (by rw [ndRow_len, List.length_cons]; omega)) optN ?_
   refine ARun.loadEltA rfl rfl rfl rfl U72 rfl sz72 (ep rfl) ((hG.at _ _).trans rfl) (ndRow_top x st) (show _ = [.sl (x.s.1.map Stk.aIt), .sl (x.s.2.map Ssn.aSe), .sl (x.so.map AV.str), .sl (x.pl.map AV.bool), .int .i64 x.left] from rfl) optN ?_
   refine ρo (j := 1) zv72 ?_
   refine ρ1 sz72 ?_
   refine ez ?_
   refine AWP.seq ?_
   refine AWP.frzBox 10 hG rfl rfl rfl ?_
   refine AWP.region (fun _ => ?_)
   refine mv ?_
   refine mv ?_
   refine ARun.lenOwn rfl rfl rfl rfl U73 (ep rfl) ((hG.at _ _).trans rfl) optN ?_
   refine ARun.arith rfl rfl rfl rfl (ep rfl) (ep rfl) rfl (fun hg => i64w (by first | exact hIl | ((try simp at hg) <;> omega))) optN ?_
   refine ARun.shrinkOwn (j := 0) (b := st.length) hG rfl rfl rfl rfl U73 sz72 (ep rfl) rfl ⟨_, _, (ep rfl), fun hg => (by rw [ndRow_len, List.length_cons]; omega)⟩ (by rw [ndRow_len, List.length_cons]; omega) (by rw [ndRow_len, List.length_cons]; omega) (ndRow_pop x st) optN rfl ?_
   refine mz ?_
   refine AWP.seq (sr fun _ => ?_)
   refine ρ4 U72 sz3 ?_
   refine ρ7 U3 ?_
   refine ρ2 ?_
   refine ez ?_
   refine ρp (fun h4 => ?_) (fun h4 => ?_)
   · have hx0 : x.left = 0 := by simpa using h4
     refine sr fun _ => ?_
     refine ρ4 U72 sz27 ?_
     refine ρ7 U27 ?_
     refine ma ?_
     refine mz ?_
     refine AWP.ret (thenA_r ?_)
     refine blockA_r (thenA_r ?_)
     refine thenA_r (blockA_r (thenA_r ?_))
     refine ρj (rs := [.tmp 4, .tmp 5]) (.cons (.tmp rfl) (.cons (.tmp rfl) .nil)) ?_
     rw [← hfd, find_top hx0]; rfl
   have hx0 : x.left ≠ 0 := by simpa using h4
   refine AWP.skip (thenA_n (sr fun _ => ?_))
   refine mv ?_
   refine ρ4 U72 sz32 ?_
   refine ρ7 U32 ?_
   refine ρk cf18 ?_ (hF := fun hg => freeR2_fn l x.pl (by omega) (by omega))
   refine mz (sr fun _ => ?_)
   refine mv ?_
   refine ρv U40 ?_
   refine ARun.arith rfl rfl rfl rfl (ep rfl) (ep rfl) rfl (fun hg => i64w (by first | exact hIl | ((try simp at hg) <;> omega))) optN ?_
   refine mz ?_
   refine AWP.block ?_
   refine AWP.rounds (fun sp => sp.1 ≤ (freeP l x.pl).length) (fun sp => [(1, .sl (l.map aCo)), (8, .own (G.length + 0) sp.2), (9, .int .i64 (c : Int)), (10, .pe (aNd x).cells), (11, .sl ((freeP l x.pl).map fun (i : Nat) => AV.int .i64 (i : Int))), (12, .int .i64 ((sp.1 : Int) - 1))]) (fun sp => [.row sp.2 72 5 (ndRow (kidsN l x sp.1 ++ st)), .dead]) (fun sp => sp.1) 2 ((((freeP l x.pl).map fun (i : Nat) => AV.int .i64 (i : Int)).length, g + 1) : Nat × Nat) (by rw [List.length_map]; exact Nat.le_refl _) (by repeat (first | exact .nil | refine .cons rfl ?_)) (by rw [List.length_map, kids_all]; rfl) (fun _ => rfl) (fun _ => ⟨fun p hp => by simp only [List.mem_cons, List.not_mem_nil, or_false] at hp; rcases hp with rfl | rfl | rfl | rfl | rfl | rfl; all_goals first | exact .pe _ (aNd_noH _ x) | simp [AV.cells, aCo], fun o ho x hx => by rcases List.mem_cons.1 ho with rfl | ho; exact ndRow_noH _ _ _ _ _ x hx; rw [List.mem_singleton.1 ho] at hx; cases hx⟩) (fun sp hI => ?_)
   obtain ⟨k, g⟩ := sp
   dsimp only at hI
   show AWP _ _ _ _ _ [(1, .sl (l.map aCo)), (8, .own (G.length + 0) g), (9, .int .i64 (c : Int)), (10, .pe (aNd x).cells), (11, .sl ((freeP l x.pl).map fun (i : Nat) => AV.int .i64 (i : Int))), (12, .int .i64 ((k : Int) - 1))] _ [.row g 72 5 (ndRow (kidsN l x k ++ st)), .dead]
   have hk := hI
   refine AWP.seq (sr fun _ => ?_)
   refine mv ?_
   refine ρ2 ?_
   refine ez ?_
   refine ρp (fun h5 => ?_) (fun h5 => ?_)
   · obtain ⟨k, rfl⟩ : ∃ q, k = q + 1 := ⟨k - 1, by simp at h5; omega⟩
     have hkl : k < (freeP l x.pl).length := by omega
     obtain ⟨hIm, hIl⟩ := free_at hkl
     rw [show ((k + 1 : Nat) : Int) - 1 = (k : Int) from by omega]
     refine AWP.skip (thenA_n ?_)
     refine AWP.seq (AWP.block (sr fun _ => ?_))
     refine mv ?_
     refine mv ?_
     refine mv ?_
     refine ARun.indexSl rfl rfl rfl rfl U40 sz3 (ep rfl) (ep rfl) (fun _ => rfl) (fun hg => getMap _ _ _ (by first | exact hIl | ((try simp at hg) <;> omega))) rfl rfl optN ?_
     refine ρ7 U3 ?_
     refine ARun.indexSl rfl rfl rfl rfl U34 sz53 (ep rfl) (ep rfl) (fun _ => rfl) (fun hg => getMap _ _ _ (by first | exact hIl | ((try simp at hg) <;> omega))) rfl rfl optN ?_
     refine ρl U53 sz53 ?_
     refine ρo (j := 2) zv53 ?_
     refine ρ1 sz53 ?_
     refine ez ?_
     refine AWP.seq ?_
     refine AWP.frzBox 13 hG rfl rfl rfl ?_
     refine AWP.region (fun _ => ?_)
     refine ρ4 U72 sz25 ?_
     refine ρl U25 sz25 ?_
     refine ρ4 U53 sz9 ?_
     refine ρ7 U9 ?_
     refine ρk cf40 ?_ (hF := fun hg => applyR_fn x.s (payN l ((freeP l x.pl).getD k default)) (pay_at2 hp hIl) (by omega) (by omega))
     refine mv ?_
     refine ρ9 ?_
     refine ρ9 ?_
     refine ρo (j := 3) zv25 ?_
     refine ρ1 sz25 ?_
     refine mz ?_
     refine AWP.seq (sr fun _ => ?_)
     refine ρ4 U53 sz3 ?_
     refine ρ7 U3 ?_
     refine ρ2 ?_
     refine mv ?_
     refine ρg ?_
     refine ρc U53 sz9 ?_
     refine ρ5 U9 ?_
     refine ARun.cmpS rfl rfl rfl rfl (Ev.opt rfl (fun h => h)) (Ev.opt rfl (fun h => h)) rfl optS ?_
     refine ρ0 ?_
     refine ez ?_
     refine ρp (fun h6 => ?_) (fun h6 => ?_)
     · rw [← kids_none hkl (kid_no h6)]
       refine AWP.exit ?_
       refine thenA_x ?_
       refine blockA_h ?_
       refine thenA_n ?_
       refine AWP.region (fun _ => ?_)
       refine mv ?_
       refine ARun.arith rfl rfl rfl rfl (ep rfl) (ep rfl) rfl (fun hg => i64w (by first | exact hIl | ((try simp at hg) <;> omega))) optN ?_
       refine ma ?_
       refine ⟨_, _, rfl, hG, ?_⟩
       refine thenA_n ⟨rfl, (k, g), _, ?_, ?_, rfl, ?_⟩
       · dsimp only; omega
       · repeat (first | exact .nil | refine .cons rfl ?_)
       dsimp only; omega
     refine AWP.skip (thenA_n (AWP.seq ?_))
     refine AWP.frzBox 14 hG rfl rfl rfl ?_
     refine AWP.resRow 9 1 ?_
     refine AWP.resRow 4 1 ?_
     refine AWP.drawO mixed (by kernel_rfl) (fun _ => ?_)
     refine ρl U25 sz25 ?_
     refine ARun.litOn (j := 4) hG rfl rfl rfl rfl U27 sz9 zv9 rfl optN rfl ?_
     refine ρ4 U72 sz27 ?_
     refine ρ7 U27 ?_
     refine ARun.appendOn (j := 4) hG rfl rfl rfl rfl U27 ti9 rfl (by decide) (ep rfl) (ep rfl) rfl (all_strs _) (by simp [maxLen]; omega) (by simp; omega) (List.nil_append _) optN rfl ?_
     refine ρ4 U53 sz9 ?_
     refine ρ7 U9 ?_
     refine ρy U27 sz9 zv9 ?_
     refine ARun.appendOn (j := 4) hG rfl rfl rfl rfl U27 ti9 rfl (by decide) (ep rfl) (ep rfl) rfl rfl (by simp [maxLen]; omega) (by simp; omega) (str_snocT x.so (payN l ((freeP l x.pl).getD k default))) optN rfl ?_
     refine ARun.litOn (j := 5) hG rfl rfl rfl rfl U32 sz4 zv4 rfl optN rfl ?_
     refine ρ4 U72 sz32 ?_
     refine ρ7 U32 ?_
     refine ARun.appendOn (j := 5) hG rfl rfl rfl rfl U32 ti4 rfl (by decide) (ep rfl) (ep rfl) rfl (all_bools _) (by simp [maxLen]; omega) (by simp; omega) (List.nil_append _) optN rfl ?_
     refine ρ4 U72 sz3 ?_
     refine ρ7 U3 ?_
     refine ARun.build rfl rfl rfl rfl so72 (.cons (ep rfl) (.cons (ep rfl) (.cons (ep rfl) (.cons (ep rfl) .nil)))) rfl rfl optN ?_
     refine ρo (j := 6) zv72 ?_
     refine ρ1 sz72 ?_
     refine ⟨⟨by kernel_rfl, fun q c hq => by simp at hq; omega⟩, _, _, rfl, hG, ?_⟩
     refine thenA_n (AWP.seq ?_)
     show AWP _ _ _ _ _ _ _ [.row g 72 5 (ndRow (kidsN l x (k + 1) ++ st)), .dead, .dead, .dead, .row 3 9 1 ((x.so ++ [(payN l ((freeP l x.pl).getD k default))]).map AV.str), .row 2 4 1 (x.pl.map AV.bool), .box [.sl ((applyP x.s (payN l ((freeP l x.pl).getD k default))).1.1.map Stk.aIt), .sl ((applyP x.s (payN l ((freeP l x.pl).getD k default))).1.2.map Ssn.aSe), .own (G.length + 4) 3, .own (G.length + 5) 2, .int .i64 x.left]]
     refine ρE mixed (fun _ => ?_)
     refine ρ6 (fo := 3) U72 sz32 ?_
     refine ρd U32 ?_
     refine mv ?_
     refine mv ?_
     refine ARun.indexSl rfl rfl rfl rfl U40 sz3 (ep rfl) (ep rfl) (fun _ => rfl) (fun hg => getMap _ _ _ (by first | exact hIl | ((try simp at hg) <;> omega))) rfl rfl optN ?_
     refine ρ7 U3 ?_
     refine ARun.indexOwn (j := ((freeP l x.pl).getD k default)) rfl rfl rfl rfl U32 sz4 ((hG.at _ _).trans rfl) (ep rfl) (ep rfl) (fun hg => rfl) (fun hg => (by rw [List.length_map]; omega)) optN ?_
     refine ARun.storeEltL (zs := ((x.pl.set ((freeP l x.pl).getD k default) true).map AV.bool)) hG rfl rfl rfl sz4 (ep rfl) (ep rfl) rfl rfl rfl rfl rfl (by rw [List.length_map]; omega) (bools_flat x.pl ((freeP l x.pl).getD k default) (by omega)) (by simp) (fun y hy => by obtain ⟨c, _, rfl⟩ := List.mem_map.1 hy; rfl) rfl ?_
     refine ⟨by kernel_rfl, _, _, rfl, hG, ?_⟩
     refine thenA_n ?_
     refine AWP.seq (AWP.seq ?_)
     show AWP _ _ _ _ _ _ _ [.row g 72 5 (ndRow (kidsN l x (k + 1) ++ st)), .dead, .dead, .dead, .row 3 9 1 ((x.so ++ [(payN l ((freeP l x.pl).getD k default))]).map AV.str), .row 2 4 1 ((x.pl.set ((freeP l x.pl).getD k default) true).map AV.bool), .box [.sl ((applyP x.s (payN l ((freeP l x.pl).getD k default))).1.1.map Stk.aIt), .sl ((applyP x.s (payN l ((freeP l x.pl).getD k default))).1.2.map Ssn.aSe), .own (G.length + 4) 3, .own (G.length + 5) 2, .int .i64 x.left]]
     refine AWP.frzIn (j := 4) (q := 6) (p := 2) hG rfl (by simp [maxLen]; omega) rfl rfl (show _ = [.row g 72 5 (ndRow (kidsN l x (k + 1) ++ st)), .dead, .dead, .dead, .dead, .row 2 4 1 ((x.pl.set ((freeP l x.pl).getD k default) true).map AV.bool), .box [.sl ((applyP x.s (payN l ((freeP l x.pl).getD k default))).1.1.map Stk.aIt), .sl ((applyP x.s (payN l ((freeP l x.pl).getD k default))).1.2.map Ssn.aSe), .sl ((x.so ++ [(payN l ((freeP l x.pl).getD k default))]).map AV.str), .own (G.length + 5) 2, .int .i64 x.left]] from rfl) ?_
     refine AWP.frzIn (j := 5) (q := 6) (p := 3) hG rfl (by simp [maxLen]; omega) rfl rfl (show _ = [.row g 72 5 (ndRow (kidsN l x (k + 1) ++ st)), .dead, .dead, .dead, .dead, .dead, .box [.sl ((applyP x.s (payN l ((freeP l x.pl).getD k default))).1.1.map Stk.aIt), .sl ((applyP x.s (payN l ((freeP l x.pl).getD k default))).1.2.map Ssn.aSe), .sl ((x.so ++ [(payN l ((freeP l x.pl).getD k default))]).map AV.str), .sl ((x.pl.set ((freeP l x.pl).getD k default) true).map AV.bool), .int .i64 x.left]] from rfl) ?_
     refine AWP.region (fun _ => ?_)
     refine ρ4 U53 sz3 ?_
     refine ρ7 U3 ?_
     refine ρ2 ?_
     refine ez ?_
     refine ρp (fun h7 => ?_) (fun h7 => ?_)
     · have hks := kids_some hkl (kid_yes (end1 h7) h6)
       refine AWP.region (fun _ => ?_)
       refine ρ6 (fo := 4) U72 sz3 ?_
       refine ρd U3 ?_
       refine ARun.arith rfl rfl rfl rfl (ep rfl) (ep rfl) rfl (fun hg => i64w (by first | exact hIl | ((try simp at hg) <;> omega))) optN ?_
       refine ρ6 (fo := 4) U72 sz3 ?_
       refine ARun.storeL1 hG rfl rfl rfl sz3 (ep rfl) (ep rfl) rfl (by first | rfl | exact aEr_one _ | exact aFl_one _) (Nat.le_of_ble_eq_true rfl) (show _ = [.sl ((applyP x.s (payN l ((freeP l x.pl).getD k default))).1.1.map Stk.aIt), .sl ((applyP x.s (payN l ((freeP l x.pl).getD k default))).1.2.map Ssn.aSe), .sl ((x.so ++ [(payN l ((freeP l x.pl).getD k default))]).map AV.str), .sl ((x.pl.set ((freeP l x.pl).getD k default) true).map AV.bool), .int .i64 (x.left - 1)] from rfl) rfl ?_
       refine ez ?_
       refine AWP.region (fun _ => ?_)
       refine mv ?_
       refine ρn U72 sz72 ?_
       refine ρy U73 sz72 zv72 ?_
       refine ARun.appendL hG rfl rfl rfl rfl U73 ti72 rfl (by decide) (ep rfl) (ep rfl) rfl rfl (by have := kids_len l x (k + 1); rw [ndRow_len, List.length_append]; simp [maxLen]; omega) (by have := kids_len l x (k + 1); rw [ndRow_len, List.length_append]; simp; omega) (ndRow_push hks) optN rfl ?_
       refine ma ?_
       refine ⟨_, _, rfl, hG, ?_⟩
       refine blockA_n (thenA_n ?_)
       refine AWP.region (fun _ => ?_)
       refine mv ?_
       refine ARun.arith rfl rfl rfl rfl (ep rfl) (ep rfl) rfl (fun hg => i64w (by first | exact hIl | ((try simp at hg) <;> omega))) optN ?_
       refine ma ?_
       refine ⟨_, _, rfl, hG, ?_⟩
       refine thenA_n ⟨rfl, (k, g + 1), _, ?_, ?_, rfl, ?_⟩
       · dsimp only; omega
       · repeat (first | exact .nil | refine .cons rfl ?_)
       dsimp only; omega
     have hks := kids_some hkl (kid_yes (d := 0) (end0 h7) h6)
     rw [Int.sub_zero] at hks
     refine AWP.skip (thenA_n ?_)
     refine AWP.region (fun _ => ?_)
     refine mv ?_
     refine ρn U72 sz72 ?_
     refine ρy U73 sz72 zv72 ?_
     refine ARun.appendL hG rfl rfl rfl rfl U73 ti72 rfl (by decide) (ep rfl) (ep rfl) rfl rfl (by have := kids_len l x (k + 1); rw [ndRow_len, List.length_append]; simp [maxLen]; omega) (by have := kids_len l x (k + 1); rw [ndRow_len, List.length_append]; simp; omega) (ndRow_push hks) optN rfl ?_
     refine ma ?_
     refine ⟨_, _, rfl, hG, ?_⟩
     refine blockA_n (thenA_n ?_)
     refine AWP.region (fun _ => ?_)
     refine mv ?_
     refine ARun.arith rfl rfl rfl rfl (ep rfl) (ep rfl) rfl (fun hg => i64w (by first | exact hIl | ((try simp at hg) <;> omega))) optN ?_
     refine ma ?_
     refine ⟨_, _, rfl, hG, ?_⟩
     refine thenA_n ⟨rfl, (k, g + 1), _, ?_, ?_, rfl, ?_⟩
     · dsimp only; omega
     · repeat (first | exact .nil | refine .cons rfl ?_)
     dsimp only; omega
   obtain rfl : k = 0 := by simp at h5; omega
   refine AWP.exit ?_
   refine thenA_x ?_
   refine thenA_x ?_
   refine blockA_h ?_
   refine blockA_n (thenA_n ?_)
   refine AWP.region (fun _ => ?_)
   refine mv ?_
   refine ARun.arith rfl rfl rfl rfl (ep rfl) (ep rfl) rfl (fun hg => i64w (by first | exact hIl | ((try simp at hg) <;> omega))) optN ?_
   refine ma ?_
   refine ⟨_, _, rfl, hG, ?_⟩
   refine thenA_n ⟨rfl, (c + 1, kidsN l x 0 ++ st, g), _, ?_, ?_, rfl, ?_⟩
   · exact next_ok hp hsm hwf hfd hx0
   · repeat (first | exact .nil | refine .cons rfl ?_)
   dsimp only; omega
 obtain rfl : st = [] := by
   cases st with
   | nil => rfl
   | cons x t =>
     have := sum_pos (l := l) (x := x) (st := t)
     simp [ndRow_len] at h3; omega
 refine AWP.exit ?_
 refine thenA_x ?_
 refine thenA_x ?_
 refine blockA_h ?_
 refine thenA_n (sr fun _ => ?_)
 refine ma ?_
 refine mz ?_
 refine AWP.ret ?_
 refine ρj (rs := [.tmp 4, .tmp 5]) (.cons (.tmp rfl) (.cons (.tmp rfl) .nil)) ?_
 rw [← hfd]; rfl
theorem cf20 : ∀ (vs : Array Value) (W : World), (callFunc 20 vs).run Tryz.prog W = .ok (.enter 20 vs) W := fun _ _ => by rfl
theorem search_len {s : St} {l : List Co} (hp : ∀ x, x ∈ l → x.payload.size ≤ 2000) : ((searchP s l).getD []).length ≤ 8 := by
 cases h : searchP s l with
 | none => exact Nat.zero_le _
 | some out => exact (search_small hp h).1
theorem sear_fn (s : St) (l : List Co) : FnP Tryz.prog 4 [aSt s, .sl (l.map aCo)] (.bool true) := by
 refine FnP.of Tryz.func4 rfl rfl (by simp) (by simp [AV.cells, aIn, aOut, aLn, aCl, aRp, Stk.aIt, Ssn.aSe, aSt, aCo]) (fun G hG => ?_)
 have hN : NoH G.length (.bool true) := (by simp [AV.cells, aIn, aOut, aLn, aCl, aRp, Stk.aIt, Ssn.aSe, aSt, aCo])
 refine sr fun _ => ?_
 refine ρz ?_
 refine mz ?_
 refine AWP.seq (sr fun _ => ?_)
 refine ρl U25 sz25 ?_
 refine ρm cf7 (fun hg => fewS_fn s) ?_
 refine ρC ?_
 refine mv ?_
 refine ρg ?_
 refine ρr cf8 (fun hg => fewO_fn l) ?_
 refine ARun.not rfl rfl rfl rfl (Ev.opt rfl (fun h => h)) optS ?_
 refine ρ3 ?_
 refine mv ?_
 refine ρg ?_
 refine ARun.lenSl rfl rfl rfl rfl U26 (Ev.opt rfl (fun h => h)) optS ?_
 refine ρb ?_
 refine ρ3 ?_
 refine ez ?_
 refine ρp (fun h0 => ?_) (fun h0 => ?_)
 · refine sr fun _ => ?_
   refine ARun.call rfl rfl rfl rfl cf10 (ep rfl) .nil rfl (fun hg => awake_fn) optN ?_
   refine mz ?_
   refine AWP.ret (thenA_r ?_)
   refine ρi ?_
   rfl
 obtain ⟨⟨hs1, hs2⟩, ⟨hll, hp⟩, hl9⟩ := finds_of h0
 refine AWP.skip (thenA_n (sr fun _ => ?_))
 refine ρl U25 sz25 ?_
 refine mv ?_
 refine ρk cf19 ?_ (hF := fun hg => search_fn l (by omega) hp s (by omega) (by omega))
 refine mv ?_
 refine ρ9 ?_
 refine ρ9 ?_
 refine ma ?_
 refine mz ?_
 refine AWP.seq ?_
 refine ρE mixed (fun _ => ?_)
 refine ρl U25 sz25 ?_
 refine mv ?_
 refine ρA cf13 ?_ (hF := fun hg => ofL_fn l (by omega))
 refine ρk cf20 ?_ (hF := fun hg => searchR_fn l (by omega) hp s (by omega) (by omega))
 refine mv ?_
 refine ρ9 ?_
 refine ρ9 ?_
 refine ma ?_
 refine ma ?_
 refine ⟨by kernel_rfl, _, _, rfl, hG, ?_⟩
 refine thenA_n (sr fun _ => ?_)
 refine mv ?_
 refine mv ?_
 refine ρk cf21 ?_ (hF := fun hg => sameT_fn ((searchP s l).getD []) ((searchP s l).getD []) (by have := search_len (s := s) (l := l) hp; omega))
 refine mv ?_
 refine ρg ?_
 refine ρg ?_
 refine ARun.cmpB rfl rfl rfl rfl U4 (Ev.opt rfl (fun h => h)) (Ev.opt rfl (fun h => h)) rfl optS ?_
 refine ρ0 ?_
 refine mv ?_
 refine ARun.call rfl rfl rfl rfl cf10 (ep rfl) .nil rfl (fun hg => awake_fn) optS ?_
 refine ρ0 ?_
 refine mz ?_
 refine AWP.ret ?_
 refine ρi ?_
 simp
end Go.Proofs.YtcndnllmlhhjiaaGreatDoor
namespace Go.Proofs.YtcndnllmlhhjiaaGreatDoor
open Go.ChangeShapes Go.WideShapes Go.ChangeAt Go.RowKit
theorem exists_list {α : Type} {Q : Nat → α → Prop} (n : Nat) (h : ∀ i, i < n → ∃ x, Q i x) : ∃ l : List α, l.length = n ∧ ∀ i, (hi : i < l.length) → Q i l[i] := by
 induction n with
 | zero => exact ⟨[], rfl, fun i hi => absurd hi (Nat.not_lt_zero i)⟩
 | succ n ih =>
   obtain ⟨l, hl, hq⟩ := ih fun i hi => h i (by omega)
   obtain ⟨x, hx⟩ := h n (by omega)
   refine ⟨l ++ [x], by simp [hl], fun i hi => ?_⟩
   by_cases e : i < l.length
   · rw [List.getElem_append_left e]; exact hq i e
   · obtain rfl : i = l.length := by simp at hi; omega
     rw [List.getElem_append_right (Nat.le_refl _)]
     simpa [hl] using hx
def fit1 (x : Int) : Prop := -9223372036854775808 ≤ x ∧ x ≤ 9223372036854775807
end Go.Proofs.YtcndnllmlhhjiaaGreatDoor
namespace Go.Proofs.YtcndnllmlhhjiaaGreatDoor
open Go.ChangeShapes Go.WideShapes Go.ChangeAt Go.RowKit
def CL (W : World) (cs : List Value) (ys : List AV) : Prop := cs.length = ys.length ∧ ∀ (j : Nat) (u : Value) (z : AV), cs[j]? = some u → ys[j]? = some z → VRep [] W u z
theorem CL.one {W : World} {u : Value} {z : AV} (h : VRep [] W u z) : CL W [u] [z] := ⟨rfl, fun j u' z' h1 h2 => by
 cases j with
 | zero => simp at h1 h2; subst h1 h2; exact h
 | succ j => simp at h1⟩
theorem CL.join {W : World} {l : List Value} {o s o2 : Nat} {a b : List AV} (h : CL W ((l.drop o).take s) a) (k : CL W (l.drop o2) b) (e : o2 = o + s) (hs : a.length = s) : CL W (l.drop o) (a ++ b) := by
 subst e
 obtain ⟨h1, h2⟩ := h
 obtain ⟨k1, k2⟩ := k
 have e1 : l.drop o = (l.drop o).take s ++ l.drop (o + s) := by rw [← List.drop_drop, List.take_append_drop]
 have hl : ((l.drop o).take s).length = s := by rw [h1, hs]
 refine ⟨by rw [e1, List.length_append, h1, k1, List.length_append], fun j u z p q => ?_⟩
 rw [e1] at p
 by_cases hj : j < s
 · rw [List.getElem?_append_left (by omega)] at p
   rw [List.getElem?_append_left (by omega)] at q
   exact h2 j u z p q
 · rw [List.getElem?_append_right (by omega), hl] at p
   rw [List.getElem?_append_right (by omega), hs] at q
   exact k2 _ u z p q
theorem CL.last {W : World} {l : List Value} {o s : Nat} {a : List AV} (h : CL W ((l.drop o).take s) a) (hl : l.length = o + s) : CL W (l.drop o) a := by
 rwa [List.take_of_length_le (by simp; omega)] at h
def Opn (P : Program) (T : TypeId) {α : Type} (av : α → AV) (good : α → Prop) : Prop :=
 ∀ {H : Type} (encH : TypeId × Value → H) (W : World) (bb : Nat) (spare : Nat → Bool) (held : Bool) (m : Nat) (cs : List Value) (y : DataW H × List MemPlace), DataW.trod encH P W bb spare held m T cs = some y → ∃ x : α, CL W cs (av x).cells ∧ good x
theorem opn_i64 {P : Program} {T : TypeId} (ht : P.underlying T = some (.int .i64)) : Opn P T (AV.int .i64) fit1 := by
 intro H encH W bb spare held m cs y h
 obtain ⟨n, rfl, _, hw⟩ := DataW.trod_int ht h
 exact ⟨n, CL.one (.int _ _), wf64 hw⟩
theorem opn_str {P : Program} {T : TypeId} (ht : P.underlying T = some .string) : Opn P T AV.str (fun s => s.size ≤ maxLen) := by
 intro H encH W bb spare held m cs y h
 obtain ⟨n, rfl, _, hw⟩ := DataW.trod_string ht h
 exact ⟨n, CL.one (.str _), hw⟩
theorem opn_slice {P : Program} {T e : TypeId} {α : Type} {av : α → AV} {good : α → Prop} {z : Nat} (ht : P.underlying T = some (.slice e)) (hc : P.cellsOf e = z) (hz0 : 0 < z) (hz : ∀ x, (av x).cells.length = z) (he : Opn P e av good) :
   Opn P T (fun l : List α => .sl (l.map av)) (fun l => l.length ≤ maxLen ∧ ∀ x, x ∈ l → good x) := by
 intro H encH W bb spare held m cs y h
 rcases DataW.trod_slice ht h with ⟨rfl, _⟩ | ⟨x, len, cap, elems, rest, n, _, rfl, _, _, hl, hm, hlen, hgot, _, _⟩
 · exact ⟨[], CL.one .slnil, Nat.zero_le _, fun x hx => by cases hx⟩
 · have each : ∀ i, i < len → ∃ y : α, good y ∧ ∃ cs, W.cells? bb (x.add (i * z)) z = some cs ∧ CL W cs (av y).cells := by
     intro i hi
     have h1 := hgot i hi
     rw [hc, List.getElem?_eq_getElem (by omega), Option.bind_eq_some_iff] at h1
     obtain ⟨cs, h2, h3⟩ := h1
     obtain ⟨y, hy, hg⟩ := he encH W bb spare held n cs _ h3
     exact ⟨y, hg, cs, h2, hy⟩
   obtain ⟨xs, hxl, hxs⟩ := exists_list len each
   subst hxl
   refine ⟨xs, CL.one ?_, by omega, fun y hy => ?_⟩
   · by_cases h0 : xs = []
     · subst h0; exact .slemp x cap hm
     · have hpos : 0 < xs.length := List.length_pos_iff.2 h0
       obtain ⟨_, cs0, g2, g3⟩ := hxs 0 hpos
       obtain ⟨_, gl, gcell⟩ := World.cells?_some g2
       have g4 := gcell 0 hz0
       rw [List.getElem?_eq_getElem (by omega)] at g4
       have e1 : (x.add (0 * z)).add 0 = x := by simp [Addr.add]
       rw [e1] at g4
       have hs1 := World.cell?_spot g4
       obtain ⟨b, off, spot⟩ := x
       simp only at hs1
       subst hs1
       have hb := World.block_lt_of_cell? W _ g4
       have hcell : ∀ (i j : Nat) (X y : AV), (xs.map av)[i]? = some X → X.cells[j]? = some y → ∃ u, W.cell? ⟨b, off + i * z + j, none⟩ = some u ∧ VRep [] W u y := by
         intro i j X y hi hj
         rw [List.getElem?_map, Option.map_eq_some_iff] at hi
         obtain ⟨q, hq, rfl⟩ := hi
         have hlt := (List.getElem?_eq_some_iff.1 hq).1
         obtain ⟨_, cs, c1, c2, c3⟩ := hxs i hlt
         have hqe : xs[i] = q := by rw [List.getElem?_eq_getElem hlt] at hq; exact Option.some.inj hq
         rw [hqe] at c2 c3
         obtain ⟨_, cl, ccell⟩ := World.cells?_some c1
         have hjz : j < z := by have := (List.getElem?_eq_some_iff.1 hj).1; rw [hz] at this; exact this
         have h3 := ccell j hjz
         rw [addr_add, addr_add] at h3
         rw [h3, List.getElem?_eq_getElem (by omega)]
         exact ⟨_, rfl, c3 j _ y (List.getElem?_eq_getElem (by omega)) hj⟩
       have : VRep [] W (.slice (some ⟨b, off, none⟩) (xs.map av).length cap) (.sl (xs.map av)) := by
         refine .sl b off cap z _ (by rw [List.length_map]; omega) hm hb (fun h hh => by cases hh) (fun X hX => ?_) (fun i j X y hi hj => ?_) (fun i j X y u hi hj hu => ?_)
         · obtain ⟨q, _, rfl⟩ := List.mem_map.1 hX
           exact hz q
         · obtain ⟨u, h1, _⟩ := hcell i j X y hi hj
           exact ⟨u, h1⟩
         · obtain ⟨u', h1, h2⟩ := hcell i j X y hi hj
           rw [h1] at hu; cases hu; exact h2
       rwa [List.length_map] at this
   · obtain ⟨i, hi, rfl⟩ := List.getElem_of_mem hy
     exact (hxs i hi).1
section
variable {P : Program} {T : TypeId} {α : Type} {av : α → AV} {good : α → Prop} {H : Type} {encH : TypeId × Value → H} {W : World} {b0 bb : Nat} {spare : Nat → Bool} {held : Bool} {v : Value} {d : DataW H} {p : List MemPlace} {r : Reach}
theorem top_one (ho : Opn P T av good) (hc : v.cells = #[v]) (h1 : ∀ x, (av x).cells = [av x]) (h : DataW.Trod encH P W bb spare held T v d p) : ∃ x : α, VRep [] W v (av x) ∧ good x := by
 obtain ⟨fuel, hf⟩ := h
 obtain ⟨x, hx, hg⟩ := ho encH W bb spare held fuel _ _ hf
 rw [hc, h1] at hx
 exact ⟨x, hx.2 0 _ _ rfl rfl, hg⟩
theorem top_slice {e : TypeId} (ht : P.underlying T = some (.slice e)) (ho : Opn P T av good) (h1 : ∀ x, (av x).cells = [av x]) (hv : Value.okWide P W r b0 T v) (h : DataW.Trod encH P W bb spare held T v d p) : ∃ x : α, VRep [] W v (av x) ∧ good x := by
 obtain ⟨a, l, c, rfl⟩ := okWide_slice ht hv
 exact top_one ho rfl h1 h
theorem top_agg {u : TypeDesc} (ht : P.underlying T = some u) (hA : isA u = true) (ho : Opn P T av good) (h1 : ∀ x, av x = .agg (av x).cells) (hv : Value.okWide P W r b0 T v) (h : DataW.Trod encH P W bb spare held T v d p) : ∃ x : α, VRep [] W v (av x) ∧ good x := by
 have hv2 : ∃ cs : Array Value, v = .agg cs := by
   simp only [Value.okWide, ht] at hv
   cases u <;> cases hA
   · obtain ⟨cs, h1, _⟩ := hv; exact ⟨cs, h1⟩
   · obtain ⟨cs, h1, _⟩ := hv; exact ⟨cs, h1⟩
 obtain ⟨cs, rfl⟩ := hv2
 obtain ⟨fuel, hf⟩ := h
 obtain ⟨x, hx, hg⟩ := ho encH W bb spare held fuel _ _ hf
 refine ⟨x, ?_, hg⟩
 rw [h1 x]
 exact .agg _ _ (by have := hx.1; simpa [Value.cells] using this) fun j u' z k1 k2 => hx.2 j u' z (by simpa [Value.cells] using k1) k2
end
end Go.Proofs.YtcndnllmlhhjiaaGreatDoor
namespace Go.Proofs.YtcndnllmlhhjiaaGreatDoor
open Go.ChangeShapes Go.WideShapes Go.ChangeAt Go.RowKit
theorem cz3 : Tryz.prog.cellsOf 3 = 1 := by kernel_rfl
theorem cz9 : Tryz.prog.cellsOf 9 = 1 := by kernel_rfl
theorem cz22 : Tryz.prog.cellsOf 22 = 1 := by kernel_rfl
theorem cz23 : Tryz.prog.cellsOf 23 = 1 := by kernel_rfl
theorem cz25 : Tryz.prog.cellsOf 25 = 2 := by kernel_rfl
theorem cz50 : Tryz.prog.cellsOf 50 = 6 := by kernel_rfl
theorem cz75 : Tryz.prog.cellsOf 75 = 3 := by kernel_rfl
theorem cz108 : Tryz.prog.cellsOf 108 = 4 := by kernel_rfl

def good_Stk.aIt (x : StockP.It) : Prop := (fit1) x.id ∧ (fit1) x.free ∧ (fit1) x.held ∧ (fit1) x.gone
theorem opn_Stk.aIt : Opn Tryz.prog 108 Stk.aIt good_Stk.aIt := by
 intro H encH W bb spare held m cs y h
 obtain ⟨xs, m2, _, _, hl, hxl, hel⟩ := DataW.trod_struct U108 h
 have hn : xs.length = 4 := hxl
 rw [cz108] at hl
 have h0 : DataW.trod encH Tryz.prog W bb spare held m2 3 ((cs.drop 0).take (Tryz.prog.cellsOf 3)) = xs[0]? := hel 0 _ rfl
 rw [List.getElem?_eq_getElem (by omega), cz3] at h0
 obtain ⟨x0, c0, g0⟩ := (opn_i64 U3) encH W bb spare held _ _ _ h0
 have h1 : DataW.trod encH Tryz.prog W bb spare held m2 3 ((cs.drop 1).take (Tryz.prog.cellsOf 3)) = xs[1]? := hel 1 _ rfl
 rw [List.getElem?_eq_getElem (by omega), cz3] at h1
 obtain ⟨x1, c1, g1⟩ := (opn_i64 U3) encH W bb spare held _ _ _ h1
 have h2 : DataW.trod encH Tryz.prog W bb spare held m2 3 ((cs.drop 2).take (Tryz.prog.cellsOf 3)) = xs[2]? := hel 2 _ rfl
 rw [List.getElem?_eq_getElem (by omega), cz3] at h2
 obtain ⟨x2, c2, g2⟩ := (opn_i64 U3) encH W bb spare held _ _ _ h2
 have h3 : DataW.trod encH Tryz.prog W bb spare held m2 3 ((cs.drop 3).take (Tryz.prog.cellsOf 3)) = xs[3]? := hel 3 _ rfl
 rw [List.getElem?_eq_getElem (by omega), cz3] at h3
 obtain ⟨x3, c3, g3⟩ := (opn_i64 U3) encH W bb spare held _ _ _ h3
 have d3 := CL.last c3 (by rw [hl])
 have d2 := CL.join c2 d3 rfl rfl
 have d1 := CL.join c1 d2 rfl rfl
 have d0 := CL.join c0 d1 rfl rfl
 rw [List.drop_zero] at d0
 exact ⟨⟨x0, x1, x2, x3⟩, d0, g0, g1, g2, g3⟩

def good_Ssn.aSe (x : SessP.Se) : Prop := (fit1) x.client ∧ (fit1) x.seq ∧ (fun s => s.size ≤ maxLen) x.reply
theorem opn_Ssn.aSe : Opn Tryz.prog 75 Ssn.aSe good_Ssn.aSe := by
 intro H encH W bb spare held m cs y h
 obtain ⟨xs, m2, _, _, hl, hxl, hel⟩ := DataW.trod_struct U75 h
 have hn : xs.length = 3 := hxl
 rw [cz75] at hl
 have h0 : DataW.trod encH Tryz.prog W bb spare held m2 3 ((cs.drop 0).take (Tryz.prog.cellsOf 3)) = xs[0]? := hel 0 _ rfl
 rw [List.getElem?_eq_getElem (by omega), cz3] at h0
 obtain ⟨x0, c0, g0⟩ := (opn_i64 U3) encH W bb spare held _ _ _ h0
 have h1 : DataW.trod encH Tryz.prog W bb spare held m2 3 ((cs.drop 1).take (Tryz.prog.cellsOf 3)) = xs[1]? := hel 1 _ rfl
 rw [List.getElem?_eq_getElem (by omega), cz3] at h1
 obtain ⟨x1, c1, g1⟩ := (opn_i64 U3) encH W bb spare held _ _ _ h1
 have h2 : DataW.trod encH Tryz.prog W bb spare held m2 9 ((cs.drop 2).take (Tryz.prog.cellsOf 9)) = xs[2]? := hel 2 _ rfl
 rw [List.getElem?_eq_getElem (by omega), cz9] at h2
 obtain ⟨x2, c2, g2⟩ := (opn_str U9) encH W bb spare held _ _ _ h2
 have d2 := CL.last c2 (by rw [hl])
 have d1 := CL.join c1 d2 rfl rfl
 have d0 := CL.join c0 d1 rfl rfl
 rw [List.drop_zero] at d0
 exact ⟨⟨x0, x1, x2⟩, d0, g0, g1, g2⟩

def good_aSt (x : St) : Prop := (fun l => l.length ≤ maxLen ∧ ∀ x, x ∈ l → (good_Stk.aIt) x) x.1 ∧ (fun l => l.length ≤ maxLen ∧ ∀ x, x ∈ l → (good_Ssn.aSe) x) x.2
theorem opn_aSt : Opn Tryz.prog 25 aSt good_aSt := by
 intro H encH W bb spare held m cs y h
 obtain ⟨xs, m2, _, _, hl, hxl, hel⟩ := DataW.trod_struct U25 h
 have hn : xs.length = 2 := hxl
 rw [cz25] at hl
 have h0 : DataW.trod encH Tryz.prog W bb spare held m2 22 ((cs.drop 0).take (Tryz.prog.cellsOf 22)) = xs[0]? := hel 0 _ rfl
 rw [List.getElem?_eq_getElem (by omega), cz22] at h0
 obtain ⟨x0, c0, g0⟩ := (opn_slice U22 cz108 (by decide) (fun _ => rfl) opn_Stk.aIt) encH W bb spare held _ _ _ h0
 have h1 : DataW.trod encH Tryz.prog W bb spare held m2 23 ((cs.drop 1).take (Tryz.prog.cellsOf 23)) = xs[1]? := hel 1 _ rfl
 rw [List.getElem?_eq_getElem (by omega), cz23] at h1
 obtain ⟨x1, c1, g1⟩ := (opn_slice U23 cz75 (by decide) (fun _ => rfl) opn_Ssn.aSe) encH W bb spare held _ _ _ h1
 have d1 := CL.last c1 (by rw [hl])
 have d0 := CL.join c0 d1 rfl rfl
 rw [List.drop_zero] at d0
 exact ⟨⟨x0, x1⟩, d0, g0, g1⟩

def good_aCo (x : Co) : Prop := (fit1) x.client ∧ (fit1) x.seq ∧ (fun s => s.size ≤ maxLen) x.payload ∧ (fit1) x.start ∧ (fit1) x.end_ ∧ (fun s => s.size ≤ maxLen) x.reply
theorem opn_aCo : Opn Tryz.prog 50 aCo good_aCo := by
 intro H encH W bb spare held m cs y h
 obtain ⟨xs, m2, _, _, hl, hxl, hel⟩ := DataW.trod_struct U50 h
 have hn : xs.length = 6 := hxl
 rw [cz50] at hl
 have h0 : DataW.trod encH Tryz.prog W bb spare held m2 3 ((cs.drop 0).take (Tryz.prog.cellsOf 3)) = xs[0]? := hel 0 _ rfl
 rw [List.getElem?_eq_getElem (by omega), cz3] at h0
 obtain ⟨x0, c0, g0⟩ := (opn_i64 U3) encH W bb spare held _ _ _ h0
 have h1 : DataW.trod encH Tryz.prog W bb spare held m2 3 ((cs.drop 1).take (Tryz.prog.cellsOf 3)) = xs[1]? := hel 1 _ rfl
 rw [List.getElem?_eq_getElem (by omega), cz3] at h1
 obtain ⟨x1, c1, g1⟩ := (opn_i64 U3) encH W bb spare held _ _ _ h1
 have h2 : DataW.trod encH Tryz.prog W bb spare held m2 9 ((cs.drop 2).take (Tryz.prog.cellsOf 9)) = xs[2]? := hel 2 _ rfl
 rw [List.getElem?_eq_getElem (by omega), cz9] at h2
 obtain ⟨x2, c2, g2⟩ := (opn_str U9) encH W bb spare held _ _ _ h2
 have h3 : DataW.trod encH Tryz.prog W bb spare held m2 3 ((cs.drop 3).take (Tryz.prog.cellsOf 3)) = xs[3]? := hel 3 _ rfl
 rw [List.getElem?_eq_getElem (by omega), cz3] at h3
 obtain ⟨x3, c3, g3⟩ := (opn_i64 U3) encH W bb spare held _ _ _ h3
 have h4 : DataW.trod encH Tryz.prog W bb spare held m2 3 ((cs.drop 4).take (Tryz.prog.cellsOf 3)) = xs[4]? := hel 4 _ rfl
 rw [List.getElem?_eq_getElem (by omega), cz3] at h4
 obtain ⟨x4, c4, g4⟩ := (opn_i64 U3) encH W bb spare held _ _ _ h4
 have h5 : DataW.trod encH Tryz.prog W bb spare held m2 9 ((cs.drop 5).take (Tryz.prog.cellsOf 9)) = xs[5]? := hel 5 _ rfl
 rw [List.getElem?_eq_getElem (by omega), cz9] at h5
 obtain ⟨x5, c5, g5⟩ := (opn_str U9) encH W bb spare held _ _ _ h5
 have d5 := CL.last c5 (by rw [hl])
 have d4 := CL.join c4 d5 rfl rfl
 have d3 := CL.join c3 d4 rfl rfl
 have d2 := CL.join c2 d3 rfl rfl
 have d1 := CL.join c1 d2 rfl rfl
 have d0 := CL.join c0 d1 rfl rfl
 rw [List.drop_zero] at d0
 exact ⟨⟨x0, x1, x2, x3, x4, x5⟩, d0, g0, g1, g2, g3, g4, g5⟩
end Go.Proofs.YtcndnllmlhhjiaaGreatDoor
namespace Go.Proofs.YtcndnllmlhhjiaaGreatDoor
open Go.RowKit
open NumP
open Go.WideShapes
theorem lineSearches_law (W : World) (hg : GOk [] W) (v0 : Value) (x0 : St) (rp0 : VRep [] W v0 (aSt x0)) (gd0 : (good_aSt) x0) (v1 : Value) (x1 : (List Co)) (rp1 : VRep [] W v1 ((fun l : List Co => AV.sl (l.map aCo)) x1)) (gd1 : (fun l => l.length ≤ maxLen ∧ ∀ x, x ∈ l → (good_aCo) x) x1) :
   Calls Tryz.prog 4 #[v0, v1] W fun e W' => e = .returned (.bool true) ∧ Below W.heap.size W W' := by
 skip
 exact law_of_fn (sear_fn x0 x1 ) hg (.cons rp0 (.cons rp1 (.nil)))
end Go.Proofs.YtcndnllmlhhjiaaGreatDoor
