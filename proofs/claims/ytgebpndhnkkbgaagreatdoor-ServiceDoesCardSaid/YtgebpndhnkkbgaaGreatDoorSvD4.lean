/- The texts that the law ServiceDoes rests on, part 4: AmStockC, AmNum, TextLaw, AmText, AmLaw, CloneLib, CloneI, AmCl, AmBask, CallLaw, ServPlain, AmClR. -/
import Derived.Test.YtgebpndhnkkbgaaGreatDoorSvD3
import Derived.WideShapes
open Go.Proofs.Tryz renaming underlying3 → U3, underlying4 → U4, underlying9 → U9, underlying22 → U22, underlying23 → U23, underlying25 → U25, underlying28 → U28, underlying29 → U29, underlying31 → U31, underlying53 → U53, underlying64 → U64, underlying100 → U100, underlying108 → U108, underlying139 → U139, underlying165 → U165, underlying172 → U172, underlying211 → U211
namespace Go.Proofs.YtgebpndhnkkbgaaGreatDoor.Stk
set_option linter.unusedVariables false
set_option linter.unusedSimpArgs false
open Go.RowKit
open StockP
set_option maxRecDepth 100000
set_option maxHeartbeats 1000000 in
theorem checkR_fn (l : List It) : FnP Tryz.prog 30 [.sl (l.map aIt)] (.int .i64 (okE l)) := by
  refine FnP.of Tryz.func30 rfl rfl (by simp) (by simp [AV.cells, aIt]) (fun G hG => ?_)
  have hN : NoH G.length (.int .i64 (okE l)) := (by simp [AV.cells, aIt])
  refine sr fun _ => ?_
  refine mz ?_
  refine AWP.seq ?_
  refine sr fun _ => ?_
  refine mv ?_
  refine ρw U22 ?_
  refine ρ1 ?_
  refine ez ?_
  refine ρn (fun h0 => ?_) (fun h0 => ?_)
  · try simp [-List.getD_eq_getElem?_getD] at h0
    refine sr fun _ => ?_
    refine mz ?_
    refine AWP.ret (thenA_r ?_)
    refine ρd ?_
    rw [okE_big (by omega)]; rfl
  try simp [-List.getD_eq_getElem?_getD] at h0
  refine AWP.skip (thenA_n (AWP.seq ?_))
  refine sr fun _ => ?_
  refine mz ?_
  refine AWP.block ?_
  refine AWP.rounds (fun k => k ≤ l.length ∧ okFrom 0 (l.take k) = true) (fun k => [(0, .sl (l.map aIt)), (3, .int .i64 (k : Int))]) (fun k => []) (fun k => l.length - k) 0 0 ⟨by omega, rfl⟩ (by repeat (first | exact .nil | refine .cons rfl ?_)) rfl (fun _ => rfl) (fun _ => (by simp [AO.conts, AV.cells, aIt])) (fun k hI => ?_)
  obtain ⟨hk, hok⟩ := hI
  have hmy := may_iff (x := l.getD k default)
  refine AWP.seq ?_
  refine sr fun _ => ?_
  refine mv ?_
  refine mv ?_
  refine ρw U22 ?_
  refine ρ1 ?_
  refine ez ?_
  refine ρn (fun h1 => ?_) (fun h1 => ?_)
  · try simp [-List.getD_eq_getElem?_getD] at h1
    refine AWP.skip (thenA_n ?_)
    refine AWP.seq (AWP.block ?_)
    refine sr fun _ => ?_
    refine mv ?_
    refine mv ?_
    first | refine ARun.indexSl rfl rfl rfl rfl U22 sz64 (ep rfl) (ep rfl) (fun _ => rfl) (fun hg => getMap _ _ _ (by (try simp [-List.getD_eq_getElem?_getD] at hg); omega)) rfl rfl optN ?_ | refine ARun.indexSl rfl rfl rfl rfl U22 sz64 (ep rfl) (ep rfl) (fun hg => ofNonneg (by (try simp [-List.getD_eq_getElem?_getD] at hg); omega)) (fun hg => getMap _ _ _ (by (try simp [-List.getD_eq_getElem?_getD] at hg); omega)) rfl rfl optN ?_
    refine ρq U64 sz64 ?_
    refine ρs (j := 0) zv64 ?_
    refine ρ2 sz64 ?_
    refine ez ?_
    refine AWP.seq ?_
    refine AWP.draw mixed (by kernel_rfl) (fun _ => ?_)
    refine ρ7 (fo := 0) U64 sz3 ?_
    refine ρf U3 ?_
    refine ρ1 ?_
    refine mv ?_
    refine ρr (fo := 0) U64 sz3 ?_
    refine ρo U3 ?_
    refine ρ6 ?_
    refine ρ4 ?_
    refine mv ?_
    refine ρr (fo := 1) U64 sz3 ?_
    refine ρo U3 ?_
    refine ρ6 ?_
    refine ρ4 ?_
    refine mv ?_
    refine ρr (fo := 2) U64 sz3 ?_
    refine ρo U3 ?_
    refine ρ6 ?_
    refine ρ4 ?_
    refine mv ?_
    refine ρr (fo := 3) U64 sz3 ?_
    refine ρo U3 ?_
    refine ρ6 ?_
    refine ρ4 ?_
    refine mv ?_
    refine ρr (fo := 1) U64 sz3 ?_
    refine ρo U3 ?_
    refine ρ6 ?_
    refine ρ4 ?_
    refine mv ?_
    refine ρr (fo := 2) U64 sz3 ?_
    refine ρo U3 ?_
    refine ρr (fo := 1) U64 sz3 ?_
    refine ρo U3 ?_
    first | refine ARun.arith rfl rfl rfl rfl (ep rfl) (Ev.opt rfl (fun h => h)) rfl (fun hg => i64w (by (try simp [-List.getD_eq_getElem?_getD] at hg); omega)) optS ?_ | refine ARun.arith rfl rfl rfl rfl (ep rfl) (Ev.opt rfl (fun h => h)) rfl (fun _ => rfl) optS ?_
    refine ρv ?_
    refine ρ4 ?_
    refine mv ?_
    refine ρr (fo := 3) U64 sz3 ?_
    refine ρo U3 ?_
    refine ρr (fo := 1) U64 sz3 ?_
    refine ρo U3 ?_
    first | refine ARun.arith rfl rfl rfl rfl (ep rfl) (Ev.opt rfl (fun h => h)) rfl (fun hg => i64w (by (try simp [-List.getD_eq_getElem?_getD] at hg); omega)) optS ?_ | refine ARun.arith rfl rfl rfl rfl (ep rfl) (Ev.opt rfl (fun h => h)) rfl (fun _ => rfl) optS ?_
    refine ρr (fo := 2) U64 sz3 ?_
    refine ρo U3 ?_
    first | refine ARun.arith rfl rfl rfl rfl (Ev.opt rfl (fun h => h)) (Ev.opt rfl (fun h => h)) rfl (fun hg => i64w (by (try simp [-List.getD_eq_getElem?_getD] at hg); omega)) optS ?_ | refine ARun.arith rfl rfl rfl rfl (Ev.opt rfl (fun h => h)) (Ev.opt rfl (fun h => h)) rfl (fun _ => rfl) optS ?_
    refine ρv ?_
    refine ρ4 ?_
    refine mv ?_
    refine ρj ?_
    refine ρ6 ?_
    refine ARun.move (.inl rfl) rfl rfl rfl (Ev.opt rfl (fun h => h)) optS ?_
    refine ρj ?_
    refine ρj ?_
    first | refine ARun.arith rfl rfl rfl rfl (Ev.opt rfl (fun h => h)) (ep rfl) rfl (fun hg => i64w (by (try simp [-List.getD_eq_getElem?_getD] at hg); omega)) optS ?_ | refine ARun.arith rfl rfl rfl rfl (Ev.opt rfl (fun h => h)) (ep rfl) rfl (fun _ => rfl) optS ?_
    first | refine ARun.indexSl rfl rfl rfl rfl U22 sz64 (Ev.opt rfl (fun h => h)) (Ev.opt rfl (fun h => h)) (fun _ => rfl) (fun hg => getMap _ _ _ (by (try simp [-List.getD_eq_getElem?_getD] at hg); omega)) rfl rfl optS ?_ | refine ARun.indexSl rfl rfl rfl rfl U22 sz64 (Ev.opt rfl (fun h => h)) (Ev.opt rfl (fun h => h)) (fun hg => ofNonneg (by (try simp [-List.getD_eq_getElem?_getD] at hg); omega)) (fun hg => getMap _ _ _ (by (try simp [-List.getD_eq_getElem?_getD] at hg); omega)) rfl rfl optS ?_
    refine ρz U64 sz3 ?_
    refine ρ3 U3 ?_
    refine ρr (fo := 0) U64 sz3 ?_
    refine ρo U3 ?_
    refine ρv ?_
    refine ARun.pick rfl rfl rfl rfl (Ev.opt rfl (fun h => h)) (Ev.opt rfl (by first | exact pkT | exact pkT2 | simp +contextual)) (ep rfl) (andB _ _) optS ?_
    refine ρ4 ?_
    refine ⟨by kernel_rfl, _, _, rfl, hG, ?_⟩
    refine thenA_n ?_
    refine ρn (fun h2 => ?_) (fun h2 => ?_)
    · try simp [-List.getD_eq_getElem?_getD] at h2
      refine sr fun _ => ?_
      refine mz ?_
      refine AWP.ret (blockA_r ?_)
      refine thenA_r (thenA_r ?_)
      refine blockA_r (thenA_r ?_)
      refine ρd ?_
      rw [chk_bad h1 (by
        cases hm : may (l.getD k default) with
        | false => exact .inl rfl
        | true => rw [hm] at hmy; have := hmy.1 rfl; right; omega)]; rfl
    try simp [-List.getD_eq_getElem?_getD] at h2
    refine AWP.skip (blockA_n (thenA_n ?_))
    refine AWP.region (fun _ => ?_)
    refine mv ?_
    first | refine ARun.arith rfl rfl rfl rfl (ep rfl) (ep rfl) rfl (fun hg => i64w (by (try simp [-List.getD_eq_getElem?_getD] at hg); omega)) optN ?_ | refine ρk ?_
    refine ma ?_
    refine ⟨_, _, rfl, hG, ?_⟩
    refine thenA_n ⟨rfl, k + 1, _, ?_, ?_, rfl, ?_⟩
    · exact ⟨by omega, chk_go h1 hok ⟨hmy.2 (by omega), fun hk0 => by omega⟩⟩
    · repeat (first | exact .nil | refine .cons rfl ?_)
    omega
  try simp [-List.getD_eq_getElem?_getD] at h1
  refine AWP.exit ?_
  refine thenA_x ?_
  refine thenA_x ?_
  refine blockA_h ?_
  refine thenA_n ?_
  refine sr fun _ => ?_
  refine mz ?_
  refine AWP.ret ?_
  refine ρd ?_
  rw [okE_good (by omega) (by rw [← List.take_of_length_le h1]; exact hok)]; rfl
set_option maxHeartbeats 1000000 in
theorem findR_fn (l : List It) (id : Int) (hl : l.length ≤ 9223372036854775807) : FnP Tryz.prog 37 [.sl (l.map aIt), .int .i64 id] (.tup [aIt (findT l id).1, .bool (findT l id).2]) := by
  refine FnP.of Tryz.func37 rfl rfl (by simp) (by simp [AV.cells, aIt]) (fun G hG => ?_)
  have hN : NoH G.length (.tup [aIt (findT l id).1, .bool (findT l id).2]) := (by simp [AV.cells, aIt])
  refine sr fun _ => ?_
  refine ρs (j := 0) zv64 ?_
  refine mz ?_
  refine AWP.seq ?_
  refine sr fun _ => ?_
  refine mz ?_
  refine AWP.block ?_
  refine AWP.rounds (fun k => k ≤ l.length ∧ ∀ j, j < k → ((l.getD j default).id == id) = false) (fun k => [(0, .sl (l.map aIt)), (1, .int .i64 id), (4, .box (G.length + 0) 0), (5, .bool false), (6, .int .i64 (k : Int))]) (fun k => [.box [.int .i64 0, .int .i64 0, .int .i64 0, .int .i64 0]]) (fun k => l.length - k) 1 0 ⟨by omega, fun j h => by omega⟩ (by repeat (first | exact .nil | refine .cons rfl ?_)) rfl (fun _ => rfl) (fun _ => (by simp [AO.conts, AV.cells, aIt])) (fun k hI => ?_)
  obtain ⟨hk, hno⟩ := hI
  refine AWP.seq ?_
  refine sr fun _ => ?_
  refine mv ?_
  refine mv ?_
  refine ρw U22 ?_
  refine ρ1 ?_
  refine ez ?_
  refine ρn (fun h0 => ?_) (fun h0 => ?_)
  · try simp [-List.getD_eq_getElem?_getD] at h0
    refine AWP.skip (thenA_n ?_)
    refine AWP.seq (AWP.block ?_)
    refine sr fun _ => ?_
    refine mv ?_
    refine mv ?_
    first | refine ρh U22 sz64 ?_ | refine ρa U22 sz64 ?_
    refine ρ5 U64 sz3 ?_
    refine ρb U3 ?_
    refine mv ?_
    refine ρ1 ?_
    refine ez ?_
    refine ρn (fun h1 => ?_) (fun h1 => ?_)
    · try simp [-List.getD_eq_getElem?_getD] at h1
      refine sr fun _ => ?_
      refine mv ?_
      refine mv ?_
      first | refine ρh U22 sz64 ?_ | refine ρa U22 sz64 ?_
      refine ρq U64 sz64 ?_
      refine ρ2 sz64 ?_
      refine mz ?_
      refine AWP.ret (blockA_r ?_)
      refine thenA_r (thenA_r ?_)
      refine blockA_r (thenA_r ?_)
      refine ρe (rs := [.cell 4 64, .tmp 5]) (.cons (.cellA rfl ((hG.at _ _).trans rfl) U64 rfl sz64 rfl rfl) (.cons (.tmp rfl) .nil)) ?_
      have hi := (idxOf_idx (fun x : It => x.id == id) l).symm.trans (idx_hit (p := fun x : It => x.id == id) h0 hno (by simp [-List.getD_eq_getElem?_getD]; omega))
      rw [find_yes (by omega), hi, Int.toNat_natCast]; rfl
    try simp [-List.getD_eq_getElem?_getD] at h1
    refine AWP.skip (blockA_n (thenA_n ?_))
    refine AWP.region (fun _ => ?_)
    refine mv ?_
    first | refine ρc ?_ | refine ρk ?_
    refine ma ?_
    refine ⟨_, _, rfl, hG, ?_⟩
    refine thenA_n ⟨rfl, k + 1, _, ?_, ?_, rfl, ?_⟩
    · refine ⟨by omega, fun j hj => ?_⟩
      by_cases e : j = k
      · subst e; simp [-List.getD_eq_getElem?_getD]; omega
      exact hno j (by omega)
    · repeat (first | exact .nil | refine .cons rfl ?_)
    omega
  try simp [-List.getD_eq_getElem?_getD] at h0
  refine AWP.exit ?_
  refine thenA_x ?_
  refine thenA_x ?_
  refine blockA_h ?_
  refine thenA_n ?_
  refine sr fun _ => ?_
  refine ARun.build rfl rfl rfl rfl so64 .nil rfl rfl optN ?_
  refine ρ2 sz64 ?_
  refine mz ?_
  refine AWP.ret ?_
  refine ρe (rs := [.cell 4 64, .tmp 5]) (.cons (.cellA rfl ((hG.at _ _).trans rfl) U64 rfl sz64 rfl rfl) (.cons (.tmp rfl) .nil)) ?_
  have hi := (idxOf_idx (fun x : It => x.id == id) l).symm.trans (idx_none (p := fun x : It => x.id == id) (l := l) (fun j hj => hno j (by omega)))
  rw [find_no (by omega)]; rfl
set_option maxHeartbeats 1000000 in
theorem put_fn (l : List It) (x : It) (hl : l.length ≤ 1000) : FnP Tryz.prog 75 [.sl (l.map aIt), aIt x] (.sl ((put l x).map aIt)) := by
  refine FnP.of Tryz.func75 rfl rfl (by simp) (by simp [AV.cells, aIt]) (fun G hG => ?_)
  have hN : NoH G.length (.sl ((put l x).map aIt)) := (by simp [AV.cells, aIt])
  refine sr fun _ => ?_
  refine ARun.box (j := 0) hG rfl rfl rfl rfl rfl (ep rfl) rfl rfl optN ?_
  refine mz ?_
  refine sr fun _ => ?_
  refine ARun.nilOwn (e := 64) (z := 4) (j := 1) hG rfl ⟨.inl rfl, rfl⟩ (fun _ => rfl) rfl rfl rfl optN ?_
  refine ez ?_
  refine AWP.seq ?_
  refine sr fun _ => ?_
  refine mz ?_
  refine AWP.block ?_
  refine AWP.rounds (fun s => s.1 ≤ l.length ∧ s.2 = l.take s.1 ∧ ∀ j, j < s.1 → (l.getD j default).id < x.id) (fun s => [(0, .sl (l.map aIt)), (3, .box (G.length + 0) 0), (5, .own (G.length + 1) s.1), (6, .int .i64 (s.1 : Int))]) (fun s => [.box [.int .i64 x.id, .int .i64 x.free, .int .i64 x.held, .int .i64 x.gone], .row s.1 64 4 (s.2.map aIt)]) (fun s => l.length - s.1) 2 ((0, []) : Nat × List It) ⟨by dsimp only; omega, rfl, fun j h => by dsimp only at h; omega⟩ (by repeat (first | exact .nil | refine .cons rfl ?_)) rfl (fun _ => rfl) (fun _ => (by simp [AO.conts, AV.cells, aIt]; rintro y a _ (rfl | rfl | rfl | rfl) <;> simp)) (fun s hI => ?_)
  obtain ⟨k, acc⟩ := s
  dsimp only at hI
  show AWP _ _ _ _ _ [(0, .sl (l.map aIt)), (3, .box (G.length + 0) 0), (5, .own (G.length + 1) k), (6, .int .i64 (k : Int))] _ [.box [.int .i64 x.id, .int .i64 x.free, .int .i64 x.held, .int .i64 x.gone], .row k 64 4 (acc.map aIt)]
  obtain ⟨hk, hacc0, hno⟩ := hI
  have hl0 : acc.length ≤ 1000 := by rw [hacc0]; simp; omega
  refine AWP.seq (AWP.seq ?_)
  refine AWP.draw mixed (by kernel_rfl) (fun _ => ?_)
  refine mv ?_
  refine mv ?_
  refine ρw U22 ?_
  refine ρ1 ?_
  refine mv ?_
  refine ρj ?_
  refine ρj ?_
  first | refine ρx U22 sz64 ?_ | refine ρt U22 sz64 ?_
  refine ρz U64 sz3 ?_
  refine ρ3 U3 ?_
  refine ρr (fo := 0) U64 sz3 ?_
  refine ρo U3 ?_
  refine ρv ?_
  refine ρ0 ?_
  refine ⟨by kernel_rfl, _, _, rfl, hG, ?_⟩
  refine thenA_n ?_
  refine ρn (fun h0 => ?_) (fun h0 => ?_)
  · try simp [-List.getD_eq_getElem?_getD] at h0
    refine AWP.skip (thenA_n ?_)
    refine AWP.seq (AWP.block ?_)
    refine AWP.region (fun _ => ?_)
    refine mv ?_
    refine mv ?_
    refine mv ?_
    first | refine ρh U22 sz64 ?_ | refine ρa U22 sz64 ?_
    refine ρq U64 sz64 ?_
    refine ARun.buildSl rfl rfl rfl rfl U22 sz64 zv64 rfl (by decide) (.cons (ep rfl) .nil) rfl rfl rfl rfl (by decide) rfl rfl optN ?_
    refine ARun.appendL hG rfl rfl rfl rfl U22 ti64 rfl (by decide) (ep rfl) (ep rfl) rfl rfl (by simp [maxLen]; omega) (by simp; omega) (map_snoc aIt acc (l.getD k default)) optN rfl ?_
    refine ma ?_
    refine ⟨_, _, rfl, hG, ?_⟩
    refine blockA_n (thenA_n ?_)
    refine AWP.region (fun _ => ?_)
    refine mv ?_
    first | refine ρc ?_ | refine ρk ?_
    refine ma ?_
    refine ⟨_, _, rfl, hG, ?_⟩
    refine thenA_n ⟨rfl, (k + 1, acc ++ [l.getD k default]), _, ?_, ?_, rfl, ?_⟩
    · refine ⟨by dsimp only; omega, by dsimp only; rw [hacc0]; exact (take_snoc2 h0.1), fun j hj => ?_⟩
      dsimp only at hj
      by_cases e : j = k
      · subst e; omega
      exact hno j (by omega)
    · repeat (first | exact .nil | refine .cons rfl ?_)
    dsimp only; omega
  try simp [-List.getD_eq_getElem?_getD] at h0
  refine AWP.exit ?_
  refine thenA_x ?_
  refine thenA_x ?_
  refine blockA_h ?_
  refine thenA_n ?_
  refine sr fun _ => ?_
  refine mv ?_
  refine ρp U64 sz64 ?_
  refine ARun.buildSl rfl rfl rfl rfl U22 sz64 zv64 rfl (by decide) (.cons (ep rfl) .nil) rfl rfl rfl rfl (by decide) rfl rfl optN ?_
  refine ARun.appendL hG rfl rfl rfl rfl U22 ti64 rfl (by decide) (ep rfl) (ep rfl) rfl rfl (by simp [maxLen]; omega) (by simp; omega) (map_snoc aIt acc x) optN rfl ?_
  refine mz ?_
  refine AWP.seq ?_
  refine sr fun _ => ?_
  refine mz ?_
  refine AWP.block ?_
  refine AWP.rounds (fun s => s.1 ≤ l.length ∧ s.2.2 = l.takeWhile (fun y => decide (y.id < x.id)) ++ [x] ++ (l.take s.1).filter (fun y => decide (x.id < y.id)) ∧ s.2.2.length ≤ l.length + 1 + s.1) (fun s => [(0, .sl (l.map aIt)), (3, .box (G.length + 0) 0), (5, .own (G.length + 1) s.2.1), (7, .int .i64 (s.1 : Int))]) (fun s => [.box [.int .i64 x.id, .int .i64 x.free, .int .i64 x.held, .int .i64 x.gone], .row s.2.1 64 4 (s.2.2.map aIt)]) (fun s => l.length - s.1) 2 ((0, k + 1, acc ++ [x]) : Nat × Nat × List It) ⟨by dsimp only; omega, by dsimp only; rw [hacc0, tw_is hk hno (by omega)]; simp, by rw [hacc0]; simp; omega⟩ (by repeat (first | exact .nil | refine .cons rfl ?_)) rfl (fun _ => rfl) (fun _ => (by simp [AO.conts, AV.cells, aIt]; rintro y a _ (rfl | rfl | rfl | rfl) <;> simp)) (fun s hI => ?_)
  obtain ⟨kk, gg, acc⟩ := s
  dsimp only at hI
  show AWP _ _ _ _ _ [(0, .sl (l.map aIt)), (3, .box (G.length + 0) 0), (5, .own (G.length + 1) gg), (7, .int .i64 (kk : Int))] _ [.box [.int .i64 x.id, .int .i64 x.free, .int .i64 x.held, .int .i64 x.gone], .row gg 64 4 (acc.map aIt)]
  obtain ⟨hk2, hacc, hlen⟩ := hI
  refine AWP.seq ?_
  refine sr fun _ => ?_
  refine mv ?_
  refine mv ?_
  refine ρw U22 ?_
  refine ρ1 ?_
  refine ez ?_
  refine ρn (fun h1 => ?_) (fun h1 => ?_)
  · try simp [-List.getD_eq_getElem?_getD] at h1
    refine AWP.skip (thenA_n ?_)
    refine AWP.seq (AWP.block (AWP.seq ?_))
    refine AWP.draw mixed (by kernel_rfl) (fun _ => ?_)
    refine mv ?_
    refine mv ?_
    first | refine ρh U22 sz64 ?_ | refine ρa U22 sz64 ?_
    refine ρ5 U64 sz3 ?_
    refine ρb U3 ?_
    refine ρ7 (fo := 0) U64 sz3 ?_
    refine ρf U3 ?_
    refine ρ1 ?_
    refine ⟨by kernel_rfl, _, _, rfl, hG, ?_⟩
    refine thenA_n ?_
    refine ρn (fun h2 => ?_) (fun h2 => ?_)
    · try simp [-List.getD_eq_getElem?_getD] at h2
      refine AWP.region (fun _ => ?_)
      refine mv ?_
      refine mv ?_
      refine mv ?_
      first | refine ρh U22 sz64 ?_ | refine ρa U22 sz64 ?_
      refine ρq U64 sz64 ?_
      refine ARun.buildSl rfl rfl rfl rfl U22 sz64 zv64 rfl (by decide) (.cons (ep rfl) .nil) rfl rfl rfl rfl (by decide) rfl rfl optN ?_
      refine ARun.appendL hG rfl rfl rfl rfl U22 ti64 rfl (by decide) (ep rfl) (ep rfl) rfl rfl (by simp [maxLen]; omega) (by simp; omega) (map_snoc aIt acc (l.getD kk default)) optN rfl ?_
      refine ma ?_
      refine ⟨_, _, rfl, hG, ?_⟩
      refine blockA_n (thenA_n ?_)
      refine AWP.region (fun _ => ?_)
      refine mv ?_
      first | refine ρc ?_ | refine ρk ?_
      refine ma ?_
      refine ⟨_, _, rfl, hG, ?_⟩
      refine thenA_n ⟨rfl, (kk + 1, gg + 1, acc ++ [l.getD kk default]), _, ?_, ?_, rfl, ?_⟩
      · refine ⟨by dsimp only; omega, ?_, by simp; omega⟩
        dsimp only; rw [hacc, List.append_assoc]; congr 1; exact flt_yes h1 (by simpa using h2)
      · repeat (first | exact .nil | refine .cons rfl ?_)
      dsimp only; omega
    try simp [-List.getD_eq_getElem?_getD] at h2
    refine AWP.skip (blockA_n (thenA_n ?_))
    refine AWP.region (fun _ => ?_)
    refine mv ?_
    first | refine ρc ?_ | refine ρk ?_
    refine ma ?_
    refine ⟨_, _, rfl, hG, ?_⟩
    refine thenA_n ⟨rfl, (kk + 1, gg, acc), _, ?_, ?_, rfl, ?_⟩
    · refine ⟨by dsimp only; omega, ?_, by dsimp only; omega⟩
      dsimp only; rw [hacc]; congr 1; exact flt_no h1 (by simpa using h2)
    · repeat (first | exact .nil | refine .cons rfl ?_)
    dsimp only; omega
  try simp [-List.getD_eq_getElem?_getD] at h1
  refine AWP.exit ?_
  refine thenA_x ?_
  refine thenA_x ?_
  refine blockA_h ?_
  refine thenA_n ?_
  refine sr fun _ => ?_
  refine mv ?_
  refine mz ?_
  refine AWP.frzOwn 4 hG rfl rfl (by decide) (by simp [maxLen]; omega) rfl ?_
  refine AWP.ret ?_
  refine ρd ?_
  unfold put; rw [hacc, List.take_of_length_le h1, List.append_assoc]; rfl
set_option maxHeartbeats 1000000 in
theorem item_fn (l : List It) (id q : Int) (hl : l.length ≤ 1000) : FnP Tryz.prog 76 [.sl (l.map aIt), .int .i64 id, .int .i64 q] (.tup [aIt (itemP l id q).1, .int .i64 (itemP l id q).2]) := by
  have hi := itemP_cases l id q
  have hab := asked_iff l q
  refine FnP.of Tryz.func76 rfl rfl (by simp) (by simp [AV.cells, aIt]) (fun G hG => ?_)
  have hN : NoH G.length (.tup [aIt (itemP l id q).1, .int .i64 (itemP l id q).2]) := (by simp [AV.cells, aIt])
  refine sr fun _ => ?_
  refine ρs (j := 0) zv64 ?_
  refine mz ?_
  refine AWP.seq ?_
  refine sr fun _ => ?_
  refine mv ?_
  refine ρl cf30 (fun hg => checkR_fn l) ?_
  refine ρ1 ?_
  refine mv ?_
  refine ρj ?_
  refine ρ6 ?_
  refine ρ4 ?_
  refine mv ?_
  refine ρj ?_
  refine ρ6 ?_
  refine ρ4 ?_
  refine ez ?_
  refine ρn (fun h0 => ?_) (fun h0 => ?_)
  · try simp at h0
    refine sr fun _ => ?_
    refine ARun.build rfl rfl rfl rfl so64 .nil rfl rfl optN ?_
    refine ρ2 sz64 ?_
    refine mz ?_
    refine AWP.ret (thenA_r ?_)
    refine ρe (rs := [.cell 6 64, .tmp 7]) (.cons (.cellA rfl ((hG.at _ _).trans rfl) U64 rfl sz64 rfl rfl) (.cons (.tmp rfl) .nil)) ?_
    rcases hi with ⟨_, hi⟩ | ⟨ha, _, hi⟩ | ⟨ha, _, hi⟩
    · rw [hi]; rfl
    · have := hab.1 ha; omega
    have := hab.1 ha; omega
  try simp at h0
  refine AWP.skip (thenA_n ?_)
  refine sr fun _ => ?_
  refine mv ?_
  refine mv ?_
  refine ρi cf37 ?_ (hF := fun hg => findR_fn l id (by omega))
  refine mv ?_
  refine ρ9 ?_
  refine ρ9 ?_
  refine ρs (j := 1) zv64 ?_
  refine ρ2 sz64 ?_
  refine mz ?_
  refine AWP.seq ?_
  refine sr fun _ => ?_
  refine mv ?_
  refine ρA ?_
  refine ez ?_
  refine ρn (fun h1 => ?_) (fun h1 => ?_)
  · try simp at h1
    refine sr fun _ => ?_
    refine ρp U64 sz64 ?_
    refine ρ2 sz64 ?_
    refine mz ?_
    refine AWP.ret (thenA_r ?_)
    refine ρe (rs := [.cell 6 64, .tmp 7]) (.cons (.cellA rfl ((hG.at _ _).trans rfl) U64 rfl sz64 rfl rfl) (.cons (.tmp rfl) .nil)) ?_
    rcases hi with ⟨ha, hi⟩ | ⟨ha, _, hi⟩ | ⟨ha, hf, hi⟩
    · rw [hab.2 (by omega)] at ha; cases ha
    · rw [hi, find_no2 h1]; rfl
    rw [h1] at hf; cases hf
  try simp at h1
  refine AWP.skip (thenA_n ?_)
  refine sr fun _ => ?_
  refine ρp U64 sz64 ?_
  refine ρ2 sz64 ?_
  refine mz ?_
  refine AWP.ret ?_
  refine ρe (rs := [.cell 6 64, .tmp 7]) (.cons (.cellA rfl ((hG.at _ _).trans rfl) U64 rfl sz64 rfl rfl) (.cons (.tmp rfl) .nil)) ?_
  rcases hi with ⟨ha, hi⟩ | ⟨ha, hf, hi⟩ | ⟨ha, hf, hi⟩
  · rw [hab.2 (by omega)] at ha; cases ha
  · rw [h1] at hf; cases hf
  rw [hi]; rfl
set_option maxHeartbeats 1000000 in
theorem restockR_fn (l : List It) (id q : Int) (hl : l.length ≤ 1000) : FnP Tryz.prog 34 [.sl (l.map aIt), .int .i64 id, .int .i64 q] (.tup [.sl ((withP (inG q) l id q).1.map aIt), .int .i64 (withP (inG q) l id q).2]) := by
  refine FnP.of Tryz.func34 rfl rfl (by simp) (by simp [AV.cells, aIt]) (fun G hG => ?_)
  have hN : NoH G.length (.tup [.sl ((withP (inG q) l id q).1.map aIt), .int .i64 (withP (inG q) l id q).2]) := (by simp [AV.cells, aIt])
  refine sr fun _ => ?_
  refine ma ?_
  refine mz ?_
  refine sr fun _ => ?_
  refine mv ?_
  refine mv ?_
  refine mv ?_
  refine ARun.call rfl rfl rfl rfl cf76 (ep rfl) (.cons (ep rfl) (.cons (ep rfl) (.cons (ep rfl) .nil))) rfl (fun hg => item_fn l id q hl) optN ?_
  refine mv ?_
  refine ρ9 ?_
  refine ρ9 ?_
  refine ρs (j := 0) zv64 ?_
  refine ρ2 sz64 ?_
  refine mz ?_
  refine AWP.seq ?_
  refine sr fun _ => ?_
  refine mv ?_
  refine ρ1 ?_
  refine ez ?_
  refine ρn (fun h0 => ?_) (fun h0 => ?_)
  · try simp at h0
    refine sr fun _ => ?_
    refine mv ?_
    refine ma ?_
    refine mz ?_
    refine AWP.ret (thenA_r ?_)
    refine ρe (rs := [.tmp 6, .tmp 7]) (.cons (.tmp rfl) (.cons (.tmp rfl) .nil)) ?_
    rw [item_bad h0]; rfl
  simp at h0
  have hb := item_bd h0
  refine AWP.skip (thenA_n (AWP.seq ?_))
  refine sr fun _ => ?_
  refine mv ?_
  refine ρ7 (fo := 1) U64 sz3 ?_
  refine ρf U3 ?_
  first | refine ρc ?_ | refine ρk ?_
  refine ρ7 (fo := 2) U64 sz3 ?_
  refine ρf U3 ?_
  first | refine ρc ?_ | refine ρk ?_
  refine ρ7 (fo := 3) U64 sz3 ?_
  refine ρf U3 ?_
  first | refine ρc ?_ | refine ρk ?_
  refine ρ1 ?_
  refine ez ?_
  refine ρn (fun h1 => ?_) (fun h1 => ?_)
  · try simp at h1
    refine sr fun _ => ?_
    refine ma ?_
    refine mz ?_
    refine AWP.ret (thenA_r ?_)
    refine ρe (rs := [.tmp 6, .tmp 7]) (.cons (.tmp rfl) (.cons (.tmp rfl) .nil)) ?_
    rw [restock_bad h0 (by omega)]; rfl
  try simp at h1
  refine AWP.skip (thenA_n ?_)
  refine sr fun _ => ?_
  refine ρ7 (fo := 1) U64 sz3 ?_
  refine ρf U3 ?_
  refine mv ?_
  first | refine ρc ?_ | refine ρk ?_
  refine ρ7 (fo := 1) U64 sz3 ?_
  refine ρu sz3 ?_
  refine ez ?_
  refine sr fun _ => ?_
  refine mv ?_
  refine ρp U64 sz64 ?_
  refine ρg cf75 (fun hg => put_fn l ⟨(itemP l id q).1.id, (itemP l id q).1.free + q, (itemP l id q).1.held, (itemP l id q).1.gone⟩ hl) ?_
  refine ma ?_
  refine mz ?_
  refine AWP.ret ?_
  refine ρe (rs := [.tmp 6, .tmp 7]) (.cons (.tmp rfl) (.cons (.tmp rfl) .nil)) ?_
  rw [restock_good h0 (by omega)]; rfl
set_option maxHeartbeats 1000000 in
theorem goesR_fn (l : List It) (id q how : Int) (hl : l.length ≤ 1000) : FnP Tryz.prog 35 [.sl (l.map aIt), .int .i64 id, .int .i64 q, .int .i64 how] (.tup [.sl ((goesM l id q how).1.map aIt), .int .i64 (goesM l id q how).2]) := by
  refine FnP.of Tryz.func35 rfl rfl (by simp) (by simp [AV.cells, aIt]) (fun G hG => ?_)
  have hN : NoH G.length (.tup [.sl ((goesM l id q how).1.map aIt), .int .i64 (goesM l id q how).2]) := (by simp [AV.cells, aIt])
  refine sr fun _ => ?_
  refine ma ?_
  refine mz ?_
  refine sr fun _ => ?_
  refine mv ?_
  refine mv ?_
  refine mv ?_
  refine ARun.call rfl rfl rfl rfl cf76 (ep rfl) (.cons (ep rfl) (.cons (ep rfl) (.cons (ep rfl) .nil))) rfl (fun hg => item_fn l id q hl) optN ?_
  refine mv ?_
  refine ρ9 ?_
  refine ρ9 ?_
  refine ρs (j := 0) zv64 ?_
  refine ρ2 sz64 ?_
  refine mz ?_
  refine AWP.seq ?_
  refine sr fun _ => ?_
  refine mv ?_
  refine ρ1 ?_
  refine ez ?_
  refine ρn (fun h0 => ?_) (fun h0 => ?_)
  · try simp at h0
    refine sr fun _ => ?_
    refine mv ?_
    refine ma ?_
    refine mz ?_
    refine AWP.ret (thenA_r ?_)
    refine ρe (rs := [.tmp 8, .tmp 9]) (.cons (.tmp rfl) (.cons (.tmp rfl) .nil)) ?_
    rw [goes_none h0]; rfl
  simp at h0
  have hb := item_bd h0
  refine AWP.skip (thenA_n (AWP.seq ?_))
  refine sr fun _ => ?_
  refine mv ?_
  refine ρ1 ?_
  refine mv ?_
  refine ρr (fo := 1) U64 sz3 ?_
  refine ρo U3 ?_
  refine ρj ?_
  refine ρv ?_
  refine ρ0 ?_
  refine mv ?_
  refine ρj ?_
  refine ρ6 ?_
  refine ARun.move (.inl rfl) rfl rfl rfl (Ev.opt rfl (fun h => h)) optS ?_
  refine ρr (fo := 2) U64 sz3 ?_
  refine ρo U3 ?_
  refine ρj ?_
  refine ρv ?_
  refine ARun.pick rfl rfl rfl rfl (Ev.opt rfl (fun h => h)) (Ev.opt rfl (by first | exact pkT | exact pkT2 | simp +contextual)) (ep rfl) (andB _ _) optS ?_
  refine ρ4 ?_
  refine ez ?_
  refine ρn (fun h1 => ?_) (fun h1 => ?_)
  · try simp at h1
    refine sr fun _ => ?_
    refine ma ?_
    refine mz ?_
    refine AWP.ret (thenA_r ?_)
    refine ρe (rs := [.tmp 8, .tmp 9]) (.cons (.tmp rfl) (.cons (.tmp rfl) .nil)) ?_
    rw [goes_bad h0 (by omega)]; rfl
  try simp at h1
  refine AWP.skip (thenA_n (AWP.seq ?_))
  refine sr fun _ => ?_
  refine mv ?_
  refine ez ?_
  refine AWP.block ?_
  refine sr fun _ => ?_
  refine ρ1 ?_
  refine mz ?_
  refine ρn (fun h2 => ?_) (fun h2 => ?_)
  · try simp at h2
    refine AWP.region (fun _ => ?_)
    refine ρ7 (fo := 1) U64 sz3 ?_
    refine ρf U3 ?_
    refine mv ?_
    first | refine ρc ?_ | refine ρk ?_
    refine ρ7 (fo := 2) U64 sz3 ?_
    refine ρf U3 ?_
    refine mv ?_
    first | refine ρc ?_ | refine ρk ?_
    refine ρ7 (fo := 1) U64 sz3 ?_
    refine ρu sz3 ?_
    refine ρ7 (fo := 2) U64 sz3 ?_
    refine ρu sz3 ?_
    refine ⟨_, _, rfl, hG, ?_⟩
    refine blockA_n (thenA_n ?_)
    refine sr fun _ => ?_
    refine mv ?_
    refine ρp U64 sz64 ?_
    refine ρg cf75 (fun hg => put_fn l ⟨(itemP l id q).1.id, (itemP l id q).1.free - q, (itemP l id q).1.held + q, (itemP l id q).1.gone⟩ hl) ?_
    refine ma ?_
    refine mz ?_
    refine AWP.ret ?_
    refine ρe (rs := [.tmp 8, .tmp 9]) (.cons (.tmp rfl) (.cons (.tmp rfl) .nil)) ?_
    rw [goes_1 h0 (by omega) (by omega)]; rfl
  try simp at h2
  refine sr fun _ => ?_
  refine ρ1 ?_
  refine mz ?_
  refine ρn (fun h3 => ?_) (fun h3 => ?_)
  · try simp at h3
    refine AWP.region (fun _ => ?_)
    refine ρ7 (fo := 1) U64 sz3 ?_
    refine ρf U3 ?_
    refine mv ?_
    first | refine ρc ?_ | refine ρk ?_
    refine ρ7 (fo := 2) U64 sz3 ?_
    refine ρf U3 ?_
    refine mv ?_
    first | refine ρc ?_ | refine ρk ?_
    refine ρ7 (fo := 1) U64 sz3 ?_
    refine ρu sz3 ?_
    refine ρ7 (fo := 2) U64 sz3 ?_
    refine ρu sz3 ?_
    refine ⟨_, _, rfl, hG, ?_⟩
    refine blockA_n (thenA_n ?_)
    refine sr fun _ => ?_
    refine mv ?_
    refine ρp U64 sz64 ?_
    refine ρg cf75 (fun hg => put_fn l ⟨(itemP l id q).1.id, (itemP l id q).1.free + q, (itemP l id q).1.held - q, (itemP l id q).1.gone⟩ hl) ?_
    refine ma ?_
    refine mz ?_
    refine AWP.ret ?_
    refine ρe (rs := [.tmp 8, .tmp 9]) (.cons (.tmp rfl) (.cons (.tmp rfl) .nil)) ?_
    rw [goes_2 h0 (by omega) (by omega)]; rfl
  try simp at h3
  refine AWP.region (fun _ => ?_)
  refine ρ7 (fo := 2) U64 sz3 ?_
  refine ρf U3 ?_
  refine mv ?_
  first | refine ρc ?_ | refine ρk ?_
  refine ρ7 (fo := 3) U64 sz3 ?_
  refine ρf U3 ?_
  refine mv ?_
  first | refine ρc ?_ | refine ρk ?_
  refine ρ7 (fo := 2) U64 sz3 ?_
  refine ρu sz3 ?_
  refine ρ7 (fo := 3) U64 sz3 ?_
  refine ρu sz3 ?_
  refine ⟨_, _, rfl, hG, ?_⟩
  refine blockA_n (thenA_n ?_)
  refine sr fun _ => ?_
  refine mv ?_
  refine ρp U64 sz64 ?_
  refine ρg cf75 (fun hg => put_fn l ⟨(itemP l id q).1.id, (itemP l id q).1.free, (itemP l id q).1.held - q, (itemP l id q).1.gone + q⟩ hl) ?_
  refine ma ?_
  refine mz ?_
  refine AWP.ret ?_
  refine ρe (rs := [.tmp 8, .tmp 9]) (.cons (.tmp rfl) (.cons (.tmp rfl) .nil)) ?_
  rw [goes_3 h0 (by omega) (by omega) (by omega)]; rfl
set_option maxHeartbeats 1000000 in
theorem createR_fn (l : List It) (id q : Int) (hl : l.length ≤ 1000) : FnP Tryz.prog 33 [.sl (l.map aIt), .int .i64 id, .int .i64 q] (.tup [.sl ((createP l id q).1.map aIt), .int .i64 (createP l id q).2]) := by
  refine FnP.of Tryz.func33 rfl rfl (by simp) (by simp [AV.cells, aIt]) (fun G hG => ?_)
  have hN : NoH G.length (.tup [.sl ((createP l id q).1.map aIt), .int .i64 (createP l id q).2]) := (by simp [AV.cells, aIt])
  refine sr fun _ => ?_
  refine ma ?_
  refine mz ?_
  refine AWP.seq ?_
  refine sr fun _ => ?_
  refine mv ?_
  refine ρl cf30 (fun hg => checkR_fn l) ?_
  refine ρ1 ?_
  refine mv ?_
  refine ρj ?_
  refine ρ6 ?_
  refine ρ4 ?_
  refine mv ?_
  refine ρj ?_
  refine ρ6 ?_
  refine ρ4 ?_
  refine mv ?_
  refine ρj ?_
  refine ρ6 ?_
  refine ρ4 ?_
  refine mv ?_
  refine ρj ?_
  refine ρ6 ?_
  refine ρ4 ?_
  refine ez ?_
  refine ρn (fun h0 => ?_) (fun h0 => ?_)
  · try simp at h0
    refine sr fun _ => ?_
    refine ma ?_
    refine mz ?_
    refine AWP.ret (thenA_r ?_)
    refine ρe (rs := [.tmp 6, .tmp 7]) (.cons (.tmp rfl) (.cons (.tmp rfl) .nil)) ?_
    rw [create_arg (by omega)]; rfl
  simp at h0
  have hc := create_ok (l := l) (id := id) (q := q) (by omega) (by omega) (by omega)
  have h20 := ok_len (okE_ok.1 (show okE l = 0 by omega))
  refine AWP.skip (thenA_n ?_)
  refine sr fun _ => ?_
  refine mv ?_
  refine mv ?_
  refine ρi cf37 ?_ (hF := fun hg => findR_fn l id (by omega))
  refine mv ?_
  refine ρ9 ?_
  refine ρ9 ?_
  refine ρs (j := 0) zv64 ?_
  refine ρ2 sz64 ?_
  refine mz ?_
  refine AWP.seq ?_
  refine sr fun _ => ?_
  refine mv ?_
  refine ez ?_
  refine ρn (fun h1 => ?_) (fun h1 => ?_)
  · try simp at h1
    refine sr fun _ => ?_
    refine ma ?_
    refine mz ?_
    refine AWP.ret (thenA_r ?_)
    refine ρe (rs := [.tmp 6, .tmp 7]) (.cons (.tmp rfl) (.cons (.tmp rfl) .nil)) ?_
    rw [hc, if_pos h1]; rfl
  try simp at h1
  refine AWP.skip (thenA_n (AWP.seq ?_))
  refine sr fun _ => ?_
  refine mv ?_
  refine ρw U22 ?_
  refine ρ1 ?_
  refine ez ?_
  refine ρn (fun h2 => ?_) (fun h2 => ?_)
  · try simp at h2
    refine sr fun _ => ?_
    refine ma ?_
    refine mz ?_
    refine AWP.ret (thenA_r ?_)
    refine ρe (rs := [.tmp 6, .tmp 7]) (.cons (.tmp rfl) (.cons (.tmp rfl) .nil)) ?_
    rw [hc, if_neg (by simp [h1]), if_pos (by omega)]; rfl
  try simp at h2
  refine AWP.skip (thenA_n ?_)
  refine sr fun _ => ?_
  refine mv ?_
  refine mv ?_
  refine mv ?_
  refine ARun.build rfl rfl rfl rfl so64 (.cons (ep rfl) (.cons (ep rfl) .nil)) rfl rfl optN ?_
  refine ρg cf75 (fun hg => put_fn l ⟨id, q, 0, 0⟩ hl) ?_
  refine ma ?_
  refine mz ?_
  refine AWP.ret ?_
  refine ρe (rs := [.tmp 6, .tmp 7]) (.cons (.tmp rfl) (.cons (.tmp rfl) .nil)) ?_
  rw [hc, if_neg (by simp [h1]), if_neg (by omega)]; rfl
set_option maxHeartbeats 1000000 in
theorem moveR_fn (l : List It) (a b q : Int) (hl : l.length ≤ 400) : FnP Tryz.prog 36 [.sl (l.map aIt), .int .i64 a, .int .i64 b, .int .i64 q] (.tup [.sl ((moveP l a b q).1.map aIt), .int .i64 (moveP l a b q).2]) := by
  refine FnP.of Tryz.func36 rfl rfl (by simp) (by simp [AV.cells, aIt]) (fun G hG => ?_)
  have hN : NoH G.length (.tup [.sl ((moveP l a b q).1.map aIt), .int .i64 (moveP l a b q).2]) := (by simp [AV.cells, aIt])
  refine sr fun _ => ?_
  refine ma ?_
  refine mz ?_
  refine sr fun _ => ?_
  refine mv ?_
  refine mv ?_
  refine mv ?_
  refine ARun.call rfl rfl rfl rfl cf76 (ep rfl) (.cons (ep rfl) (.cons (ep rfl) (.cons (ep rfl) .nil))) rfl (fun hg => item_fn l a q (by omega)) optN ?_
  refine mv ?_
  refine ρ9 ?_
  refine ρ9 ?_
  refine ρs (j := 0) zv64 ?_
  refine ρ2 sz64 ?_
  refine mz ?_
  refine sr fun _ => ?_
  refine mv ?_
  refine mv ?_
  refine mv ?_
  refine ARun.call rfl rfl rfl rfl cf76 (ep rfl) (.cons (ep rfl) (.cons (ep rfl) (.cons (ep rfl) .nil))) rfl (fun hg => item_fn l b q (by omega)) optN ?_
  refine mv ?_
  refine ρ9 ?_
  refine ρ9 ?_
  refine ρs (j := 1) zv64 ?_
  refine ρ2 sz64 ?_
  refine mz ?_
  refine AWP.seq ?_
  refine sr fun _ => ?_
  refine mv ?_
  refine ρ1 ?_
  refine mv ?_
  refine ρj ?_
  refine ρj ?_
  refine ρv ?_
  refine ρ4 ?_
  refine ez ?_
  refine ρn (fun h0 => ?_) (fun h0 => ?_)
  · try simp at h0
    refine sr fun _ => ?_
    refine ma ?_
    refine mz ?_
    refine AWP.ret (thenA_r ?_)
    refine ρe (rs := [.tmp 8, .tmp 9]) (.cons (.tmp rfl) (.cons (.tmp rfl) .nil)) ?_
    rw [move_arg h0]; rfl
  try simp at h0
  refine AWP.skip (thenA_n (AWP.seq ?_))
  refine sr fun _ => ?_
  refine mv ?_
  refine ρ1 ?_
  refine mv ?_
  refine ρj ?_
  refine ρ6 ?_
  refine ρ4 ?_
  refine ez ?_
  refine ρn (fun h1 => ?_) (fun h1 => ?_)
  · try simp at h1
    refine sr fun _ => ?_
    refine ma ?_
    refine mz ?_
    refine AWP.ret (thenA_r ?_)
    refine ρe (rs := [.tmp 8, .tmp 9]) (.cons (.tmp rfl) (.cons (.tmp rfl) .nil)) ?_
    rw [move_none (by omega) (by omega)]; rfl
  simp at h1
  have hb1 := item_bd h1.1
  have hb2 := item_bd h1.2
  obtain ⟨m1, m2, m3⟩ := move_item h1.1 h1.2 (by omega)
  refine AWP.skip (thenA_n (AWP.seq ?_))
  refine sr fun _ => ?_
  refine ρ7 (fo := 1) U64 sz3 ?_
  refine ρf U3 ?_
  refine mv ?_
  refine ρ1 ?_
  refine ez ?_
  refine ρn (fun h2 => ?_) (fun h2 => ?_)
  · try simp at h2
    refine sr fun _ => ?_
    refine ma ?_
    refine mz ?_
    refine AWP.ret (thenA_r ?_)
    refine ρe (rs := [.tmp 8, .tmp 9]) (.cons (.tmp rfl) (.cons (.tmp rfl) .nil)) ?_
    rw [m1 (by omega)]; rfl
  try simp at h2
  refine AWP.skip (thenA_n (AWP.seq ?_))
  refine sr fun _ => ?_
  refine mv ?_
  refine ρ7 (fo := 1) U64 sz3 ?_
  refine ρf U3 ?_
  first | refine ρc ?_ | refine ρk ?_
  refine ρ7 (fo := 2) U64 sz3 ?_
  refine ρf U3 ?_
  first | refine ρc ?_ | refine ρk ?_
  refine ρ7 (fo := 3) U64 sz3 ?_
  refine ρf U3 ?_
  first | refine ρc ?_ | refine ρk ?_
  refine ρ1 ?_
  refine ez ?_
  refine ρn (fun h3 => ?_) (fun h3 => ?_)
  · try simp at h3
    refine sr fun _ => ?_
    refine ma ?_
    refine mz ?_
    refine AWP.ret (thenA_r ?_)
    refine ρe (rs := [.tmp 8, .tmp 9]) (.cons (.tmp rfl) (.cons (.tmp rfl) .nil)) ?_
    rw [m2 (by omega) (by omega)]; rfl
  try simp at h3
  refine AWP.skip (thenA_n ?_)
  refine sr fun _ => ?_
  refine ρ7 (fo := 1) U64 sz3 ?_
  refine ρf U3 ?_
  refine mv ?_
  first | refine ρc ?_ | refine ρk ?_
  refine ρ7 (fo := 1) U64 sz3 ?_
  refine ρu sz3 ?_
  refine ez ?_
  refine sr fun _ => ?_
  refine ρ7 (fo := 1) U64 sz3 ?_
  refine ρf U3 ?_
  refine mv ?_
  first | refine ρc ?_ | refine ρk ?_
  refine ρ7 (fo := 1) U64 sz3 ?_
  refine ρu sz3 ?_
  refine ez ?_
  refine AWP.seq ?_
  refine AWP.draw mixed (by kernel_rfl) (fun _ => ?_)
  refine mv ?_
  refine ρp U64 sz64 ?_
  refine ρi cf75 ?_ (hF := fun hg => put_fn l ⟨(itemP l a q).1.id, (itemP l a q).1.free - q, (itemP l a q).1.held, (itemP l a q).1.gone⟩ (by omega))
  refine ρp U64 sz64 ?_
  refine ρi cf75 ?_ (hF := fun hg => put_fn (put l ⟨(itemP l a q).1.id, (itemP l a q).1.free - q, (itemP l a q).1.held, (itemP l a q).1.gone⟩) ⟨(itemP l b q).1.id, (itemP l b q).1.free + q, (itemP l b q).1.held, (itemP l b q).1.gone⟩ (by have := put_len l ⟨(itemP l a q).1.id, (itemP l a q).1.free - q, (itemP l a q).1.held, (itemP l a q).1.gone⟩; omega))
  refine ma ?_
  refine ma ?_
  refine ⟨by kernel_rfl, _, _, rfl, hG, ?_⟩
  refine thenA_n (AWP.ret ?_)
  refine ρe (rs := [.tmp 8, .tmp 9]) (.cons (.tmp rfl) (.cons (.tmp rfl) .nil)) ?_
  rw [m3 (by omega) (by omega)]; rfl
end Go.Proofs.YtgebpndhnkkbgaaGreatDoor.Stk
namespace Go.Proofs.YtgebpndhnkkbgaaGreatDoor
set_option linter.unusedVariables false
set_option linter.unusedSimpArgs false
open Go.RowKit
open NumP
set_option maxRecDepth 100000
theorem fit_at {l : List Int} (hf : ∀ x, x ∈ l → -9223372036854775808 ≤ x ∧ x ≤ 9223372036854775807) {k : Nat} (hk : k < l.length) : -9223372036854775808 ≤ l.getD k default ∧ l.getD k default ≤ 9223372036854775807 := by
  simp only [List.getD, List.getElem?_eq_getElem hk, Option.getD_some]; exact hf _ (List.getElem_mem hk)
theorem liesB : liesAt Tryz.prog Tryz.prog.depth 170 (2 / Tryz.prog.cellsOf 170) 0 170 1 = true := by kernel_rfl
theorem writeB (l : List UInt8) (t : ByteArray) (h : l.length + t.size ≤ 100000000) : FnM Tryz.prog 159 (fun i => [.box i 0, .str t]) [.adr 170, .buf 5 (bs l)] (.tup [.int .i64 t.size, .raw .nilIface]) [.adr 170, .buf 5 (bs l ++ t)] :=
  bld_write (n := 2) liesB (by decide) (bs l) t [] rfl (by rw [bs_size]; omega)
set_option maxHeartbeats 1000000 in
theorem rowPut_fn (n : Int) (h : -9223372036854775808 ≤ n ∧ n ≤ 9223372036854775807) (l : List UInt8) (hl : l.length ≤ 1000000) : FnM Tryz.prog 161 (fun i => [.int .i64 n, .box i 0]) ([.adr 170, .buf 5 (bs l)]) (.int .i64 (putN n).2) ([.adr 170, .buf 5 (bs (l ++ (putN n).1))]) := by
  have hpl := putN_len n
  refine FnM.of Tryz.func161 rfl rfl (fun i => by simp) (fun H i m hHm hi hG => ?_)
  have hN : NoH H.length (.int .i64 (putN n).2) := (by simp)
  refine sr fun _ => ?_
  refine mz ?_
  refine sr fun _ => ?_
  refine mv ?_
  refine ρl cf146 (fun hg => put_fn n h) ?_
  refine mv ?_
  refine ρ9 ?_
  refine ρ9 ?_
  refine ma ?_
  refine mz ?_
  refine sr fun _ => ?_
  refine mv ?_
  refine ARun.callO hi hG rfl rfl rfl rfl cf159 (ep rfl) (.cons (ep rfl) (.cons (ep rfl) .nil)) rfl (writeB l (bs (putN n).1) (by rw [bs_size]; omega) _ _ (atO hi)) (by simp) optN (fun hG => ?_)
  refine ez ?_
  refine sr fun _ => ?_
  refine mv ?_
  refine mz ?_
  refine AWP.ret ?_
  refine endF.toG (congrArg (fun c => H.set i (AO.box c)) (by rw [bs_append])) ?_
  refine endF.one (.inr rfl) rfl (.tmp rfl) ?_ (by rw [List.length_set]; exact hN)
  rfl
theorem rowPut_st (x : Int) (h : -9223372036854775808 ≤ x ∧ x ≤ 9223372036854775807) (a : List UInt8 × Int) (ha : a.1.length ≤ 1000000) (h0 : a.2 = 0) : FnM Tryz.prog 161 (fun i => [.int .i64 x, .box i 0]) ([.adr 170, .buf 5 (bs a.1)]) (.int .i64 (rowStep a x).2) ([.adr 170, .buf 5 (bs (rowStep a x).1)]) := by
  rw [show rowStep a x = (a.1 ++ (putN x).1, (putN x).2) from if_pos h0]; exact rowPut_fn x h a.1 ha
set_option maxHeartbeats 1000000 in
theorem rowN_fn (l : List Int) (hl : l.length ≤ 10000) (hf : ∀ x, x ∈ l → -9223372036854775808 ≤ x ∧ x ≤ 9223372036854775807) : FnP Tryz.prog 147 [.sl (l.map (AV.int .i64))] (.tup [.str (bs (rowN l).1), .int .i64 (rowN l).2]) := by
  have hpe : (putN (l.length : Int)).2 = 0 := by rw [putN_err, if_pos (by omega)]
  have hp0 : FnM Tryz.prog 161 (fun i => [.int .i64 ((l.map (AV.int .i64)).length : Int), .box i 0]) ([.adr 170, .buf 5 (bs [])]) (.int .i64 (putN (l.length : Int)).2) ([.adr 170, .buf 5 (bs ([] ++ (putN (l.length : Int)).1))]) := by rw [List.length_map]; exact rowPut_fn l.length (by omega) [] (by simp)
  refine FnP.of Tryz.func147 rfl rfl (by simp) (by simp [AV.cells]) (fun G hG => ?_)
  have hN : NoH G.length (.tup [.str (bs (rowN l).1), .int .i64 (rowN l).2]) := (by simp [AV.cells])
  refine sr fun _ => ?_
  refine ma ?_
  refine mz ?_
  refine sr fun _ => ?_
  refine ARun.allocBld (j := 0) (e := 5) hG rfl rfl rfl rfl rfl zv170 rfl rfl rfl optN ?_
  refine ez ?_
  refine sr fun _ => ?_
  refine ARun.makeFunc rfl rfl rfl rfl .nil (.cons (ep rfl) .nil) optN ?_
  refine mz ?_
  refine sr fun _ => ?_
  refine mv ?_
  refine mv ?_
  refine ρw U29 ?_
  refine ARun.callSet (j := 0) hG rfl rfl rfl rfl cf161 (ep rfl) (.cons (ep rfl) .nil) rfl (hp0 _ _ ((hG.at _ _).trans rfl)) rfl optN ?_
  refine mz ?_
  refine AWP.seq ?_
  refine sr fun _ => ?_
  refine mv ?_
  refine ρw U29 ?_
  refine mv ?_
  refine ez ?_
  refine AWP.block ?_
  refine AWP.rounds (fun s => s.1 ≤ l.length ∧ s.2 = rowS l s.1) (fun s => [(5, .fn (.func 161) [] [.box (G.length + 0) 0]), (6, .int .i64 s.2.2), (14, .sl (l.map (AV.int .i64))), (15, .int .i64 ((l.map (AV.int .i64)).length : Int)), (16, .int .i64 (s.1 : Int)), (4, .box (G.length + 0) 0)]) (fun s => [.box ([.adr 170, .buf 5 (bs s.2.1)])]) (fun s => l.length - s.1) 1 ((0, rowS l 0) : Nat × (List UInt8 × Int)) ⟨Nat.zero_le _, rfl⟩ (by rw [show (rowS l 0).2 = (putN (l.length : Int)).2 from hpe.symm]; repeat (first | exact .nil | refine .cons rfl ?_)) rfl (fun _ => rfl) (fun _ => ⟨by simp [AV.cells], by simp [AO.conts]⟩) (fun s hI => ?_)
  obtain ⟨k, a⟩ := s
  dsimp only at hI
  show AWP _ _ _ _ _ [(5, .fn (.func 161) [] [.box (G.length + 0) 0]), (6, .int .i64 a.2), (14, .sl (l.map (AV.int .i64))), (15, .int .i64 ((l.map (AV.int .i64)).length : Int)), (16, .int .i64 (k : Int)), (4, .box (G.length + 0) 0)] _ [.box ([.adr 170, .buf 5 (bs a.1)])]
  obtain ⟨hk, ha⟩ := hI
  have hal := rowS_len l k
  rw [← ha] at hal
  refine sr fun _ => ?_
  refine ρ1 ?_
  refine ez ?_
  refine AWP.seq ?_
  refine ρn (fun h0 => ?_) (fun h0 => ?_)
  · simp [-List.getD_eq_getElem?_getD] at h0
    refine AWP.skip (thenA_n ?_)
    refine AWP.seq (AWP.block ?_)
    refine sr fun _ => ?_
    first | refine ρh U29 sz3 ?_ | refine ρa U29 sz3 ?_
    refine ρb U3 ?_
    refine mz ?_
    refine sr fun _ => ?_
    refine mv ?_
    refine ρ1 ?_
    refine ez ?_
    refine ρn (fun h1 => ?_) (fun h1 => ?_)
    · try simp [-List.getD_eq_getElem?_getD] at h1
      refine AWP.region (fun _ => ?_)
      refine mv ?_
      refine mv ?_
      refine ARun.callSet (j := 0) hG rfl rfl rfl rfl cf161 (ep rfl) (.cons (ep rfl) .nil) rfl (rowPut_st _ (fit_at hf (by simpa using h0)) a (by omega) h1 _ _ ((hG.at _ _).trans rfl)) rfl optN ?_
      refine ma ?_
      refine ⟨_, _, rfl, hG, ?_⟩
      refine blockA_n (thenA_n ?_)
      refine AWP.region (fun _ => ?_)
      first | refine ρc ?_ | refine ρk ?_
      refine mv ?_
      refine ⟨_, _, rfl, hG, ?_⟩
      refine thenA_n ⟨rfl, (k + 1, rowStep a (l.getD k default)), _, ?_, ?_, rfl, ?_⟩
      · refine ⟨by omega, ?_⟩
        show rowStep a _ = _
        rw [rowS_succ l k (by omega), ha]
      · repeat (first | exact .nil | refine .cons rfl ?_)
      dsimp only; omega
    try simp [-List.getD_eq_getElem?_getD] at h1
    refine AWP.skip (blockA_n (thenA_n ?_))
    refine AWP.region (fun _ => ?_)
    first | refine ρc ?_ | refine ρk ?_
    refine mv ?_
    refine ⟨_, _, rfl, hG, ?_⟩
    refine thenA_n ⟨rfl, (k + 1, a), _, ?_, ?_, rfl, ?_⟩
    · refine ⟨by omega, ?_⟩
      show a = _
      rw [rowS_succ l k (by omega), ← ha, rowStep, if_neg h1]
    · repeat (first | exact .nil | refine .cons rfl ?_)
    dsimp only; omega
  simp at h0
  obtain rfl : k = l.length := by omega
  have hall := rowS_all l
  rw [← ha] at hall
  refine AWP.exit ?_
  refine thenA_x ?_
  refine thenA_x ?_
  refine blockA_h ?_
  refine thenA_n (AWP.seq ?_)
  refine sr fun _ => ?_
  refine mv ?_
  refine ρ1 ?_
  refine ez ?_
  refine ρn (fun h2 => ?_) (fun h2 => ?_)
  · try simp [-List.getD_eq_getElem?_getD] at h2
    refine sr fun _ => ?_
    refine mv ?_
    refine ma ?_
    refine mz ?_
    refine AWP.ret (thenA_r ?_)
    refine ρe (rs := [.tmp 2, .tmp 3]) (.cons (.tmp rfl) (.cons (.tmp rfl) .nil)) ?_
    rw [if_neg h2] at hall
    rw [← hall]; rfl
  try simp [-List.getD_eq_getElem?_getD] at h2
  refine AWP.skip (thenA_n ?_)
  refine sr fun _ => ?_
  refine ARun.callSet (j := 0) hG rfl rfl rfl rfl cf148 (ep rfl) (.cons (ep rfl) .nil) rfl (bld_string (n := 2) (bs a.1) [] _ _ ((hG.at _ _).trans rfl)) rfl optN ?_
  refine ma ?_
  refine mz ?_
  refine AWP.ret ?_
  refine ρe (rs := [.tmp 2, .tmp 3]) (.cons (.tmp rfl) (.cons (.tmp rfl) .nil)) ?_
  rw [if_pos h2] at hall
  rw [← hall]; rfl
theorem map_snocI (l : List Int) (x : Int) : l.map (AV.int .i64) ++ [AV.int .i64 x] = (l ++ [x]).map (AV.int .i64) := by simp
set_option maxHeartbeats 1000000 in
theorem unrowN_fn (s : ByteArray) (p top : Int) (hs : s.size ≤ 1000000) : FnP Tryz.prog 96 [.str s, .int .i64 p, .int .i64 top] (.tup [.sl ((unrowN (bl s) p top).1.map (AV.int .i64)), .int .i64 (unrowN (bl s) p top).2.1, .int .i64 (unrowN (bl s) p top).2.2]) := by
  have hbd := getN_bd (bl s) p (by rw [bl_len]; exact hs)
  have hdef : unrowN (bl s) p top = (if (getN (bl s) p).2.2 ≠ 0 then (([], 0, (getN (bl s) p).2.2) : List Int × Int × Int) else if (getN (bl s) p).1 > 1000 ∨ ((getN (bl s) p).1 > top ∧ (getN (bl s) p).1 > 0) then ([], 0, 3) else unrowF (bl s) (getN (bl s) p).1.toNat (getN (bl s) p).2.1 []) := rfl
  refine FnP.of Tryz.func96 rfl rfl (by simp) (by simp [AV.cells]) (fun G hG => ?_)
  have hN : NoH G.length (.tup [.sl ((unrowN (bl s) p top).1.map (AV.int .i64)), .int .i64 (unrowN (bl s) p top).2.1, .int .i64 (unrowN (bl s) p top).2.2]) := (by simp [AV.cells])
  refine sr fun _ => ?_
  refine ARun.nilOwn (e := 3) (z := 1) (j := 0) hG rfl ⟨.inl rfl, rfl⟩ (fun _ => rfl) rfl rfl rfl optN ?_
  refine ma ?_
  refine mz ?_
  refine sr fun _ => ?_
  refine mv ?_
  refine mv ?_
  refine ρg cf94 (fun hg => get_fn s p hs) ?_
  refine mv ?_
  refine ρ9 ?_
  refine ρ9 ?_
  refine ρ9 ?_
  refine ma ?_
  refine ma ?_
  refine mz ?_
  refine AWP.seq ?_
  refine sr fun _ => ?_
  refine mv ?_
  refine ρ1 ?_
  refine ez ?_
  refine ρn (fun h0 => ?_) (fun h0 => ?_)
  · have h0' : (getN (bl s) p).2.2 ≠ 0 := by simpa using h0
    refine sr fun _ => ?_
    refine mv ?_
    refine ma ?_
    refine ma ?_
    refine mz ?_
    refine AWP.ret (thenA_r ?_)
    refine ρe (rs := [.tmp 6, .tmp 7, .tmp 8]) (.cons (.tmp rfl) (.cons (.tmp rfl) (.cons (.tmp rfl) .nil))) ?_
    rw [hdef, if_pos h0']; rfl
  simp at h0
  have hlen : (getN (bl s) p).1.toNat ≤ (getN (bl s) p).1.toNat := Nat.le_refl _
  rw [if_neg (by simp [h0])] at hdef
  refine AWP.skip (thenA_n (AWP.seq ?_))
  refine sr fun _ => ?_
  refine mv ?_
  refine mv ?_
  refine ARun.minmax rfl rfl rfl rfl (ep rfl) (ep rfl) (.inr ⟨rfl, rfl⟩) optN ?_
  refine ARun.minmax rfl rfl rfl rfl (ep rfl) (ep rfl) (.inl ⟨rfl, rfl⟩) optN ?_
  refine ρ1 ?_
  refine ez ?_
  refine ρn (fun h1 => ?_) (fun h1 => ?_)
  · have h1' : (getN (bl s) p).1 > 1000 ∨ ((getN (bl s) p).1 > top ∧ (getN (bl s) p).1 > 0) := by simp at h1; omega
    rw [if_pos h1'] at hdef
    refine sr fun _ => ?_
    refine ma ?_
    refine ma ?_
    refine mz ?_
    refine AWP.ret (thenA_r ?_)
    refine ρe (rs := [.tmp 6, .tmp 7, .tmp 8]) (.cons (.tmp rfl) (.cons (.tmp rfl) (.cons (.tmp rfl) .nil))) ?_
    rw [hdef]; rfl
  have h1' : ¬ ((getN (bl s) p).1 > 1000 ∨ ((getN (bl s) p).1 > top ∧ (getN (bl s) p).1 > 0)) := by simp at h1; omega
  rw [if_neg h1'] at hdef
  refine AWP.skip (thenA_n (AWP.seq ?_))
  refine sr fun _ => ?_
  refine mv ?_
  refine mv ?_
  refine ez ?_
  refine AWP.block ?_
  refine AWP.rounds (fun st => st.1 ≤ (getN (bl s) p).1.toNat ∧ st.2.2.2.length = st.1 ∧ unrowF (bl s) ((getN (bl s) p).1.toNat - st.1) st.2.2.1 st.2.2.2 = unrowF (bl s) (getN (bl s) p).1.toNat (getN (bl s) p).2.1 []) (fun st => [(0, .str s), (6, .own (G.length + 0) st.2.1), (7, .int .i64 st.2.2.1), (28, .int .i64 (getN (bl s) p).1), (29, .int .i64 (st.1 : Int))]) (fun st => [.row st.2.1 3 1 (st.2.2.2.map (AV.int .i64))]) (fun st => (getN (bl s) p).1.toNat - st.1) 1 ((0, 0, (getN (bl s) p).2.1, []) : Nat × Nat × Int × List Int) ⟨Nat.zero_le _, rfl, rfl⟩ (by repeat (first | exact .nil | refine .cons rfl ?_)) rfl (fun _ => rfl) (fun _ => ⟨by simp [AV.cells], by simp [AO.conts, AV.cells]; rintro y a _ rfl; simp⟩) (fun st hI => ?_)
  obtain ⟨k, g, to, acc⟩ := st
  dsimp only at hI
  show AWP _ _ _ _ _ [(0, .str s), (6, .own (G.length + 0) g), (7, .int .i64 to), (28, .int .i64 (getN (bl s) p).1), (29, .int .i64 (k : Int))] _ [.row g 3 1 (acc.map (AV.int .i64))]
  obtain ⟨hk, hal, hu⟩ := hI
  refine sr fun _ => ?_
  refine ρ1 ?_
  refine ez ?_
  refine AWP.seq ?_
  refine ρn (fun h2 => ?_) (fun h2 => ?_)
  · simp at h2
    refine AWP.skip (thenA_n ?_)
    refine AWP.seq (AWP.block ?_)
    refine sr fun _ => ?_
    refine mv ?_
    refine mv ?_
    refine ρg cf94 (fun hg => get_fn s to hs) ?_
    refine mv ?_
    refine ρ9 ?_
    refine ρ9 ?_
    refine ρ9 ?_
    refine ma ?_
    refine ma ?_
    refine mz ?_
    refine AWP.seq ?_
    refine sr fun _ => ?_
    refine mv ?_
    refine ρ1 ?_
    refine ez ?_
    refine ρn (fun h3 => ?_) (fun h3 => ?_)
    · have h3' : (getN (bl s) to).2.2 ≠ 0 := by simpa using h3
      rw [show (getN (bl s) p).1.toNat - k = ((getN (bl s) p).1.toNat - (k + 1)) + 1 by omega, unrow_step, if_pos h3'] at hu
      refine sr fun _ => ?_
      refine mv ?_
      refine ma ?_
      refine ma ?_
      refine mz ?_
      refine AWP.ret (thenA_r ?_)
      refine blockA_r (thenA_r ?_)
      refine thenA_r (blockA_r (thenA_r ?_))
      refine ρe (rs := [.tmp 6, .tmp 7, .tmp 8]) (.cons (.tmp rfl) (.cons (.tmp rfl) (.cons (.tmp rfl) .nil))) ?_
      rw [hdef, ← hu]; rfl
    simp at h3
    rw [show (getN (bl s) p).1.toNat - k = ((getN (bl s) p).1.toNat - (k + 1)) + 1 by omega, unrow_step, if_neg (by simp [h3])] at hu
    refine AWP.skip (thenA_n ?_)
    refine AWP.region (fun _ => ?_)
    refine mv ?_
    refine mv ?_
    refine ARun.buildSl rfl rfl rfl rfl U29 sz3 zv3 rfl (by decide) (.cons (ep rfl) .nil) rfl rfl rfl rfl (by decide) rfl rfl optN ?_
    refine ARun.appendL hG rfl rfl rfl rfl U29 ti3 rfl (by decide) (ep rfl) (ep rfl) rfl rfl (by simp [maxLen]; omega) (by simp; omega) (map_snocI acc _) optN rfl ?_
    refine mv ?_
    refine ma ?_
    refine ma ?_
    refine ⟨_, _, rfl, hG, ?_⟩
    refine blockA_n (thenA_n ?_)
    refine AWP.region (fun _ => ?_)
    first | refine ρc ?_ | refine ρk ?_
    refine mv ?_
    refine ⟨_, _, rfl, hG, ?_⟩
    refine thenA_n ⟨rfl, (k + 1, g + 1, (getN (bl s) to).2.1, acc ++ [(getN (bl s) to).1]), _, ?_, ?_, rfl, ?_⟩
    · exact ⟨by dsimp only; omega, by simp [hal], hu⟩
    · repeat (first | exact .nil | refine .cons rfl ?_)
    dsimp only; omega
  simp at h2
  have hkk : (getN (bl s) p).1.toNat - k = 0 := by omega
  rw [hkk] at hu
  refine AWP.exit ?_
  refine thenA_x ?_
  refine thenA_x ?_
  refine blockA_h ?_
  refine thenA_n ?_
  refine sr fun _ => ?_
  refine mv ?_
  refine mv ?_
  refine ma ?_
  refine ma ?_
  refine mz ?_
  refine AWP.frzOwn 6 hG rfl rfl (by decide) (by simp [maxLen]; omega) rfl ?_
  refine AWP.ret ?_
  refine ρe (rs := [.tmp 6, .tmp 7, .tmp 8]) (.cons (.tmp rfl) (.cons (.tmp rfl) (.cons (.tmp rfl) .nil))) ?_
  rw [hdef, ← hu]; rfl
end Go.Proofs.YtgebpndhnkkbgaaGreatDoor
namespace Go.Proofs.YtgebpndhnkkbgaaGreatDoor
set_option linter.unusedVariables false
set_option linter.unusedSimpArgs false
open NumP
set_option linter.unusedVariables false
set_option linter.unusedSimpArgs false
structure Pc where
  kind : Int
  n : Int
  s : ByteArray
  l : List Int
instance : Inhabited Pc := ⟨⟨0, 0, ⟨#[]⟩, []⟩⟩
theorem unrowF_len (l : List UInt8) (k : Nat) : ∀ (to : Int) (acc : List Int), (unrowF l k to acc).1.length ≤ acc.length + k := by
  induction k with
  | zero => intro to acc; exact Nat.le_refl _
  | succ k ih =>
    intro to acc
    rw [unrow_step]
    split
    · simp
    · have := ih (getN l to).2.1 (acc ++ [(getN l to).1]); simp at this; omega
theorem unrowN_len (l : List UInt8) (p top : Int) : (unrowN l p top).1.length ≤ 1000 := by
  unfold unrowN
  split
  · exact Nat.zero_le _
  · split
    · exact Nat.zero_le _
    · have := unrowF_len l (getN l p).1.toNat (getN l p).2.1 []
      simp at this; omega
theorem rdRow_len (r : RdS) (most : Int) : (rdRow r most).2.length ≤ 1000 := by
  unfold rdRow
  split
  · exact Nat.zero_le _
  · exact unrowN_len _ _ _
end Go.Proofs.YtgebpndhnkkbgaaGreatDoor
namespace Go.Proofs.YtgebpndhnkkbgaaGreatDoor
set_option linter.unusedVariables false
set_option linter.unusedSimpArgs false
open Go.RowKit
open NumP
set_option maxRecDepth 100000
def aW (w : WrS) : List AV := [.adr 172, .buf 5 (bs w.s), aEr (errOf tWrite w.p w.e)]
def aRd (r : RdS) : List AV := [.str r.s, .int .i64 r.at_, aEr (errOf tRead r.p r.e), .bool true]
def aIn (r : RdS) : AV := .agg [.str r.s, .int .i64 r.at_, .str r.p, .int .i64 r.e]
def aOut (w : WrS) : AV := .agg [.str w.out, .str w.p, .int .i64 w.e]
theorem noH_aW (m : Nat) (w : WrS) : ∀ x, x ∈ aW w → NoH m x := by simp [aW]
theorem noH_aRd (m : Nat) (r : RdS) : ∀ x, x ∈ aRd r → NoH m x := by simp [aRd]
theorem liesW : liesAt Tryz.prog Tryz.prog.depth 172 (3 / Tryz.prog.cellsOf 172) 0 170 1 = true := by kernel_rfl
theorem writeW (w : WrS) (s : ByteArray) (h : w.s.length + s.size ≤ 100000000) : FnM Tryz.prog 159 (fun i => [.box i 0, .str s]) (aW w) (.tup [.int .i64 s.size, .raw .nilIface]) [.adr 172, .buf 5 (bs w.s ++ s), aEr (errOf tWrite w.p w.e)] :=
  bld_write (n := 3) liesW (by decide) (bs w.s) s [aEr (errOf tWrite w.p w.e)] rfl (by rw [bs_size]; omega)
theorem plain_aEr (e : Er) : (aEr e).plainC = true := by cases e <;> rfl
theorem unrowF_bad (l : List UInt8) (k : Nat) : ∀ (to : Int) (acc : List Int), (unrowF l k to acc).2.2 ≠ 0 → (unrowF l k to acc).1 = [] := by
  induction k with
  | zero => intro to acc h; exact absurd rfl h
  | succ k ih =>
    intro to acc h
    rw [unrow_step] at h ⊢
    split
    · rfl
    rename_i h1; rw [if_neg h1] at h; exact ih _ _ h
theorem unrow_bad {l : List UInt8} {p top : Int} (h : (unrowN l p top).2.2 ≠ 0) : (unrowN l p top).1 = [] := by
  unfold unrowN at h ⊢
  split
  · rfl
  rename_i h1
  rw [if_neg h1] at h
  split
  · rfl
  rename_i h2; rw [if_neg h2] at h; exact unrowF_bad _ _ _ _ h
theorem moved_pos {r : RdS} {p : ByteArray} {to e : Int} (h : e ≠ 0) : r.moved p to e = { r with p := p, e := e } := if_pos h
theorem moved_neg {r : RdS} {p : ByteArray} {to e : Int} (h : e = 0) : r.moved p to e = { r with at_ := to } := if_neg (by simpa using h)
set_option maxHeartbeats 1000000 in
theorem put_w (w : WrS) (p : ByteArray) (u : List UInt8) (s : ByteArray) (hs : s = bs u) (e : Int) (hl : w.s.length + u.length ≤ 10000000) : FnM Tryz.prog 145 (fun i => [.box i 0, .str p, .str s, .int .i64 e]) (aW w) (.tup []) (aW (wrPut w p u e)) := by
  subst hs
  refine FnM.of Tryz.func145 rfl rfl (fun i => by simp) (fun H i m hHm hi hG => ?_)
  have hN : NoH H.length (.tup []) := (by simp [AV.cells, aIn, aOut])
  refine AWP.seq ?_
  refine sr fun _ => ?_
  refine mv ?_
  refine ARun.isNilBox rfl rfl rfl rfl U211 (ep rfl) (atO hi) (.inl ⟨rfl, rfl⟩) optN ?_
  refine mv ?_
  refine ρj ?_
  first | refine ARun.nilPe rfl rfl rfl rfl (Ev.opt rfl (fun h => h)) optS ?_ | refine ARun.nilFn rfl rfl rfl rfl (Ev.opt rfl (fun h => h)) optS ?_ | refine ARun.nilBox rfl rfl rfl rfl (Ev.opt rfl (fun h => h)) (atO hi) optS ?_
  refine ARun.fieldBox (fo := 2) rfl rfl rfl rfl U172 rfl rfl sz53 (by decide) (Ev.opt rfl (fun h => h)) (atO hi) optS ?_
  refine ARun.loadBox rfl rfl rfl rfl U53 rfl (Ev.opt rfl (fun h => h)) (atO hi) rfl optS ?_
  refine ARun.isNil rfl rfl rfl rfl U53 (Ev.opt rfl (fun h => h)) (fun hg => by first | rfl | exact nilA_aEr _) (.inr ⟨rfl, rfl⟩) optS ?_
  refine ρ4 ?_
  refine ez ?_
  refine ρn (fun h0 => ?_) (fun h0 => ?_)
  · have hw : w.e ≠ 0 := by simpa [errOf_none] using h0
    refine AWP.ret (thenA_r ?_)
    refine endF.toG (congrArg (fun c => H.set i (AO.box c)) (by rw [wrPut, if_pos hw])) ?_
    refine endF.many (.inr rfl) (rs := []) rfl .nil (by simp) ?_ (by rw [List.length_set]; exact hN)
    rfl
  have hw : w.e = 0 := by simpa [errOf_none] using h0
  refine AWP.skip (thenA_n (AWP.seq ?_))
  refine sr fun _ => ?_
  refine mv ?_
  refine ρ1 ?_
  refine ez ?_
  refine ρn (fun h1 => ?_) (fun h1 => ?_)
  · have he : e ≠ 0 := by simpa using h1
    refine sr fun _ => ?_
    refine mv ?_
    refine mv ?_
    refine mv ?_
    refine ρg cf62 (fun hg => new_fn p e) ?_
    refine ρg cf61 (fun hg => wrap_fn tWrite (Er.new p e)) ?_
    first | refine ARun.nilPe rfl rfl rfl rfl (ep rfl) optN ?_ | refine ARun.nilFn rfl rfl rfl rfl (ep rfl) optN ?_ | refine ARun.nilBox rfl rfl rfl rfl (ep rfl) (atO hi) optN ?_
    refine ARun.fieldBox (fo := 2) rfl rfl rfl rfl U172 rfl rfl sz53 (by decide) (ep rfl) (atO hi) optN ?_
    refine ARun.storeO1 hi hG rfl rfl rfl sz53 (ep rfl) (ep rfl) (by first | rfl | exact aEr_one _ | exact aFl_one _) (Nat.le_of_ble_eq_true rfl) rfl (by first | exact noH_aW _ _ | (simp; done) | (simp [cAV]; done)) (fun hG => ?_) (hsp := (by simp [aW, plain_aEr]))
    refine ez ?_
    refine AWP.ret (thenA_r ?_)
    refine endF.toG (congrArg (fun c => H.set i (AO.box c)) (by rw [wrPut, if_neg (by omega), if_pos he]; exact congrArg (fun x => [AV.adr _, .buf _ (bs w.s), aEr x]) (errOf_mk tWrite p e))) ?_
    refine endF.many (.inr rfl) (rs := []) rfl .nil (by simp) ?_ (by rw [List.length_set]; exact hN)
    rfl
  have he : e = 0 := by simpa using h1
  refine AWP.skip (thenA_n ?_)
  refine AWP.region (fun _ => ?_)
  refine mv ?_
  first | refine ARun.nilPe rfl rfl rfl rfl (ep rfl) optN ?_ | refine ARun.nilFn rfl rfl rfl rfl (ep rfl) optN ?_ | refine ARun.nilBox rfl rfl rfl rfl (ep rfl) (atO hi) optN ?_
  refine ARun.fieldBox (fo := 0) rfl rfl rfl rfl U172 rfl rfl sz170 (by decide) (ep rfl) (atO hi) optN ?_
  refine mv ?_
  refine ARun.callO hi hG rfl rfl rfl rfl cf159 (ep rfl) (.cons (ep rfl) (.cons (ep rfl) .nil)) rfl (writeW w (bs u) (by rw [bs_size]; omega) _ _ (atO hi)) (by first | exact noH_aW _ _ | (simp; done) | (simp [cAV]; done)) optN (fun hG => ?_)
  refine ⟨_, _, rfl, hG, ?_⟩
  refine endF.toG (congrArg (fun c => H.set i (AO.box c)) (by rw [wrPut, if_neg (by omega), if_neg (by omega), bs_append]; rfl)) ?_
  refine endF.many (.inl rfl) (rs := []) rfl .nil (by simp) ?_ (by rw [List.length_set]; exact hN)
  rfl
-- numbers
set_option maxHeartbeats 1000000 in
theorem nums_w (w : WrS) (l : List Int) (hll : l.length ≤ 1000) (hl : w.s.length ≤ 1000000) (hf : ∀ x, x ∈ l → -9223372036854775808 ≤ x ∧ x ≤ 9223372036854775807) : FnM Tryz.prog 116 (fun i => [.box i 0, .sl (l.map (AV.int .i64))]) (aW w) (.tup []) (aW (wrNums w l)) := by
  refine FnM.of Tryz.func116 rfl rfl (fun i => by simp) (fun H i m hHm hi hG => ?_)
  have hN : NoH H.length (.tup []) := (by simp [AV.cells, aIn, aOut])
  refine sr fun _ => ?_
  refine mv ?_
  refine ARun.makeFunc rfl rfl rfl rfl (.cons (ep rfl) .nil) .nil optN ?_
  refine mz ?_
  refine sr fun _ => ?_
  refine mv ?_
  refine ρw U29 ?_
  refine mv ?_
  refine ez ?_
  refine AWP.block ?_
  refine AWP.roundsO (fun k => k ≤ l.length) (fun k => [(1, .sl (l.map (AV.int .i64))), (4, .fn (.func 145) [.box i 0] []), (11, .sl (l.map (AV.int .i64))), (12, .int .i64 ((l.map (AV.int .i64)).length : Int)), (13, .int .i64 (k : Int))]) (fun k => H.set i (.box (aW (wrNums w (l.take k))))) (fun k => []) (fun k => l.length - k) 0 0 (Nat.zero_le _) (by repeat (first | exact .nil | refine .cons rfl ?_)) rfl rfl (fun _ => rfl) (fun _ => ⟨by simp [AV.cells]; omega, by simp⟩) (fun k hI hG => ?_)
  show AWP _ _ _ _ _ [(1, .sl (l.map (AV.int .i64))), (4, .fn (.func 145) [.box i 0] []), (11, .sl (l.map (AV.int .i64))), (12, .int .i64 ((l.map (AV.int .i64)).length : Int)), (13, .int .i64 (k : Int))] (H.set i (.box (aW (wrNums w (l.take k))))) []
  replace hG : GOK _ (H.set i (.box (aW (wrNums w (l.take k))))) := hG
  have hwl := wrNums_len (l.take k) w
  have htl : (l.take k).length ≤ k := by rw [List.length_take]; omega
  refine sr fun _ => ?_
  refine ρ1 ?_
  refine ez ?_
  refine AWP.seq ?_
  refine ρn (fun h0 => ?_) (fun h0 => ?_)
  · try simp [-List.getD_eq_getElem?_getD] at h0
    refine AWP.skip (thenA_n ?_)
    refine AWP.seq (AWP.block ?_)
    refine sr fun _ => ?_
    first | refine ρh U29 sz3 ?_ | refine ρa U29 sz3 ?_
    refine ρb U3 ?_
    refine mz ?_
    refine sr fun _ => ?_
    refine mv ?_
    refine ARun.call rfl rfl rfl rfl cf146 (ep rfl) (.cons (ep rfl) .nil) rfl (fun hg => put_fn _ (fit_at hf (by simpa using h0))) optN ?_
    refine mv ?_
    refine ρ9 ?_
    refine ρ9 ?_
    refine ma ?_
    refine mz ?_
    refine AWP.region (fun _ => ?_)
    refine mv ?_
    refine mv ?_
    refine mv ?_
    refine ARun.callO hi hG rfl rfl rfl rfl cf145 (ep rfl) (.cons (ep rfl) (.cons (ep rfl) (.cons (ep rfl) .nil))) rfl (put_w (wrNums w (l.take k)) tNum (putN (l.getD k default)).1 _ rfl (putN (l.getD k default)).2 (by have := putN_len (l.getD k default); omega) _ _ (atO hi)) (by first | exact noH_aW _ _ | (simp; done) | (simp [cAV]; done)) optN (fun hG => ?_)
    refine ⟨_, _, rfl, hG, ?_⟩
    refine blockA_n (thenA_n ?_)
    refine AWP.region (fun _ => ?_)
    first | refine ρc ?_ | refine ρk ?_
    refine mv ?_
    refine ⟨_, _, rfl, hG, ?_⟩
    refine thenA_n ⟨k + 1, _, ?_, ?_, ?_, rfl, ?_⟩
    · rw [wrNums_succ w l k (by simpa using h0)]; rfl
    · omega
    · repeat (first | exact .nil | refine .cons rfl ?_)
    omega
  simp at h0
  obtain rfl : k = l.length := by omega
  rw [List.take_length]
  refine AWP.exit ?_
  refine thenA_x ?_
  refine thenA_x ?_
  refine blockA_h ?_
  refine endF.toG (congrArg (fun c => H.set i (AO.box c)) rfl) ?_
  refine endF.many (.inl rfl) (rs := []) rfl .nil (by simp) ?_ (by rw [List.length_set]; exact hN)
  rfl
set_option maxHeartbeats 1000000 in
theorem row_w (w : WrS) (l : List Int) (hll : l.length ≤ 10000) (hl : w.s.length ≤ 1000000) (hf : ∀ x, x ∈ l → -9223372036854775808 ≤ x ∧ x ≤ 9223372036854775807) : FnM Tryz.prog 117 (fun i => [.box i 0, .sl (l.map (AV.int .i64))]) (aW w) (.tup []) (aW (wrRow w l)) := by
  have hrl := rowN_len l
  refine FnM.of Tryz.func117 rfl rfl (fun i => by simp) (fun H i m hHm hi hG => ?_)
  have hN : NoH H.length (.tup []) := (by simp [AV.cells, aIn, aOut])
  refine sr fun _ => ?_
  refine mv ?_
  refine ρl cf147 (fun hg => rowN_fn l hll hf) ?_
  refine mv ?_
  refine ρ9 ?_
  refine ρ9 ?_
  refine ma ?_
  refine mz ?_
  refine AWP.region (fun _ => ?_)
  refine mv ?_
  refine mv ?_
  refine mv ?_
  refine ARun.callO hi hG rfl rfl rfl rfl cf145 (ep rfl) (.cons (ep rfl) (.cons (ep rfl) (.cons (ep rfl) (.cons (ep rfl) .nil)))) rfl (put_w w tRow (rowN l).1 _ rfl (rowN l).2 (by omega) _ _ (atO hi)) (by first | exact noH_aW _ _ | (simp; done) | (simp [cAV]; done)) optN (fun hG => ?_)
  refine ⟨_, _, rfl, hG, ?_⟩
  refine endF.toG (congrArg (fun c => H.set i (AO.box c)) rfl) ?_
  refine endF.many (.inl rfl) (rs := []) rfl .nil (by simp) ?_ (by rw [List.length_set]; exact hN)
  rfl
set_option maxHeartbeats 1000000 in
theorem done_ok (w : WrS) (h : w.e = 0) : FnK Tryz.prog 118 (fun i => [.box i 0]) (aW w) (.tup [.str w.out, .raw .nilIface]) := by
  refine FnK.of Tryz.func118 rfl rfl (fun i => by simp) (fun H i m hHm hi hG => ?_)
  have hN : NoH H.length (.tup [.str w.out, .raw .nilIface]) := (by simp [AV.cells, aIn, aOut])
  refine sr fun _ => ?_
  refine ma ?_
  refine mz ?_
  refine AWP.seq ?_
  refine sr fun _ => ?_
  refine mv ?_
  refine ARun.isNilBox rfl rfl rfl rfl U211 (ep rfl) (atO hi) (.inl ⟨rfl, rfl⟩) optN ?_
  refine ez ?_
  refine ρn (fun h0 => ?_) (fun h0 => ?_)
  · simp at h0
  refine AWP.skip (thenA_n (AWP.seq ?_))
  refine sr fun _ => ?_
  refine mv ?_
  first | refine ARun.nilPe rfl rfl rfl rfl (ep rfl) optN ?_ | refine ARun.nilFn rfl rfl rfl rfl (ep rfl) optN ?_ | refine ARun.nilBox rfl rfl rfl rfl (ep rfl) (atO hi) optN ?_
  refine ARun.fieldBox (fo := 2) rfl rfl rfl rfl U172 rfl rfl sz53 (by decide) (ep rfl) (atO hi) optN ?_
  refine ARun.loadBox rfl rfl rfl rfl U53 rfl (ep rfl) (atO hi) rfl optN ?_
  refine ARun.isNil rfl rfl rfl rfl U53 (ep rfl) (fun hg => by first | rfl | exact nilA_aEr _) (.inr ⟨rfl, rfl⟩) optN ?_
  refine ez ?_
  refine ρn (fun h1 => ?_) (fun h1 => ?_)
  · simp [errOf_none, h] at h1
  refine AWP.skip (thenA_n ?_)
  refine sr fun _ => ?_
  refine mv ?_
  first | refine ARun.nilPe rfl rfl rfl rfl (ep rfl) optN ?_ | refine ARun.nilFn rfl rfl rfl rfl (ep rfl) optN ?_ | refine ARun.nilBox rfl rfl rfl rfl (ep rfl) (atO hi) optN ?_
  refine ARun.fieldBox (fo := 0) rfl rfl rfl rfl U172 rfl rfl sz170 (by decide) (ep rfl) (atO hi) optN ?_
  refine ARun.callK hi hG rfl rfl rfl rfl cf148 (ep rfl) (.cons (ep rfl) .nil) rfl (bld_string (T := 172) (n := 3) (bs w.s) [aEr (errOf tWrite w.p w.e)] _ _ (atO hi)) optN (fun hG => ?_)
  refine ma ?_
  refine mz ?_
  refine AWP.ret ?_
  refine endF.many (.inr rfl) (rs := [.tmp 2, .tmp 3]) rfl (.cons (.tmp rfl) (.cons (.tmp rfl) .nil)) (by simp) ?_ (by rw [List.length_set]; exact hN)
  rw [WrS.out, if_pos h]; rfl
set_option maxHeartbeats 1000000 in
theorem done_bad (w : WrS) (h : w.e ≠ 0) : FnM Tryz.prog 118 (fun i => [.box i 0]) (aW w) (.tup [.str w.out, aEr (errOf tWrite w.p w.e)]) (aW w) := by
  refine FnM.of Tryz.func118 rfl rfl (fun i => by simp) (fun H i m hHm hi hG => ?_)
  have hN : NoH H.length (.tup [.str w.out, aEr (errOf tWrite w.p w.e)]) := (by simp [AV.cells, aIn, aOut])
  refine sr fun _ => ?_
  refine ma ?_
  refine mz ?_
  refine AWP.seq ?_
  refine sr fun _ => ?_
  refine mv ?_
  refine ARun.isNilBox rfl rfl rfl rfl U211 (ep rfl) (atO hi) (.inl ⟨rfl, rfl⟩) optN ?_
  refine ez ?_
  refine ρn (fun h0 => ?_) (fun h0 => ?_)
  · simp at h0
  refine AWP.skip (thenA_n (AWP.seq ?_))
  refine sr fun _ => ?_
  refine mv ?_
  first | refine ARun.nilPe rfl rfl rfl rfl (ep rfl) optN ?_ | refine ARun.nilFn rfl rfl rfl rfl (ep rfl) optN ?_ | refine ARun.nilBox rfl rfl rfl rfl (ep rfl) (atO hi) optN ?_
  refine ARun.fieldBox (fo := 2) rfl rfl rfl rfl U172 rfl rfl sz53 (by decide) (ep rfl) (atO hi) optN ?_
  refine ARun.loadBox rfl rfl rfl rfl U53 rfl (ep rfl) (atO hi) rfl optN ?_
  refine ARun.isNil rfl rfl rfl rfl U53 (ep rfl) (fun hg => by first | rfl | exact nilA_aEr _) (.inr ⟨rfl, rfl⟩) optN ?_
  refine ez ?_
  refine ρn (fun h1 => ?_) (fun h1 => ?_)
  · refine AWP.seq ?_
    refine AWP.draw mixed (by kernel_rfl) (fun _ => ?_)
    refine mv ?_
    first | refine ARun.nilPe rfl rfl rfl rfl (ep rfl) optN ?_ | refine ARun.nilFn rfl rfl rfl rfl (ep rfl) optN ?_ | refine ARun.nilBox rfl rfl rfl rfl (ep rfl) (atO hi) optN ?_
    refine ARun.fieldBox (fo := 2) rfl rfl rfl rfl U172 rfl rfl sz53 (by decide) (ep rfl) (atO hi) optN ?_
    refine ARun.loadBox rfl rfl rfl rfl U53 rfl (ep rfl) (atO hi) rfl optN ?_
    refine ma ?_
    refine ma ?_
    refine ⟨by kernel_rfl, _, _, rfl, hG, ?_⟩
    refine thenA_n (AWP.ret (thenA_r ?_))
    refine endF.toG (congrArg (fun c => H.set i (AO.box c)) rfl) ?_
    refine endF.many (.inr rfl) (rs := [.tmp 2, .tmp 3]) rfl (.cons (.tmp rfl) (.cons (.tmp rfl) .nil)) (by simp) ?_ (by rw [List.length_set]; exact hN)
    rw [WrS.out, if_neg h]; rfl
  simp [errOf_none, h] at h1
theorem done_w (w : WrS) : FnK Tryz.prog 118 (fun i => [.box i 0]) (aW w) (.tup [.str w.out, aEr (errOf tWrite w.p w.e)]) := by
  by_cases h : w.e = 0
  · rw [h, errOf_zero]; exact done_ok w h
  exact (done_bad w h).kill (by simp)
set_option maxHeartbeats 1000000 in
theorem newr_fn (s : ByteArray) : FnNewB Tryz.prog 56 [.str s] (fun i => .box i 0) (aRd (RdS.new s)) := by
  refine FnNewB.of Tryz.func56 rfl rfl (by simp) (fun G hG => ?_)
  refine sr fun _ => ?_
  refine mz ?_
  refine sr fun _ => ?_
  refine mv ?_
  refine ARun.build rfl rfl rfl rfl so139 (.cons (ep rfl) (.cons (ep rfl) .nil)) rfl rfl optN ?_
  refine ARun.box (j := 0) hG rfl rfl rfl rfl rfl (ep rfl) rfl rfl optN ?_
  refine mz ?_
  refine AWP.ret ?_
  refine endN.one (.inr rfl) rfl (.tmp rfl) ?_ (by first | exact noH_aRd _ _ | (simp; done)) (by first | exact noH_aRd _ _ | (simp; done))
  rfl
set_option maxHeartbeats 1000000 in
theorem goes_fn (r : RdS) : FnM Tryz.prog 93 (fun i => [.box i 0]) (aRd r) (.bool (decide (r.e = 0))) (aRd r) := by
  refine FnM.of Tryz.func93 rfl rfl (fun i => by simp) (fun H i m hHm hi hG => ?_)
  have hN : NoH H.length (.bool (decide (r.e = 0))) := (by simp [AV.cells, aIn, aOut])
  refine sr fun _ => ?_
  refine mz ?_
  refine sr fun _ => ?_
  refine ρs (j := 0) zv145 ?_
  refine ez ?_
  refine sr fun _ => ?_
  refine mv ?_
  refine ARun.isNilBox rfl rfl rfl rfl U100 (ep rfl) (atO hi) (.inr ⟨rfl, rfl⟩) optN ?_
  refine mv ?_
  refine ρj ?_
  first | refine ARun.nilPe rfl rfl rfl rfl (Ev.opt rfl (fun h => h)) optS ?_ | refine ARun.nilFn rfl rfl rfl rfl (Ev.opt rfl (fun h => h)) optS ?_ | refine ARun.nilBox rfl rfl rfl rfl (Ev.opt rfl (fun h => h)) (atO hi) optS ?_
  refine ARun.fieldBox (fo := 3) rfl rfl rfl rfl U139 rfl rfl sz4 (by decide) (Ev.opt rfl (fun h => h)) (atO hi) optS ?_
  refine ARun.loadBox rfl rfl rfl rfl U4 rfl (Ev.opt rfl (fun h => h)) (atO hi) rfl optS ?_
  refine ρ0 ?_
  refine mv ?_
  refine ρj ?_
  first | refine ARun.nilPe rfl rfl rfl rfl (Ev.opt rfl (fun h => h)) optS ?_ | refine ARun.nilFn rfl rfl rfl rfl (Ev.opt rfl (fun h => h)) optS ?_ | refine ARun.nilBox rfl rfl rfl rfl (Ev.opt rfl (fun h => h)) (atO hi) optS ?_
  refine ARun.fieldBox (fo := 2) rfl rfl rfl rfl U139 rfl rfl sz53 (by decide) (Ev.opt rfl (fun h => h)) (atO hi) optS ?_
  refine ARun.loadBox rfl rfl rfl rfl U53 rfl (Ev.opt rfl (fun h => h)) (atO hi) rfl optS ?_
  refine ARun.iface rfl rfl rfl rfl (by kernel_rfl) (ep rfl) optS ?_
  refine ARun.callSetG (j := 0) hG rfl rfl rfl rfl cf63 (ep rfl) (.cons (Ev.opt rfl (fun h => h)) (.cons (Ev.opt rfl (fun h => h)) .nil)) rfl (fun hg => As_F (errOf tRead r.p r.e) _ _ ((hG.at _ _).trans rfl)) (fun hg => by simp at hg) rfl optS ?_
  refine ARun.not rfl rfl rfl rfl (Ev.opt rfl (fun h => h)) optS ?_
  refine ρ0 ?_
  refine mz ?_
  refine AWP.ret ?_
  refine endF.toG (congrArg (fun c => H.set i (AO.box c)) rfl) ?_
  refine endF.one (.inr rfl) rfl (.tmp rfl) ?_ (by rw [List.length_set]; exact hN)
  simp [errOf_isWr]
set_option maxHeartbeats 1000000 in
theorem done_fn (r : RdS) (p : ByteArray) (to e : Int) : FnM Tryz.prog 95 (fun i => [.box i 0, .str p, .int .i64 to, .int .i64 e]) (aRd r) (.bool (decide (e = 0))) (aRd (r.moved p to e)) := by
  refine FnM.of Tryz.func95 rfl rfl (fun i => by simp) (fun H i m hHm hi hG => ?_)
  have hN : NoH H.length (.bool (decide (e = 0))) := (by simp [AV.cells, aIn, aOut])
  refine sr fun _ => ?_
  refine mz ?_
  refine AWP.seq ?_
  refine sr fun _ => ?_
  refine mv ?_
  refine ρ1 ?_
  refine ez ?_
  refine ρn (fun h0 => ?_) (fun h0 => ?_)
  · have he : e ≠ 0 := by simpa using h0
    refine sr fun _ => ?_
    refine mv ?_
    refine mv ?_
    refine mv ?_
    refine ρg cf62 (fun hg => new_fn p e) ?_
    refine ρg cf61 (fun hg => wrap_fn tRead (Er.new p e)) ?_
    first | refine ARun.nilPe rfl rfl rfl rfl (ep rfl) optN ?_ | refine ARun.nilFn rfl rfl rfl rfl (ep rfl) optN ?_ | refine ARun.nilBox rfl rfl rfl rfl (ep rfl) (atO hi) optN ?_
    refine ARun.fieldBox (fo := 2) rfl rfl rfl rfl U139 rfl rfl sz53 (by decide) (ep rfl) (atO hi) optN ?_
    refine ARun.storeO1 hi hG rfl rfl rfl sz53 (ep rfl) (ep rfl) (by first | rfl | exact aEr_one _ | exact aFl_one _) (Nat.le_of_ble_eq_true rfl) rfl (by first | exact noH_aRd _ _ | (simp; done) | (simp [cAV]; done)) (fun hG => ?_) (hsp := (by first | rfl | simp [aRd, plain_aEr]))
    refine ez ?_
    refine sr fun _ => ?_
    refine mz ?_
    refine AWP.ret (thenA_r ?_)
    refine endF.toG (congrArg (fun c => H.set i (AO.box c)) (by rw [moved_pos he]; exact congrArg (fun x => [AV.str r.s, .int .i64 r.at_, aEr x, .bool true]) (errOf_mk tRead p e))) ?_
    refine endF.one (.inr rfl) rfl (.tmp rfl) ?_ (by rw [List.length_set]; exact hN)
    simp [he]; rfl
  have he : e = 0 := by simpa using h0
  refine AWP.skip (thenA_n ?_)
  refine sr fun _ => ?_
  refine mv ?_
  refine mv ?_
  first | refine ARun.nilPe rfl rfl rfl rfl (ep rfl) optN ?_ | refine ARun.nilFn rfl rfl rfl rfl (ep rfl) optN ?_ | refine ARun.nilBox rfl rfl rfl rfl (ep rfl) (atO hi) optN ?_
  refine ARun.fieldBox (fo := 1) rfl rfl rfl rfl U139 rfl rfl sz3 (by decide) (ep rfl) (atO hi) optN ?_
  refine ARun.storeO1 hi hG rfl rfl rfl sz3 (ep rfl) (ep rfl) (by first | rfl | exact aEr_one _ | exact aFl_one _) (Nat.le_of_ble_eq_true rfl) rfl (by first | exact noH_aRd _ _ | (simp; done) | (simp [cAV]; done)) (fun hG => ?_) (hsp := (by first | rfl | simp [aRd, plain_aEr]))
  refine ez ?_
  refine sr fun _ => ?_
  refine mz ?_
  refine AWP.ret ?_
  refine endF.toG (congrArg (fun c => H.set i (AO.box c)) (by rw [moved_neg he]; rfl)) ?_
  refine endF.one (.inr rfl) rfl (.tmp rfl) ?_ (by rw [List.length_set]; exact hN)
  simp [he]; rfl
set_option maxHeartbeats 1000000 in
theorem num_r (r : RdS) (most : Int) (h : r.ok) : FnM Tryz.prog 57 (fun i => [.box i 0, .int .i64 most]) (aRd r) (.int .i64 (rdNum r most).2) (aRd (rdNum r most).1) := by
  refine FnM.of Tryz.func57 rfl rfl (fun i => by simp) (fun H i m hHm hi hG => ?_)
  have hN : NoH H.length (.int .i64 (rdNum r most).2) := (by simp [AV.cells, aIn, aOut])
  refine sr fun _ => ?_
  refine mz ?_
  refine AWP.seq ?_
  refine sr fun _ => ?_
  refine mv ?_
  refine ARun.callR rfl rfl rfl rfl cf93 (ep rfl) (.cons (ep rfl) .nil) rfl (fun hg => FnM.keep (goes_fn r) (atO hi)) optN ?_
  refine ρA ?_
  refine ez ?_
  refine ρn (fun h0 => ?_) (fun h0 => ?_)
  · have he : r.e ≠ 0 := by simpa using h0
    refine sr fun _ => ?_
    refine mz ?_
    refine AWP.ret (thenA_r ?_)
    refine endF.toG (congrArg (fun c => H.set i (AO.box c)) (by rw [rdNum, if_pos he])) ?_
    refine endF.one (.inr rfl) rfl (.tmp rfl) ?_ (by rw [List.length_set]; exact hN)
    rw [rdNum, if_pos he]; rfl
  have he : r.e = 0 := by simpa using h0
  have hde : rdNum r most = (r.moved tNum (getN (bl r.s) r.at_).2.1 (numE r most), if numE r most ≠ 0 then 0 else (getN (bl r.s) r.at_).1) := by rw [rdNum, if_neg (by omega)]
  refine AWP.skip (thenA_n (AWP.seq ?_))
  refine AWP.draw mixed (by kernel_rfl) (fun _ => ?_)
  refine mv ?_
  first | refine ARun.nilPe rfl rfl rfl rfl (ep rfl) optN ?_ | refine ARun.nilFn rfl rfl rfl rfl (ep rfl) optN ?_ | refine ARun.nilBox rfl rfl rfl rfl (ep rfl) (atO hi) optN ?_
  refine ARun.fieldBox (fo := 0) rfl rfl rfl rfl U139 rfl rfl sz9 (by decide) (ep rfl) (atO hi) optN ?_
  refine ARun.loadBox rfl rfl rfl rfl U9 rfl (ep rfl) (atO hi) rfl optN ?_
  refine mv ?_
  first | refine ARun.nilPe rfl rfl rfl rfl (ep rfl) optN ?_ | refine ARun.nilFn rfl rfl rfl rfl (ep rfl) optN ?_ | refine ARun.nilBox rfl rfl rfl rfl (ep rfl) (atO hi) optN ?_
  refine ARun.fieldBox (fo := 1) rfl rfl rfl rfl U139 rfl rfl sz3 (by decide) (ep rfl) (atO hi) optN ?_
  refine ARun.loadBox rfl rfl rfl rfl U3 rfl (ep rfl) (atO hi) rfl optN ?_
  refine ρg cf94 (fun hg => get_fn r.s r.at_ h.2.2) ?_
  refine mv ?_
  refine ρ9 ?_
  refine ρ9 ?_
  refine ρ9 ?_
  refine ma ?_
  refine ma ?_
  refine ma ?_
  refine ⟨by kernel_rfl, _, _, rfl, hG, ?_⟩
  refine thenA_n (AWP.seq ?_)
  refine sr fun _ => ?_
  refine mv ?_
  refine ρ1 ?_
  refine mv ?_
  refine ρj ?_
  refine ρj ?_
  refine ρv ?_
  refine ρ0 ?_
  refine ez ?_
  refine ρn (fun h1 => ?_) (fun h1 => ?_)
  · simp at h1
    have hne : numE r most = 3 := by rw [numE, if_pos (by omega)]
    rw [hne] at hde
    refine AWP.region (fun _ => ?_)
    refine mz ?_
    refine AWP.seq ?_
    refine sr fun _ => ?_
    refine mv ?_
    refine mv ?_
    refine mv ?_
    refine ARun.callO hi hG rfl rfl rfl rfl cf95 (ep rfl) (.cons (ep rfl) (.cons (ep rfl) (.cons (ep rfl) (.cons (ep rfl) .nil)))) rfl (done_fn r tNum (getN (bl r.s) r.at_).2.1 3 _ _ (atO hi)) (by first | exact noH_aRd _ _ | (simp; done) | (simp [cAV]; done)) optN (fun hG => ?_)
    refine ρA ?_
    refine ez ?_
    refine ρn (fun h2 => ?_) (fun h2 => ?_)
    · refine sr fun _ => ?_
      refine mz ?_
      refine AWP.ret (thenA_r ?_)
      refine endF.toG (congrArg (fun c => H.set i (AO.box c)) (by rw [hde])) ?_
      refine endF.one (.inr rfl) rfl (.tmp rfl) ?_ (by rw [List.length_set]; exact hN)
      rw [hde]; rfl
    simp at h2
  have h1' : ¬ ((getN (bl r.s) r.at_).2.2 = 0 ∧ (getN (bl r.s) r.at_).1 > most) := by simp at h1; omega
  have hne : numE r most = (getN (bl r.s) r.at_).2.2 := by rw [numE, if_neg h1']
  rw [hne] at hde
  refine AWP.skip (thenA_n (AWP.seq ?_))
  refine sr fun _ => ?_
  refine mv ?_
  refine mv ?_
  refine mv ?_
  refine ARun.callO hi hG rfl rfl rfl rfl cf95 (ep rfl) (.cons (ep rfl) (.cons (ep rfl) (.cons (ep rfl) (.cons (ep rfl) .nil)))) rfl (done_fn r tNum (getN (bl r.s) r.at_).2.1 (getN (bl r.s) r.at_).2.2 _ _ (atO hi)) (by first | exact noH_aRd _ _ | (simp; done) | (simp [cAV]; done)) optN (fun hG => ?_)
  refine ρA ?_
  refine ez ?_
  refine ρn (fun h3 => ?_) (fun h3 => ?_)
  · simp at h3
    refine sr fun _ => ?_
    refine mz ?_
    refine AWP.ret (thenA_r ?_)
    refine endF.toG (congrArg (fun c => H.set i (AO.box c)) (by rw [hde])) ?_
    refine endF.one (.inr rfl) rfl (.tmp rfl) ?_ (by rw [List.length_set]; exact hN)
    rw [hde, if_pos h3]; rfl
  simp at h3
  refine AWP.skip (thenA_n ?_)
  refine sr fun _ => ?_
  refine mv ?_
  refine mz ?_
  refine AWP.ret ?_
  refine endF.toG (congrArg (fun c => H.set i (AO.box c)) (by rw [hde])) ?_
  refine endF.one (.inr rfl) rfl (.tmp rfl) ?_ (by rw [List.length_set]; exact hN)
  rw [hde, if_neg (by omega)]
set_option maxHeartbeats 1000000 in
theorem row_r (r : RdS) (most : Int) (h : r.ok) : FnM Tryz.prog 58 (fun i => [.box i 0, .int .i64 most]) (aRd r) (.sl ((rdRow r most).2.map (AV.int .i64))) (aRd (rdRow r most).1) := by
  refine FnM.of Tryz.func58 rfl rfl (fun i => by simp) (fun H i m hHm hi hG => ?_)
  have hN : NoH H.length (.sl ((rdRow r most).2.map (AV.int .i64))) := (by simp [AV.cells])
  refine sr fun _ => ?_
  refine mz ?_
  refine AWP.seq ?_
  refine sr fun _ => ?_
  refine mv ?_
  refine ARun.callR rfl rfl rfl rfl cf93 (ep rfl) (.cons (ep rfl) .nil) rfl (fun hg => FnM.keep (goes_fn r) (atO hi)) optN ?_
  refine ρA ?_
  refine ez ?_
  refine ρn (fun h0 => ?_) (fun h0 => ?_)
  · have he : r.e ≠ 0 := by simpa using h0
    refine sr fun _ => ?_
    refine mz ?_
    refine AWP.ret (thenA_r ?_)
    refine endF.toG (congrArg (fun c => H.set i (AO.box c)) (by rw [rdRow, if_pos he])) ?_
    refine endF.one (.inr rfl) rfl (.tmp rfl) ?_ (by rw [List.length_set]; exact hN)
    rw [rdRow, if_pos he]; rfl
  have he : r.e = 0 := by simpa using h0
  have hde : rdRow r most = (r.moved tRow (unrowN (bl r.s) r.at_ most).2.1 (unrowN (bl r.s) r.at_ most).2.2, (unrowN (bl r.s) r.at_ most).1) := by rw [rdRow, if_neg (by omega)]
  refine AWP.skip (thenA_n (AWP.seq ?_))
  refine AWP.draw mixed (by kernel_rfl) (fun _ => ?_)
  refine mv ?_
  first | refine ARun.nilPe rfl rfl rfl rfl (ep rfl) optN ?_ | refine ARun.nilFn rfl rfl rfl rfl (ep rfl) optN ?_ | refine ARun.nilBox rfl rfl rfl rfl (ep rfl) (atO hi) optN ?_
  refine ARun.fieldBox (fo := 0) rfl rfl rfl rfl U139 rfl rfl sz9 (by decide) (ep rfl) (atO hi) optN ?_
  refine ARun.loadBox rfl rfl rfl rfl U9 rfl (ep rfl) (atO hi) rfl optN ?_
  refine mv ?_
  first | refine ARun.nilPe rfl rfl rfl rfl (ep rfl) optN ?_ | refine ARun.nilFn rfl rfl rfl rfl (ep rfl) optN ?_ | refine ARun.nilBox rfl rfl rfl rfl (ep rfl) (atO hi) optN ?_
  refine ARun.fieldBox (fo := 1) rfl rfl rfl rfl U139 rfl rfl sz3 (by decide) (ep rfl) (atO hi) optN ?_
  refine ARun.loadBox rfl rfl rfl rfl U3 rfl (ep rfl) (atO hi) rfl optN ?_
  refine mv ?_
  refine ARun.call rfl rfl rfl rfl cf96 (ep rfl) (.cons (ep rfl) (.cons (ep rfl) (.cons (ep rfl) .nil))) rfl (fun hg => unrowN_fn r.s r.at_ most h.2.2) optN ?_
  refine mv ?_
  refine ρ9 ?_
  refine ρ9 ?_
  refine ρ9 ?_
  refine ma ?_
  refine ma ?_
  refine ma ?_
  refine ⟨by kernel_rfl, _, _, rfl, hG, ?_⟩
  refine thenA_n (AWP.seq ?_)
  refine sr fun _ => ?_
  refine mv ?_
  refine mv ?_
  refine mv ?_
  refine ARun.callO hi hG rfl rfl rfl rfl cf95 (ep rfl) (.cons (ep rfl) (.cons (ep rfl) (.cons (ep rfl) (.cons (ep rfl) .nil)))) rfl (done_fn r tRow (unrowN (bl r.s) r.at_ most).2.1 (unrowN (bl r.s) r.at_ most).2.2 _ _ (atO hi)) (by first | exact noH_aRd _ _ | (simp; done) | (simp [cAV]; done)) optN (fun hG => ?_)
  refine ρA ?_
  refine ez ?_
  refine ρn (fun h1 => ?_) (fun h1 => ?_)
  · simp at h1
    refine sr fun _ => ?_
    refine mz ?_
    refine AWP.ret (thenA_r ?_)
    refine endF.toG (congrArg (fun c => H.set i (AO.box c)) (by rw [hde])) ?_
    refine endF.one (.inr rfl) rfl (.tmp rfl) ?_ (by rw [List.length_set]; exact hN)
    rw [hde, unrow_bad h1]; rfl
  simp at h1
  refine AWP.skip (thenA_n ?_)
  refine sr fun _ => ?_
  refine mv ?_
  refine mz ?_
  refine AWP.ret ?_
  refine endF.toG (congrArg (fun c => H.set i (AO.box c)) (by rw [hde])) ?_
  refine endF.one (.inr rfl) rfl (.tmp rfl) ?_ (by rw [List.length_set]; exact hN)
  rw [hde]
set_option maxHeartbeats 1000000 in
theorem end_r (r : RdS) (h : r.ok) : FnM Tryz.prog 59 (fun i => [.box i 0]) (aRd r) (.tup []) (aRd (rdEnd r)) := by
  refine FnM.of Tryz.func59 rfl rfl (fun i => by simp) (fun H i m hHm hi hG => ?_)
  have hN : NoH H.length (.tup []) := (by simp [AV.cells, aIn, aOut])
  refine AWP.seq ?_
  refine AWP.draw mixed (by kernel_rfl) (fun _ => ?_)
  refine mv ?_
  refine ARun.callR rfl rfl rfl rfl cf93 (ep rfl) (.cons (ep rfl) .nil) rfl (fun hg => FnM.keep (goes_fn r) (atO hi)) optN ?_
  refine mv ?_
  refine ρj ?_
  first | refine ARun.nilPe rfl rfl rfl rfl (Ev.opt rfl (fun h => h)) optS ?_ | refine ARun.nilFn rfl rfl rfl rfl (Ev.opt rfl (fun h => h)) optS ?_ | refine ARun.nilBox rfl rfl rfl rfl (Ev.opt rfl (fun h => h)) (atO hi) optS ?_
  refine ARun.fieldBox (fo := 1) rfl rfl rfl rfl U139 rfl rfl sz3 (by decide) (Ev.opt rfl (fun h => h)) (atO hi) optS ?_
  refine ARun.loadBox rfl rfl rfl rfl U3 rfl (Ev.opt rfl (fun h => h)) (atO hi) rfl optS ?_
  refine ρj ?_
  first | refine ARun.nilPe rfl rfl rfl rfl (Ev.opt rfl (fun h => h)) optS ?_ | refine ARun.nilFn rfl rfl rfl rfl (Ev.opt rfl (fun h => h)) optS ?_ | refine ARun.nilBox rfl rfl rfl rfl (Ev.opt rfl (fun h => h)) (atO hi) optS ?_
  refine ARun.fieldBox (fo := 0) rfl rfl rfl rfl U139 rfl rfl sz9 (by decide) (Ev.opt rfl (fun h => h)) (atO hi) optS ?_
  refine ARun.loadBox rfl rfl rfl rfl U9 rfl (Ev.opt rfl (fun h => h)) (atO hi) rfl optS ?_
  refine ARun.lenStr rfl rfl rfl rfl U9 (Ev.opt rfl (fun h => h)) optS ?_
  refine ρv ?_
  refine ρ0 ?_
  refine ⟨by kernel_rfl, _, _, rfl, hG, ?_⟩
  refine thenA_n ?_
  refine ρn (fun h0 => ?_) (fun h0 => ?_)
  · simp at h0
    refine AWP.region (fun _ => ?_)
    refine mv ?_
    refine ARun.callO hi hG rfl rfl rfl rfl cf95 (ep rfl) (.cons (ep rfl) (.cons (ep rfl) (.cons (ep rfl) (.cons (ep rfl) .nil)))) rfl (done_fn r tEnd 0 6 _ _ (atO hi)) (by first | exact noH_aRd _ _ | (simp; done) | (simp [cAV]; done)) optN (fun hG => ?_)
    refine ⟨_, _, rfl, hG, ?_⟩
    refine endF.toG (congrArg (fun c => H.set i (AO.box c)) (by rw [rdEnd, if_pos h0])) ?_
    refine endF.many (.inl rfl) (rs := []) rfl .nil (by simp) ?_ (by rw [List.length_set]; exact hN)
    rfl
  simp at h0
  refine AWP.skip ?_
  refine endF.toG (congrArg (fun c => H.set i (AO.box c)) (by rw [rdEnd, if_neg (by omega)])) ?_
  refine endF.many (.inl rfl) (rs := []) rfl .nil (by simp) ?_ (by rw [List.length_set]; exact hN)
  rfl
set_option maxHeartbeats 1000000 in
theorem rdone_fn (r : RdS) : FnM Tryz.prog 60 (fun i => [.box i 0]) (aRd r) (aEr (errOf tRead r.p r.e)) (aRd r) := by
  refine FnM.of Tryz.func60 rfl rfl (fun i => by simp) (fun H i m hHm hi hG => ?_)
  have hN : NoH H.length (aEr (errOf tRead r.p r.e)) := (by simp [AV.cells, aIn, aOut])
  refine sr fun _ => ?_
  refine mz ?_
  refine AWP.seq ?_
  refine sr fun _ => ?_
  refine mv ?_
  refine ARun.isNilBox rfl rfl rfl rfl U100 (ep rfl) (atO hi) (.inl ⟨rfl, rfl⟩) optN ?_
  refine mv ?_
  refine ρj ?_
  first | refine ARun.nilPe rfl rfl rfl rfl (Ev.opt rfl (fun h => h)) optS ?_ | refine ARun.nilFn rfl rfl rfl rfl (Ev.opt rfl (fun h => h)) optS ?_ | refine ARun.nilBox rfl rfl rfl rfl (Ev.opt rfl (fun h => h)) (atO hi) optS ?_
  refine ARun.fieldBox (fo := 3) rfl rfl rfl rfl U139 rfl rfl sz4 (by decide) (Ev.opt rfl (fun h => h)) (atO hi) optS ?_
  refine ARun.loadBox rfl rfl rfl rfl U4 rfl (Ev.opt rfl (fun h => h)) (atO hi) rfl optS ?_
  refine ARun.not rfl rfl rfl rfl (Ev.opt rfl (fun h => h)) optS ?_
  refine ρ4 ?_
  refine ez ?_
  refine ρn (fun h0 => ?_) (fun h0 => ?_)
  · simp at h0
  refine AWP.skip (thenA_n ?_)
  refine sr fun _ => ?_
  refine mv ?_
  first | refine ARun.nilPe rfl rfl rfl rfl (ep rfl) optN ?_ | refine ARun.nilFn rfl rfl rfl rfl (ep rfl) optN ?_ | refine ARun.nilBox rfl rfl rfl rfl (ep rfl) (atO hi) optN ?_
  refine ARun.fieldBox (fo := 2) rfl rfl rfl rfl U139 rfl rfl sz53 (by decide) (ep rfl) (atO hi) optN ?_
  refine ARun.loadBox rfl rfl rfl rfl U53 rfl (ep rfl) (atO hi) rfl optN ?_
  refine mz ?_
  refine AWP.ret ?_
  refine endF.toG (congrArg (fun c => H.set i (AO.box c)) rfl) ?_
  refine endF.one (.inr rfl) rfl (.tmp rfl) ?_ (by rw [List.length_set]; exact hN)
  rfl
theorem fit_one {n : Int} (h : -9223372036854775808 ≤ n ∧ n ≤ 9223372036854775807) : ∀ x, x ∈ [n] → -9223372036854775808 ≤ x ∧ x ≤ 9223372036854775807 := by
  intro x hx; simp at hx; subst hx; exact h
end Go.Proofs.YtgebpndhnkkbgaaGreatDoor
namespace Go.Proofs.YtgebpndhnkkbgaaGreatDoor
set_option linter.unusedVariables false
set_option linter.unusedSimpArgs false
open Go.RowKit Go.WideShapes
inductive AllRep (β : List Hd) (w : World) : List Value → List AV → Prop where
  | nil : AllRep β w [] []
  | cons {v : Value} {x : AV} {vs : List Value} {xs : List AV} (h : VRep β w v x) (t : AllRep β w vs xs) : AllRep β w (v :: vs) (x :: xs)
theorem AllRep.reps {β : List Hd} {w : World} : ∀ {vs : List Value} {xs : List AV}, AllRep β w vs xs → VReps β w vs.toArray xs := by
  intro vs
  induction vs with
  | nil => intro xs h; cases h; exact ⟨rfl, fun j u x h => by simp at h⟩
  | cons v vs ih =>
    intro xs h
    cases h with
    | cons h t =>
      obtain ⟨h1, h2⟩ := ih t
      refine ⟨by simpa using h1, fun j u x k1 k2 => ?_⟩
      cases j with
      | zero => simp at k1 k2; subst k1 k2; exact h
      | succ j => exact h2 j u x (by simpa using k1) (by simpa using k2)
theorem law_of_fn {P : Program} {F : FuncId} {args : List AV} (h : FnP P F args (.bool true)) {w : World} (hg : GOk [] w) {vs : List Value} (hv : AllRep [] w vs args) : Calls P F vs.toArray w fun e w' => e = .returned (.bool true) ∧ Below w.heap.size w w' := by
  refine (pure_call h (HRel.nil w hg) hv.reps).mono ?_
  rintro e w' ⟨v, rfl, hb, hr⟩
  obtain rfl := hr.bool_inv
  exact ⟨rfl, hb⟩
end Go.Proofs.YtgebpndhnkkbgaaGreatDoor
namespace Go.Proofs.YtgebpndhnkkbgaaGreatDoor
set_option linter.unusedVariables false
set_option linter.unusedSimpArgs false
open Go.RowKit
theorem VRep.owned {α : Type} {enc : α → List Value} {av : α → AV} {z : Nat} (hz : ∀ x, (enc x).length = z) (hc : ∀ x, (av x).cells = (enc x).map cAV) {β : List Hd} {w : World} {B : Nat} {e : TypeId} {v : Value} {xs : List α} (h : w.ownsRow B e z v xs.length (xs.flatMap enc)) (hβ : ∀ y, y ∈ β → ∀ b, b ∈ y.blks → b < B) : VRep β w v (.sl (xs.map av)) := by
  obtain ⟨a, cap, rfl, h1, h2, hr⟩ := Reads.of_owns hz rfl h
  cases a with
  | none =>
    rcases h.2 with ⟨e1, e2⟩ | ⟨g, cap', cur, e1, _⟩
    · have : xs = [] := List.length_eq_zero_iff.1 e2
      subst this
      cases e1; exact .slnil
    · cases e1
  | some x =>
    obtain ⟨b, off, sp⟩ := x
    rcases h.2 with ⟨e1, _⟩ | ⟨g, cap', cur, e1, hB, hg, _⟩
    · cases e1
    · cases e1
      have hget : ∀ (i j : Nat) (x y : AV), (xs.map av)[i]? = some x → x.cells[j]? = some y → ∃ u, w.cell? ⟨b, 0 + i * z + j, none⟩ = some u ∧ y = cAV u := by
        intro i j x y h3 h4
        rw [List.getElem?_map, Option.map_eq_some_iff] at h3
        obtain ⟨x', h3, rfl⟩ := h3
        obtain ⟨hi, rfl⟩ := List.getElem?_eq_some_iff.1 h3
        rw [hc, List.getElem?_map, Option.map_eq_some_iff] at h4
        obtain ⟨u, h4, rfl⟩ := h4
        obtain ⟨hj, h5⟩ := List.getElem?_eq_some_iff.1 h4
        obtain ⟨b', off', e1, e2, e3⟩ := hr i hi
        cases e1
        exact ⟨u, by rw [e3 j (by rw [← hz]; exact hj)]; exact h4, rfl⟩
      have h := VRep.sl (β := β) (w := w) b 0 cap z (xs.map av) (by simpa using h1) h2 (Array.getElem?_eq_some_iff.1 hg).1 (fun y hy hm => by have := hβ y hy _ hm; omega) (fun x hx => by
          obtain ⟨y, _, rfl⟩ := List.mem_map.1 hx
          rw [hc, List.length_map, hz])
        (fun i j x y h3 h4 => by obtain ⟨u, h5, _⟩ := hget i j x y h3 h4; exact ⟨u, h5⟩)
        (fun i j x y u h3 h4 h5 => by
          obtain ⟨u', h6, rfl⟩ := hget i j x y h3 h4
          rw [h5] at h6; cases h6; exact cAV_rep _ _ _)
      rw [List.length_map] at h
      exact h
theorem cAV_noH (m : Nat) (v : Value) : NoH m (cAV v) := by
  unfold cAV; split <;> first | exact .int _ _ | exact .bool _ | exact .str _ | exact .raw _ | exact .sl _ (fun x hx => by cases hx)
theorem FnP.of_owns {α : Type} (enc : α → List Value) (av : α → AV) (z : Nat) (hz : ∀ x, (enc x).length = z) (hc : ∀ x, (av x).cells = (enc x).map cAV) (hp : ∀ x u, u ∈ enc x → plainV u = true) {P : Program} {F : FuncId} {e : TypeId} (xs : List α)
    (h : ∀ (w : World) (a : Option Addr) (cap : Nat), Reads enc z w a xs → xs.length ≤ cap → cap ≤ maxLen → (a = none → cap = 0) → Calls P F #[.slice a xs.length cap] w fun e' w' => ∃ v, e' = .returned v ∧ w'.ownsRow w.heap.size e z v xs.length (xs.flatMap enc) ∧ Below w.heap.size w w') :
    FnP P F [.sl (xs.map av)] (.sl (xs.map av)) := by
  refine ⟨.sl _ fun x hx y hy => ?_, fun k w β vs hH hv => ?_⟩
  · obtain ⟨x', _, rfl⟩ := List.mem_map.1 hx
    rw [hc] at hy
    obtain ⟨u, _, rfl⟩ := List.mem_map.1 hy
    exact cAV_noH _ _
  · obtain ⟨v0, rfl, h0⟩ := VReps.single hv
    obtain ⟨a, cap, rfl, h1, h2, h3, h4⟩ := sl_reads hz hc hp h0
    refine (h w a cap h4 h1 h2 h3).mono ?_
    rintro e' w' ⟨v, rfl, ho, hb⟩
    exact ⟨v, β, rfl, Ext.of_below β hb, hH.below hb, VRep.owned hz hc ho (fun y hy b hm => by
      obtain ⟨j, hj, rfl⟩ := List.mem_iff_getElem.1 hy
      exact hH.lt (List.getElem?_eq_getElem hj) hm)⟩
end Go.Proofs.YtgebpndhnkkbgaaGreatDoor
namespace Go.Proofs.YtgebpndhnkkbgaaGreatDoor
set_option linter.unusedVariables false
set_option linter.unusedSimpArgs false
open Go.ChangeShapes Go.WideShapes Go.ChangeAt Go.RowKit
set_option linter.unusedVariables false
set_option linter.unusedSimpArgs false
set_option maxRecDepth 100000
theorem infoIC : (Tryz.prog.info? 3).map (fun i => (i.zero, i.size, i.bytes)) = some (some (.int .i64 0), 1, 8) := by kernel_rfl
set_option maxHeartbeats 1000000 in
theorem cloneI_any (a : Option Addr) (cap : Nat) (xs : List Int) (w : World) (hr : Reads encI 1 w a xs) (hl : xs.length ≤ 1000000) :
    Calls Tryz.prog 65 #[.slice a xs.length cap] w fun e w' => ∃ v, e = .returned v ∧ w'.ownsRow w.heap.size 3 1 v xs.length (xs.flatMap encI) ∧ Below w.heap.size w w' := by
  cases a with
  | none =>
    have hx : xs = [] := by
      cases xs with
      | nil => rfl
      | cons x xs => obtain ⟨b, off, h, _⟩ := hr 0 (by simp); cases h
    subst hx
    have hnil := Lib.run_eql_slice_nil (P := Tryz.prog) w 29 3 none 0 cap 0 0 U29
    have HP := Lib.hid (World.ownsRow_nil w w.heap.size 3 1)
    go_enter Tryz.func65, Tryz.ntmps65
    go_wp2_with fail
    go_ret
    exact ⟨_, rfl, HP.out, Below.refl _ _⟩
  | some ad =>
    obtain ⟨i0, hi, hz0, hz1, hz2⟩ := info_parts infoIC
    have hnil := Lib.run_eql_slice_nil (P := Tryz.prog) w 29 3 (some ad) xs.length cap 0 0 U29
    have HR := Lib.hid hr
    clear hr
    go_enter Tryz.func65, Tryz.ntmps65
    have hfl := HR.out.flat (by omega) encI_len
    have HFL := Lib.hid hfl
    clear hfl
    go_wp2_with (at_builtin; refine wpList_append_own _ rfl _ _ 29 rfl w.heap.size 3 i0 (.int .i64 0) 1 8 U29 hi hz0 hz1 hz2 rfl (by decide) _ _ _ rfl (World.ownsRow_made w #[] 0 (Nat.le_refl _) (by unfold maxLen; omega) rfl) ad xs.length cap (xs.flatMap encI) rfl ?c0 ?c1 ?c2 ?c3 ?c4 ?c5 ?_)
    case c0 => rw [flat_len encI 1 encI_len]
    case c1 =>
      intro j u hu
      obtain ⟨h1, h2⟩ := HFL.out j u hu
      have h3 : (ad.add j).block = ad.block := by unfold Addr.add; split <;> rfl
      rw [World.cell?_alloc_lt _ _ _ (by rw [h3]; exact h1)]
      exact h2
    case c2 =>
      intro u hu
      obtain ⟨x, _, hx⟩ := List.mem_flatMap.1 hu
      simp [encI] at hx
      subst hx; rfl
    case c3 => unfold maxLen; omega
    case c4 => omega
    case c5 => simp
    intro v' w2 hown' hgrow _
    have hbel : Below w.heap.size w w2 := ((Below.refl _ _).alloc (Nat.le_refl _) _).grown hgrow (by simp) (fun k hk => by simp [Value.ownBlock] at hk; omega)
    have HO := Lib.hid hown'
    clear hown' hgrow
    go_wp2_with fail
    go_ret
    exact ⟨_, rfl, HO.out, hbel⟩
theorem cloneI_fn (xs : List Int) (hl : xs.length ≤ 1000000) : FnP Tryz.prog 65 [.sl (xs.map (AV.int .i64))] (.sl (xs.map (AV.int .i64))) :=
  FnP.of_owns encI (AV.int .i64) 1 encI_len (fun _ => rfl) (fun x u hu => by simp [encI] at hu; subst hu; rfl) xs (fun w a cap hr h1 h2 h3 => cloneI_any a cap xs w hr hl)
end Go.Proofs.YtgebpndhnkkbgaaGreatDoor
namespace Go.Proofs.YtgebpndhnkkbgaaGreatDoor
set_option linter.unusedVariables false
set_option linter.unusedSimpArgs false
open Go.RowKit
open NumP
set_option maxRecDepth 100000
def aLn (s : Ln) : AV := .agg [.int .i64 s.item, .int .i64 s.qty]
def aCl (c : Cl) : AV := .agg [.int .i64 c.client, .int .i64 c.seq, .int .i64 c.kind, .int .i64 c.item, .int .i64 c.to_, .int .i64 c.qty, .sl (c.lines.map aLn)]
def aRp (r : Rp) : AV := .agg [.int .i64 r.code, .sl (r.nums.map (AV.int .i64))]
theorem okAt_not (l : List Ln) (k : Nat) : (!numbP (l.getD k default).item || decide ((l.getD k default).item ≤ lastAt l k) || !someP (l.getD k default).qty) = !okAt l k := by
  cases h : numbP (l.getD k default).item with
  | false => unfold okAt; rw [h]; rfl
  | true =>
    unfold okAt
    rw [okAt_iff l k h, h]
    by_cases h2 : lastAt l k < (l.getD k default).item
    · rw [decide_eq_true h2, decide_eq_false (by omega)]; simp
    rw [decide_eq_false h2, decide_eq_true (by omega)]; simp
theorem new_none (p : ByteArray) (e : Int) : (Er.new p e).isNone = decide (e = 0) := by unfold Er.new; split <;> simp_all [Er.isNone]
theorem wrap_none (p : ByteArray) (e : Er) : (Er.wrap p e).isNone = e.isNone := by unfold Er.wrap; split <;> simp_all [Er.isNone]
theorem any_neg (l : List Int) : (l.any fun n => decide (n < 0)) = !nneg l := by
  induction l with
  | nil => rfl
  | cons x l ih => simp only [List.any_cons, nneg, List.all_cons] at ih ⊢; rw [ih]; by_cases h : x < 0 <;> simp [h] <;> omega
theorem pair_snoc (l : List Int) (k : Nat) (h : 2 * k + 1 < l.length) : (pairsL (l.take (2 * k))).map aLn ++ [AV.agg [AV.int .i64 (l.getD (2 * k) default), AV.int .i64 (l.getD (2 * k + 1) default)]] = (pairsL (l.take (2 * (k + 1)))).map aLn := by rw [pairsL_take l k h]; simp [aLn]
theorem pairsL_len : ∀ l : List Int, (pairsL l).length ≤ l.length
  | [] => Nat.le_refl _
  | [_] => by simp [pairsL]
  | a :: b :: r => by have := pairsL_len r; simp [pairsL]; omega
theorem last_succ (l : List Ln) (k : Nat) : lastAt l (k + 1) = (l.getD k default).item := by simp [lastAt]
theorem okAt_nR (l : List Ln) (k : Nat) (a : Int) (ha : 0 < k → a = (l.getD (k - 1) default).item) : (!numbP (l.getD k default).item || decide ((l.getD k default).qty < 1) || decide (1000000 < (l.getD k default).qty) || (decide (0 < (k : Int)) && decide ((l.getD k default).item ≤ a))) = !okAt l k := by
  unfold okAt someP
  by_cases hk : 0 < k
  · rw [ha hk]
    cases h : numbP (l.getD k default).item <;> simp [show ¬ k = 0 by omega, hk] <;> by_cases h1 : (l.getD k default).qty < 1 <;> by_cases h2 : 1000000 < (l.getD k default).qty <;> by_cases h3 : (l.getD k default).item ≤ (l.getD (k - 1) default).item <;> simp_all <;> omega
  obtain rfl : k = 0 := by omega
  cases h : numbP (l.getD 0 default).item <;> simp <;> by_cases h1 : (l.getD 0 default).qty < 1 <;> by_cases h2 : 1000000 < (l.getD 0 default).qty <;> simp_all <;> omega
set_option maxHeartbeats 1000000 in
theorem number_fn (n : Int) : FnP Tryz.prog 66 [.int .i64 n] (.bool (numbP n)) := by
  refine FnP.of Tryz.func66 rfl rfl (by simp) (by simp [AV.cells, aIn, aOut, aLn, aCl, aRp]) (fun G hG => ?_)
  have hN : NoH G.length (.bool (numbP n)) := (by simp [AV.cells, aIn, aOut, aLn, aCl, aRp])
  refine sr fun _ => ?_
  refine mz ?_
  refine sr fun _ => ?_
  refine mv ?_
  refine ρ1 ?_
  refine mv ?_
  refine ρj ?_
  refine ρ6 ?_
  refine ρ0 ?_
  refine mz ?_
  refine AWP.ret ?_
  refine ρd ?_
  rfl
set_option maxHeartbeats 1000000 in
theorem some_fn (n : Int) : FnP Tryz.prog 102 [.int .i64 n] (.bool (someP n)) := by
  refine FnP.of Tryz.func102 rfl rfl (by simp) (by simp [AV.cells, aIn, aOut, aLn, aCl, aRp]) (fun G hG => ?_)
  have hN : NoH G.length (.bool (someP n)) := (by simp [AV.cells, aIn, aOut, aLn, aCl, aRp])
  refine sr fun _ => ?_
  refine mz ?_
  refine sr fun _ => ?_
  refine mv ?_
  refine ρ1 ?_
  refine mv ?_
  refine ρj ?_
  refine ρ6 ?_
  refine ρ0 ?_
  refine mz ?_
  refine AWP.ret ?_
  refine ρd ?_
  rfl
set_option maxHeartbeats 1000000 in
theorem lines_fn (l : List Ln) (hl : l.length ≤ 100000) : FnP Tryz.prog 103 [.sl (l.map aLn)] (.bool (linesP l)) := by
  refine FnP.of Tryz.func103 rfl rfl (by simp) (by simp [AV.cells, aIn, aOut, aLn, aCl, aRp]) (fun G hG => ?_)
  have hN : NoH G.length (.bool (linesP l)) := (by simp [AV.cells, aIn, aOut, aLn, aCl, aRp])
  refine sr fun _ => ?_
  refine mz ?_
  refine sr fun _ => ?_
  refine mz ?_
  refine AWP.seq ?_
  refine sr fun _ => ?_
  refine mv ?_
  refine ρw U23 ?_
  refine mv ?_
  refine ez ?_
  refine AWP.block ?_
  refine AWP.rounds (fun k => k ≤ l.length ∧ ∀ j, j < k → okAt l j = true) (fun k => [(0, .sl (l.map aLn)), (3, .int .i64 (lastAt l k)), (6, .sl (l.map aLn)), (7, .int .i64 ((l.map aLn).length : Int)), (8, .int .i64 (k : Int))]) (fun k => []) (fun k => l.length - k) 0 0 ⟨by omega, fun j h => by omega⟩ (by repeat (first | exact .nil | refine .cons rfl ?_)) rfl (fun _ => rfl) (fun _ => ⟨by simp [AV.cells, aLn], by simp⟩) (fun k hI => ?_)
  obtain ⟨hk, hno⟩ := hI
  refine sr fun _ => ?_
  refine ρ1 ?_
  refine ez ?_
  refine AWP.seq ?_
  refine ρn (fun h0 => ?_) (fun h0 => ?_)
  · try simp [-List.getD_eq_getElem?_getD] at h0
    refine AWP.skip (thenA_n ?_)
    refine AWP.seq (AWP.block ?_)
    refine sr fun _ => ?_
    first | refine ρh U23 sz108 ?_ | refine ρa U23 sz108 ?_
    refine ρq U108 sz108 ?_
    refine ρs (j := 0) zv108 ?_
    refine ρ2 sz108 ?_
    refine ez ?_
    refine AWP.seq ?_
    refine sr fun _ => ?_
    refine ρ7 (fo := 0) U108 sz3 ?_
    refine ρf U3 ?_
    refine ρl cf66 (fun hg => number_fn (l.getD k default).item) ?_
    refine ρA ?_
    refine mv ?_
    refine ρr (fo := 0) U108 sz3 ?_
    refine ρo U3 ?_
    refine ρj ?_
    refine ρv ?_
    refine ρ4 ?_
    refine mv ?_
    refine ρr (fo := 1) U108 sz3 ?_
    refine ρo U3 ?_
    refine ρm cf102 (fun hg => some_fn (l.getD k default).qty) ?_
    refine ARun.not rfl rfl rfl rfl (Ev.opt rfl (fun h => h)) optS ?_
    refine ρ4 ?_
    refine ez ?_
    refine ρn (fun h1 => ?_) (fun h1 => ?_)
    · rw [show (!numbP (l.getD k default).item || decide ((l.getD k default).item ≤ lastAt l k) || !someP (l.getD k default).qty) = !okAt l k from okAt_not l k] at h1
      simp only [Bool.not_eq_true'] at h1
      refine sr fun _ => ?_
      refine mz ?_
      refine AWP.ret (thenA_r ?_)
      refine blockA_r (thenA_r ?_)
      refine thenA_r (blockA_r (thenA_r ?_))
      refine ρd ?_
      rw [linesP_no (by omega) h1]; rfl
    rw [show (!numbP (l.getD k default).item || decide ((l.getD k default).item ≤ lastAt l k) || !someP (l.getD k default).qty) = !okAt l k from okAt_not l k] at h1
    simp only [Bool.not_eq_false'] at h1
    refine AWP.skip (thenA_n ?_)
    refine AWP.region (fun _ => ?_)
    refine ρ7 (fo := 0) U108 sz3 ?_
    refine ρf U3 ?_
    refine ma ?_
    refine ⟨_, _, rfl, hG, ?_⟩
    refine blockA_n (thenA_n ?_)
    refine AWP.region (fun _ => ?_)
    first | refine ρc ?_ | refine ρk ?_
    refine mv ?_
    refine ⟨_, _, rfl, hG, ?_⟩
    refine thenA_n ⟨rfl, k + 1, _, ?_, ?_, rfl, ?_⟩
    · refine ⟨by omega, fun j hj => ?_⟩
      by_cases e : j = k
      · subst e; exact h1
      exact hno j (by omega)
    · rw [last_succ]
      repeat (first | exact .nil | refine .cons rfl ?_)
    omega
  try simp [-List.getD_eq_getElem?_getD] at h0
  refine AWP.exit ?_
  refine thenA_x ?_
  refine thenA_x ?_
  refine blockA_h ?_
  refine thenA_n ?_
  refine sr fun _ => ?_
  refine mv ?_
  refine ρw U23 ?_
  refine ρ1 ?_
  refine mv ?_
  refine ρj ?_
  refine ARun.lenSl rfl rfl rfl rfl U23 (Ev.opt rfl (fun h => h)) optS ?_
  refine ρ6 ?_
  refine ρ0 ?_
  refine mz ?_
  refine AWP.ret ?_
  refine ρd ?_
  rw [linesP_yes (fun j hj => hno j (by omega))]; first | (simp; done) | (simp; congr 1; exact decide_eq_decide.2 (by omega))
set_option maxHeartbeats 1000000 in
theorem bare_fn (c : Cl) : FnP Tryz.prog 101 [aCl c] (.bool (bareP c)) := by
  refine FnP.of Tryz.func101 rfl rfl (by simp) (by simp [AV.cells, aIn, aOut, aLn, aCl, aRp]) (fun G hG => ?_)
  have hN : NoH G.length (.bool (bareP c)) := (by simp [AV.cells, aIn, aOut, aLn, aCl, aRp])
  refine sr fun _ => ?_
  refine ρy ?_
  refine mz ?_
  refine sr fun _ => ?_
  refine ρ5 U25 sz3 ?_
  refine ρb U3 ?_
  refine ρ1 ?_
  refine mv ?_
  refine ρ8 U25 sz23 ?_
  refine ρ3 U23 ?_
  refine ARun.lenSl rfl rfl rfl rfl U23 (Ev.opt rfl (fun h => h)) optS ?_
  refine ρ6 ?_
  refine ρ0 ?_
  refine mv ?_
  refine ρ8 U25 sz3 ?_
  refine ρ3 U3 ?_
  refine ρm cf66 (fun hg => number_fn c.item) ?_
  refine ρ0 ?_
  refine mz ?_
  refine AWP.ret ?_
  refine ρd ?_
  simp [bareP]
set_option maxHeartbeats 1000000 in
theorem may_fn (c : Cl) (hl : c.lines.length ≤ 100000) : FnP Tryz.prog 67 [aCl c] (.bool (mayP c)) := by
  refine FnP.of Tryz.func67 rfl rfl (by simp) (by simp [AV.cells, aIn, aOut, aLn, aCl, aRp]) (fun G hG => ?_)
  have hN : NoH G.length (.bool (mayP c)) := (by simp [AV.cells, aIn, aOut, aLn, aCl, aRp])
  refine sr fun _ => ?_
  refine ρy ?_
  refine mz ?_
  refine AWP.seq ?_
  refine sr fun _ => ?_
  refine ρ5 U25 sz3 ?_
  refine ρb U3 ?_
  refine ez ?_
  refine AWP.block ?_
  refine sr fun _ => ?_
  refine ρ1 ?_
  refine mz ?_
  refine ρn (fun h0 => ?_) (fun h0 => ?_)
  · simp at h0
    refine sr fun _ => ?_
    refine ρq U25 sz25 ?_
    refine ρl cf101 (fun hg => bare_fn c) ?_
    refine mv ?_
    refine ρ8 U25 sz3 ?_
    refine ρ3 U3 ?_
    refine ρ6 ?_
    refine ARun.move (.inl rfl) rfl rfl rfl (Ev.opt rfl (fun h => h)) optS ?_
    refine ρ8 U25 sz3 ?_
    refine ρ3 U3 ?_
    refine ρm cf102 (fun hg => some_fn c.qty) ?_
    refine ARun.pick rfl rfl rfl rfl (Ev.opt rfl (fun h => h)) (ep rfl) (Ev.opt rfl (by first | exact pkF | exact pkF2 | simp +contextual)) (orB _ _) optS ?_
    refine ρ0 ?_
    refine mz ?_
    refine AWP.ret (blockA_r (thenA_r ?_))
    refine ρd ?_
    (unfold mayP; simp_all)
  simp at h0
  refine AWP.seq ?_
  refine sr fun _ => ?_
  refine ρ1 ?_
  refine mz ?_
  refine ρn (fun h1 => ?_) (fun h1 => ?_)
  · simp at h1
    refine AWP.skip (thenA_n ?_)
    refine ρn (fun h2 => ?_) (fun h2 => ?_)
    · simp at h2
      refine sr fun _ => ?_
      refine ρq U25 sz25 ?_
      refine ρl cf101 (fun hg => bare_fn c) ?_
      refine mv ?_
      refine ρ8 U25 sz3 ?_
      refine ρ3 U3 ?_
      refine ρm cf102 (fun hg => some_fn c.qty) ?_
      refine ρ0 ?_
      refine mz ?_
      refine AWP.ret (blockA_r (thenA_r ?_))
      refine ρd ?_
      (unfold mayP; simp_all)
    simp at h2
    refine sr fun _ => ?_
    refine ρ1 ?_
    refine mz ?_
    refine ρn (fun h3 => ?_) (fun h3 => ?_)
    · simp at h3
      refine sr fun _ => ?_
      refine ρ5 U25 sz3 ?_
      refine ρb U3 ?_
      refine ρl cf66 (fun hg => number_fn c.item) ?_
      refine mv ?_
      refine ρ8 U25 sz3 ?_
      refine ρ3 U3 ?_
      refine ρm cf66 (fun hg => number_fn c.to_) ?_
      refine ρ0 ?_
      refine mv ?_
      refine ρ8 U25 sz3 ?_
      refine ρ3 U3 ?_
      refine ρ8 U25 sz3 ?_
      refine ρ3 U3 ?_
      refine ρv ?_
      refine ρ0 ?_
      refine mv ?_
      refine ρ8 U25 sz3 ?_
      refine ρ3 U3 ?_
      refine ρm cf102 (fun hg => some_fn c.qty) ?_
      refine ρ0 ?_
      refine mv ?_
      refine ρ8 U25 sz23 ?_
      refine ρ3 U23 ?_
      refine ARun.lenSl rfl rfl rfl rfl U23 (Ev.opt rfl (fun h => h)) optS ?_
      refine ρ6 ?_
      refine ρ0 ?_
      refine mz ?_
      refine AWP.ret (blockA_r (thenA_r ?_))
      refine ρd ?_
      (unfold mayP; simp_all)
    simp at h3
    refine sr fun _ => ?_
    refine ρ1 ?_
    refine mz ?_
    refine ρn (fun h4 => ?_) (fun h4 => ?_)
    · simp at h4
      refine sr fun _ => ?_
      refine ρq U25 sz25 ?_
      refine ρl cf101 (fun hg => bare_fn c) ?_
      refine mv ?_
      refine ρ8 U25 sz3 ?_
      refine ρ3 U3 ?_
      refine ρ6 ?_
      refine ρ0 ?_
      refine mz ?_
      refine AWP.ret (blockA_r (thenA_r ?_))
      refine ρd ?_
      (unfold mayP; simp_all)
    simp at h4
    refine AWP.skip (blockA_n (thenA_n ?_))
    refine sr fun _ => ?_
    refine ρ5 U25 sz3 ?_
    refine ρb U3 ?_
    refine ρ1 ?_
    refine mv ?_
    refine ρ8 U25 sz3 ?_
    refine ρ3 U3 ?_
    refine ρ6 ?_
    refine ρ0 ?_
    refine mv ?_
    refine ρ8 U25 sz3 ?_
    refine ρ3 U3 ?_
    refine ρ6 ?_
    refine ρ0 ?_
    refine mv ?_
    refine ρ8 U25 sz23 ?_
    refine ρ3 U23 ?_
    refine ρm cf103 (fun hg => lines_fn c.lines hl) ?_
    refine ρ0 ?_
    refine mz ?_
    refine AWP.ret ?_
    refine ρd ?_
    (unfold mayP; simp_all)
  simp at h1
  refine sr fun _ => ?_
  refine ρ1 ?_
  refine mz ?_
  refine ρn (fun h5 => ?_) (fun h5 => ?_)
  · simp at h5
    refine AWP.skip (thenA_n ?_)
    refine ρn (fun h6 => ?_) (fun h6 => ?_)
    · simp at h6
      refine sr fun _ => ?_
      refine ρq U25 sz25 ?_
      refine ρl cf101 (fun hg => bare_fn c) ?_
      refine mv ?_
      refine ρ8 U25 sz3 ?_
      refine ρ3 U3 ?_
      refine ρm cf102 (fun hg => some_fn c.qty) ?_
      refine ρ0 ?_
      refine mz ?_
      refine AWP.ret (blockA_r (thenA_r ?_))
      refine ρd ?_
      (unfold mayP; simp_all)
    simp at h6
    refine sr fun _ => ?_
    refine ρ1 ?_
    refine mz ?_
    refine ρn (fun h7 => ?_) (fun h7 => ?_)
    · simp at h7
      refine sr fun _ => ?_
      refine ρ5 U25 sz3 ?_
      refine ρb U3 ?_
      refine ρl cf66 (fun hg => number_fn c.item) ?_
      refine mv ?_
      refine ρ8 U25 sz3 ?_
      refine ρ3 U3 ?_
      refine ρm cf66 (fun hg => number_fn c.to_) ?_
      refine ρ0 ?_
      refine mv ?_
      refine ρ8 U25 sz3 ?_
      refine ρ3 U3 ?_
      refine ρ8 U25 sz3 ?_
      refine ρ3 U3 ?_
      refine ρv ?_
      refine ρ0 ?_
      refine mv ?_
      refine ρ8 U25 sz3 ?_
      refine ρ3 U3 ?_
      refine ρm cf102 (fun hg => some_fn c.qty) ?_
      refine ρ0 ?_
      refine mv ?_
      refine ρ8 U25 sz23 ?_
      refine ρ3 U23 ?_
      refine ARun.lenSl rfl rfl rfl rfl U23 (Ev.opt rfl (fun h => h)) optS ?_
      refine ρ6 ?_
      refine ρ0 ?_
      refine mz ?_
      refine AWP.ret (blockA_r (thenA_r ?_))
      refine ρd ?_
      (unfold mayP; simp_all)
    simp at h7
    refine sr fun _ => ?_
    refine ρ1 ?_
    refine mz ?_
    refine ρn (fun h8 => ?_) (fun h8 => ?_)
    · simp at h8
      refine sr fun _ => ?_
      refine ρq U25 sz25 ?_
      refine ρl cf101 (fun hg => bare_fn c) ?_
      refine mv ?_
      refine ρ8 U25 sz3 ?_
      refine ρ3 U3 ?_
      refine ρ6 ?_
      refine ρ0 ?_
      refine mz ?_
      refine AWP.ret (blockA_r (thenA_r ?_))
      refine ρd ?_
      (unfold mayP; simp_all)
    simp at h8
    refine AWP.skip (blockA_n (thenA_n ?_))
    refine sr fun _ => ?_
    refine ρ5 U25 sz3 ?_
    refine ρb U3 ?_
    refine ρ1 ?_
    refine mv ?_
    refine ρ8 U25 sz3 ?_
    refine ρ3 U3 ?_
    refine ρ6 ?_
    refine ρ0 ?_
    refine mv ?_
    refine ρ8 U25 sz3 ?_
    refine ρ3 U3 ?_
    refine ρ6 ?_
    refine ρ0 ?_
    refine mv ?_
    refine ρ8 U25 sz23 ?_
    refine ρ3 U23 ?_
    refine ρm cf103 (fun hg => lines_fn c.lines hl) ?_
    refine ρ0 ?_
    refine mz ?_
    refine AWP.ret ?_
    refine ρd ?_
    (unfold mayP; simp_all)
  simp at h5
  refine sr fun _ => ?_
  refine ρ1 ?_
  refine mz ?_
  refine ρn (fun h9 => ?_) (fun h9 => ?_)
  · simp at h9
    refine AWP.skip (thenA_n ?_)
    refine ρn (fun h10 => ?_) (fun h10 => ?_)
    · simp at h10
      refine sr fun _ => ?_
      refine ρq U25 sz25 ?_
      refine ρl cf101 (fun hg => bare_fn c) ?_
      refine mv ?_
      refine ρ8 U25 sz3 ?_
      refine ρ3 U3 ?_
      refine ρm cf102 (fun hg => some_fn c.qty) ?_
      refine ρ0 ?_
      refine mz ?_
      refine AWP.ret (blockA_r (thenA_r ?_))
      refine ρd ?_
      (unfold mayP; simp_all)
    simp at h10
    refine sr fun _ => ?_
    refine ρ1 ?_
    refine mz ?_
    refine ρn (fun h11 => ?_) (fun h11 => ?_)
    · simp at h11
      refine sr fun _ => ?_
      refine ρ5 U25 sz3 ?_
      refine ρb U3 ?_
      refine ρl cf66 (fun hg => number_fn c.item) ?_
      refine mv ?_
      refine ρ8 U25 sz3 ?_
      refine ρ3 U3 ?_
      refine ρm cf66 (fun hg => number_fn c.to_) ?_
      refine ρ0 ?_
      refine mv ?_
      refine ρ8 U25 sz3 ?_
      refine ρ3 U3 ?_
      refine ρ8 U25 sz3 ?_
      refine ρ3 U3 ?_
      refine ρv ?_
      refine ρ0 ?_
      refine mv ?_
      refine ρ8 U25 sz3 ?_
      refine ρ3 U3 ?_
      refine ρm cf102 (fun hg => some_fn c.qty) ?_
      refine ρ0 ?_
      refine mv ?_
      refine ρ8 U25 sz23 ?_
      refine ρ3 U23 ?_
      refine ARun.lenSl rfl rfl rfl rfl U23 (Ev.opt rfl (fun h => h)) optS ?_
      refine ρ6 ?_
      refine ρ0 ?_
      refine mz ?_
      refine AWP.ret (blockA_r (thenA_r ?_))
      refine ρd ?_
      (unfold mayP; simp_all)
    simp at h11
    refine sr fun _ => ?_
    refine ρ1 ?_
    refine mz ?_
    refine ρn (fun h12 => ?_) (fun h12 => ?_)
    · simp at h12
      refine sr fun _ => ?_
      refine ρq U25 sz25 ?_
      refine ρl cf101 (fun hg => bare_fn c) ?_
      refine mv ?_
      refine ρ8 U25 sz3 ?_
      refine ρ3 U3 ?_
      refine ρ6 ?_
      refine ρ0 ?_
      refine mz ?_
      refine AWP.ret (blockA_r (thenA_r ?_))
      refine ρd ?_
      (unfold mayP; simp_all)
    simp at h12
    refine AWP.skip (blockA_n (thenA_n ?_))
    refine sr fun _ => ?_
    refine ρ5 U25 sz3 ?_
    refine ρb U3 ?_
    refine ρ1 ?_
    refine mv ?_
    refine ρ8 U25 sz3 ?_
    refine ρ3 U3 ?_
    refine ρ6 ?_
    refine ρ0 ?_
    refine mv ?_
    refine ρ8 U25 sz3 ?_
    refine ρ3 U3 ?_
    refine ρ6 ?_
    refine ρ0 ?_
    refine mv ?_
    refine ρ8 U25 sz23 ?_
    refine ρ3 U23 ?_
    refine ρm cf103 (fun hg => lines_fn c.lines hl) ?_
    refine ρ0 ?_
    refine mz ?_
    refine AWP.ret ?_
    refine ρd ?_
    (unfold mayP; simp_all)
  simp at h9
  refine AWP.region (fun _ => ?_)
  refine ρ1 ?_
  refine mz ?_
  refine ρn (fun h13 => ?_) (fun h13 => ?_)
  · simp at h13
    refine sr fun _ => ?_
    refine ρq U25 sz25 ?_
    refine ρl cf101 (fun hg => bare_fn c) ?_
    refine mv ?_
    refine ρ8 U25 sz3 ?_
    refine ρ3 U3 ?_
    refine ρm cf102 (fun hg => some_fn c.qty) ?_
    refine ρ0 ?_
    refine mz ?_
    refine AWP.ret (blockA_r (thenA_r ?_))
    refine ρd ?_
    (unfold mayP; simp_all)
  simp at h13
  refine sr fun _ => ?_
  refine ρ1 ?_
  refine mz ?_
  refine ρn (fun h14 => ?_) (fun h14 => ?_)
  · simp at h14
    refine sr fun _ => ?_
    refine ρ5 U25 sz3 ?_
    refine ρb U3 ?_
    refine ρl cf66 (fun hg => number_fn c.item) ?_
    refine mv ?_
    refine ρ8 U25 sz3 ?_
    refine ρ3 U3 ?_
    refine ρm cf66 (fun hg => number_fn c.to_) ?_
    refine ρ0 ?_
    refine mv ?_
    refine ρ8 U25 sz3 ?_
    refine ρ3 U3 ?_
    refine ρ8 U25 sz3 ?_
    refine ρ3 U3 ?_
    refine ρv ?_
    refine ρ0 ?_
    refine mv ?_
    refine ρ8 U25 sz3 ?_
    refine ρ3 U3 ?_
    refine ρm cf102 (fun hg => some_fn c.qty) ?_
    refine ρ0 ?_
    refine mv ?_
    refine ρ8 U25 sz23 ?_
    refine ρ3 U23 ?_
    refine ARun.lenSl rfl rfl rfl rfl U23 (Ev.opt rfl (fun h => h)) optS ?_
    refine ρ6 ?_
    refine ρ0 ?_
    refine mz ?_
    refine AWP.ret (blockA_r (thenA_r ?_))
    refine ρd ?_
    (unfold mayP; simp_all)
  simp at h14
  refine sr fun _ => ?_
  refine ρ1 ?_
  refine mz ?_
  refine ρn (fun h15 => ?_) (fun h15 => ?_)
  · simp at h15
    refine sr fun _ => ?_
    refine ρq U25 sz25 ?_
    refine ρl cf101 (fun hg => bare_fn c) ?_
    refine mv ?_
    refine ρ8 U25 sz3 ?_
    refine ρ3 U3 ?_
    refine ρ6 ?_
    refine ρ0 ?_
    refine mz ?_
    refine AWP.ret (blockA_r (thenA_r ?_))
    refine ρd ?_
    (unfold mayP; simp_all)
  simp at h15
  refine AWP.skip (blockA_n (thenA_n ?_))
  refine sr fun _ => ?_
  refine ρ5 U25 sz3 ?_
  refine ρb U3 ?_
  refine ρ1 ?_
  refine mv ?_
  refine ρ8 U25 sz3 ?_
  refine ρ3 U3 ?_
  refine ρ6 ?_
  refine ρ0 ?_
  refine mv ?_
  refine ρ8 U25 sz3 ?_
  refine ρ3 U3 ?_
  refine ρ6 ?_
  refine ρ0 ?_
  refine mv ?_
  refine ρ8 U25 sz23 ?_
  refine ρ3 U23 ?_
  refine ρm cf103 (fun hg => lines_fn c.lines hl) ?_
  refine ρ0 ?_
  refine mz ?_
  refine AWP.ret ?_
  refine ρd ?_
  (unfold mayP; simp_all)
set_option maxHeartbeats 1000000 in
theorem check_fn (c : Cl) (hl : c.lines.length ≤ 100000) : FnP Tryz.prog 28 [aCl c] (aEr (Er.new tCall (checkP c))) := by
  refine FnP.of Tryz.func28 rfl rfl (by simp) (by simp [AV.cells, aIn, aOut, aLn, aCl, aRp]) (fun G hG => ?_)
  have hN : NoH G.length (aEr (Er.new tCall (checkP c))) := (by simp [AV.cells, aIn, aOut, aLn, aCl, aRp])
  refine sr fun _ => ?_
  refine ρy ?_
  refine mz ?_
  refine AWP.seq (AWP.block ?_)
  refine sr fun _ => ?_
  refine ρ5 U25 sz3 ?_
  refine ρb U3 ?_
  refine ρ1 ?_
  refine mv ?_
  refine ρ8 U25 sz3 ?_
  refine ρ3 U3 ?_
  refine ρ6 ?_
  refine ρ4 ?_
  refine mz ?_
  refine ρn (fun h0 => ?_) (fun h0 => ?_)
  · simp at h0
    refine sr fun _ => ?_
    refine ρg cf62 (fun hg => new_fn tCall 30) ?_
    refine mz ?_
    refine AWP.ret (blockA_r (thenA_r ?_))
    refine ρd ?_
    rw [checkP, if_pos (by omega)]
  simp at h0
  refine sr fun _ => ?_
  refine ρ5 U25 sz3 ?_
  refine ρb U3 ?_
  refine ρl cf66 (fun hg => number_fn c.client) ?_
  refine ρA ?_
  refine mv ?_
  refine ρ8 U25 sz3 ?_
  refine ρ3 U3 ?_
  refine ρm cf66 (fun hg => number_fn c.seq) ?_
  refine ARun.not rfl rfl rfl rfl (Ev.opt rfl (fun h => h)) optS ?_
  refine ρ4 ?_
  refine mv ?_
  refine ARun.loadPeA rfl rfl rfl rfl U25 rfl sz25 (ep rfl) rfl optS ?_
  refine ρm cf67 (fun hg => may_fn c hl) ?_
  refine ARun.not rfl rfl rfl rfl (Ev.opt rfl (fun h => h)) optS ?_
  refine ρ4 ?_
  refine mz ?_
  refine ρn (fun h1 => ?_) (fun h1 => ?_)
  · simp at h1
    refine sr fun _ => ?_
    refine ρg cf62 (fun hg => new_fn tCall 2) ?_
    refine mz ?_
    refine AWP.ret (blockA_r (thenA_r ?_))
    refine ρd ?_
    rw [checkP, if_neg (by omega), if_neg (by simp; intro q1 q2; rcases h1 with (h1 | h1) | h1 <;> simp_all)]
  simp at h1
  refine AWP.skip (blockA_n (thenA_n ?_))
  refine sr fun _ => ?_
  refine mz ?_
  refine AWP.ret ?_
  refine ρd ?_
  rw [checkP, if_neg (by omega), if_pos (by simp [h1])]; rfl
theorem rp_ext {c d : Rp} {b : Bool} (h : (decide (c.code = d.code) && decide (c.nums = d.nums)) = b) : decide (c = d) = b := by
  rw [← h]
  obtain ⟨a1, a2⟩ := c
  obtain ⟨b1, b2⟩ := d
  rw [← Bool.decide_and]
  refine decide_eq_decide.2 ⟨fun e => ?_, fun e => ?_⟩
  · injection e with e1 e2; exact ⟨e1, e2⟩
  obtain ⟨e1, e2⟩ := e; dsimp only at *; subst e1 e2; rfl
set_option maxHeartbeats 1000000 in
theorem sameI_fn (a b : List Int) (hl : a.length ≤ 9223372036854775807) : FnP Tryz.prog 41 [.sl (a.map (AV.int .i64)), .sl (b.map (AV.int .i64))] (.bool (decide (a = b))) := by
  refine FnP.of Tryz.func41 rfl rfl (by simp) (by simp [AV.cells, aIn, aOut, aLn, aCl, aRp]) (fun G hG => ?_)
  have hN : NoH G.length (.bool (decide (a = b))) := (by simp [AV.cells, aIn, aOut, aLn, aCl, aRp])
  refine sr fun _ => ?_
  refine mz ?_
  refine AWP.seq ?_
  refine sr fun _ => ?_
  refine mv ?_
  refine ρw U29 ?_
  refine mv ?_
  refine ρw U29 ?_
  refine ρ1 ?_
  refine ez ?_
  refine ρn (fun h0 => ?_) (fun h0 => ?_)
  · simp [-List.getD_eq_getElem?_getD] at h0
    refine sr fun _ => ?_
    refine mz ?_
    refine AWP.ret (thenA_r ?_)
    refine ρd ?_
    rw [decide_eq_false (fun e => absurd (congrArg List.length e) (by omega))]; rfl
  simp [-List.getD_eq_getElem?_getD] at h0
  refine AWP.skip (thenA_n (AWP.seq ?_))
  refine sr fun _ => ?_
  refine mz ?_
  refine AWP.block ?_
  refine AWP.rounds (fun k => k ≤ a.length ∧ a.take k = b.take k) (fun k => [(0, .sl (a.map (AV.int .i64))), (1, .sl (b.map (AV.int .i64))), (5, .int .i64 (k : Int))]) (fun k => []) (fun k => a.length - k) 0 0 ⟨by omega, rfl⟩ (by repeat (first | exact .nil | refine .cons rfl ?_)) rfl (fun _ => rfl) (fun _ => ⟨by simp [AV.cells], by simp⟩) (fun k hI => ?_)
  obtain ⟨hk, hs⟩ := hI
  refine AWP.seq ?_
  refine sr fun _ => ?_
  refine mv ?_
  refine mv ?_
  refine ρw U29 ?_
  refine ρ1 ?_
  refine ez ?_
  refine ρn (fun h1 => ?_) (fun h1 => ?_)
  · simp [-List.getD_eq_getElem?_getD] at h1
    refine AWP.skip (thenA_n ?_)
    refine AWP.seq (AWP.block (AWP.seq ?_))
    refine AWP.draw mixed (by kernel_rfl) (fun _ => ?_)
    refine mv ?_
    refine mv ?_
    first | refine ρh U29 sz3 ?_ | refine ρa U29 sz3 ?_
    refine ρb U3 ?_
    refine mv ?_
    refine mv ?_
    first | refine ρh U29 sz3 ?_ | refine ρa U29 sz3 ?_
    refine ρb U3 ?_
    refine ρ1 ?_
    refine ⟨by kernel_rfl, _, _, rfl, hG, ?_⟩
    refine thenA_n ?_
    refine ρn (fun h2 => ?_) (fun h2 => ?_)
    · simp [-List.getD_eq_getElem?_getD] at h2
      refine sr fun _ => ?_
      refine mz ?_
      refine AWP.ret (blockA_r ?_)
      refine thenA_r (thenA_r ?_)
      refine blockA_r (thenA_r ?_)
      refine ρd ?_
      rw [decide_eq_false (ne_of_get (k := k) h2)]; rfl
    simp [-List.getD_eq_getElem?_getD] at h2
    refine AWP.skip (blockA_n (thenA_n ?_))
    refine AWP.region (fun _ => ?_)
    refine mv ?_
    first | refine ρc ?_ | refine ρk ?_
    refine ma ?_
    refine ⟨_, _, rfl, hG, ?_⟩
    refine thenA_n ⟨rfl, k + 1, _, ?_, ?_, rfl, ?_⟩
    · exact ⟨by omega, take_eq_go hs h1 (by omega) h2⟩
    · repeat (first | exact .nil | refine .cons rfl ?_)
    omega
  simp [-List.getD_eq_getElem?_getD] at h1
  refine AWP.exit ?_
  refine thenA_x ?_
  refine thenA_x ?_
  refine blockA_h ?_
  refine thenA_n ?_
  refine sr fun _ => ?_
  refine mz ?_
  refine AWP.ret ?_
  refine ρd ?_
  rw [decide_eq_true (by rw [List.take_of_length_le h1, List.take_of_length_le (by omega)] at hs; exact hs)]; rfl
set_option maxHeartbeats 1000000 in
theorem told_fn (e : Int) (l : List Int) (hl : l.length ≤ 100000) : FnP Tryz.prog 27 [.int .i64 e, .sl (l.map (AV.int .i64))] (aRp ⟨e, l⟩) := by
  refine FnP.of Tryz.func27 rfl rfl (by simp) (by simp [AV.cells, aIn, aOut, aLn, aCl, aRp]) (fun G hG => ?_)
  have hN : NoH G.length (aRp ⟨e, l⟩) := (by simp [AV.cells, aIn, aOut, aLn, aCl, aRp])
  refine sr fun _ => ?_
  refine ρs (j := 0) zv31 ?_
  refine ez ?_
  refine sr fun _ => ?_
  refine mv ?_
  refine mv ?_
  refine ARun.call rfl rfl rfl rfl cf65 (ep rfl) (.cons (ep rfl) .nil) rfl (fun hg => cloneI_fn l (by omega)) optN ?_
  refine ARun.build rfl rfl rfl rfl so31 (.cons (ep rfl) (.cons (ep rfl) .nil)) rfl rfl optN ?_
  refine ρ2 sz31 ?_
  refine ez ?_
  refine AWP.ret ?_
  refine endF.one (.inr rfl) rfl (.cellA rfl ((hG.at _ _).trans rfl) U31 rfl sz31 rfl rfl) ?_ hN
  rfl
set_option maxHeartbeats 1000000 in
theorem neg_fn (n : Int) : FnP Tryz.prog 114 [.int .i64 n] (.bool (decide (n < 0))) := by
  refine FnP.of Tryz.func114 rfl rfl (by simp) (by simp [AV.cells, aIn, aOut, aLn, aCl, aRp]) (fun G hG => ?_)
  have hN : NoH G.length (.bool (decide (n < 0))) := (by simp [AV.cells, aIn, aOut, aLn, aCl, aRp])
  refine sr fun _ => ?_
  refine mz ?_
  refine sr fun _ => ?_
  refine mv ?_
  refine ρ1 ?_
  refine mz ?_
  refine AWP.ret ?_
  refine ρd ?_
  rfl
set_option maxHeartbeats 1000000 in
theorem indexI (F : Nat) (fs cs : List AV) (p : Int → Bool) (l : List Int) (hl : l.length ≤ 9223372036854775807) (hcf : ∀ (vs : Array Value) (W : World), (callFunc F vs).run Tryz.prog W = .ok (.enter F vs) W) (hn : (∀ x, x ∈ fs → NoH 0 x) ∧ ∀ x, x ∈ cs → NoH 0 x) (hp : ∀ x, x ∈ l → FnP Tryz.prog F (fs ++ [(AV.int .i64) x] ++ cs) (.bool (p x))) : FnP Tryz.prog 144 [.sl (l.map (AV.int .i64)), .fn (.func F) fs cs] (.int .i64 (idxOf p l)) := by
  refine FnP.of Tryz.func144 rfl rfl (by simp) (by simp [AV.cells, aIn, aOut, aLn, aCl, aRp]) (fun G hG => ?_)
  have hN : NoH G.length (.int .i64 (idxOf p l)) := (by simp [AV.cells, aIn, aOut, aLn, aCl, aRp])
  refine sr fun _ => ?_
  refine mz ?_
  refine AWP.seq ?_
  refine sr fun _ => ?_
  refine mv ?_
  refine ρw U29 ?_
  refine mv ?_
  refine ez ?_
  refine AWP.block ?_
  refine AWP.rounds (fun k => k ≤ l.length ∧ ∀ j, j < k → p (l.getD j default) = false) (fun k => [(0, .sl (l.map (AV.int .i64))), (1, .fn (.func F) fs cs), (7, .int .i64 ((l.map (AV.int .i64)).length : Int)), (8, .int .i64 (k : Int))]) (fun k => []) (fun k => l.length - k) 0 0 ⟨by omega, fun j h => by omega⟩ (by repeat (first | exact .nil | refine .cons rfl ?_)) rfl (fun _ => rfl) (fun _ => ⟨by simp [AV.cells, aIn, aOut, aLn, aCl, aRp]; exact ⟨fun x hx => (hn.1 x hx).mono (by omega), fun x hx => (hn.2 x hx).mono (by omega)⟩, by simp⟩) (fun k hI => ?_)
  obtain ⟨hk, hno⟩ := hI
  refine sr fun _ => ?_
  refine ρ1 ?_
  refine ez ?_
  refine AWP.seq ?_
  refine ρn (fun h0 => ?_) (fun h0 => ?_)
  · try simp [-List.getD_eq_getElem?_getD] at h0
    refine AWP.skip (thenA_n ?_)
    refine AWP.seq (AWP.block ?_)
    refine sr fun _ => ?_
    refine mv ?_
    refine mz ?_
    refine sr fun _ => ?_
    refine mv ?_
    refine mv ?_
    refine mv ?_
    first | refine ρh U29 sz3 ?_ | refine ρa U29 sz3 ?_
    refine ρb U3 ?_
    refine ARun.call rfl rfl rfl rfl hcf (ep rfl) (.cons (ep rfl) .nil) rfl (fun hg => hp _ (by rw [List.getD, List.getElem?_eq_getElem h0]; exact List.getElem_mem h0)) optN ?_
    refine ez ?_
    refine ρn (fun h1 => ?_) (fun h1 => ?_)
    · try simp [-List.getD_eq_getElem?_getD] at h1
      refine sr fun _ => ?_
      refine mv ?_
      refine mz ?_
      refine AWP.ret (blockA_r ?_)
      refine thenA_r (thenA_r ?_)
      refine blockA_r (thenA_r ?_)
      refine ρd ?_
      rw [idx_hit h0 hno h1]
    try simp [-List.getD_eq_getElem?_getD] at h1
    refine AWP.skip (blockA_n (thenA_n ?_))
    refine AWP.region (fun _ => ?_)
    first | refine ρc ?_ | refine ρk ?_
    refine mv ?_
    refine ⟨_, _, rfl, hG, ?_⟩
    refine thenA_n ⟨rfl, k + 1, _, ?_, ?_, rfl, ?_⟩
    · refine ⟨by omega, fun j hj => ?_⟩
      by_cases e : j = k
      · subst e; exact h1
      exact hno j (by omega)
    · repeat (first | exact .nil | refine .cons rfl ?_)
    omega
  try simp [-List.getD_eq_getElem?_getD] at h0
  refine AWP.exit ?_
  refine thenA_x ?_
  refine thenA_x ?_
  refine blockA_h ?_
  refine thenA_n ?_
  refine sr fun _ => ?_
  refine mz ?_
  refine AWP.ret ?_
  refine ρd ?_
  rw [idx_none (fun j hj => hno j (by omega))]; rfl
set_option maxHeartbeats 1000000 in
theorem containsI (F : Nat) (fs cs : List AV) (p : Int → Bool) (l : List Int) (hl : l.length ≤ 9223372036854775807) (hcf : ∀ (vs : Array Value) (W : World), (callFunc F vs).run Tryz.prog W = .ok (.enter F vs) W) (hn : (∀ x, x ∈ fs → NoH 0 x) ∧ ∀ x, x ∈ cs → NoH 0 x) (hp : ∀ x, x ∈ l → FnP Tryz.prog F (fs ++ [(AV.int .i64) x] ++ cs) (.bool (p x))) : FnP Tryz.prog 115 [.sl (l.map (AV.int .i64)), .fn (.func F) fs cs] (.bool (l.any p)) := by
  refine FnP.of Tryz.func115 rfl rfl (by simp) (by simp [AV.cells, aIn, aOut, aLn, aCl, aRp]) (fun G hG => ?_)
  have hN : NoH G.length (.bool (l.any p)) := (by simp [AV.cells, aIn, aOut, aLn, aCl, aRp])
  refine sr fun _ => ?_
  refine mz ?_
  refine sr fun _ => ?_
  refine mv ?_
  refine mv ?_
  refine ρg cf144 (fun hg => indexI F fs cs p l hl hcf hn hp) ?_
  refine ρ1 ?_
  refine mz ?_
  refine AWP.ret ?_
  refine ρd ?_
  rw [← any_idx]
set_option maxHeartbeats 1000000 in
theorem putR_c (c : Rp) (hl : c.nums.length ≤ 100000) (hf : ∀ x, x ∈ c.nums → -9223372036854775808 ≤ x ∧ x ≤ 9223372036854775807) : FnP Tryz.prog 80 [aRp c] (.tup [.str (putR c), aEr (Er.new tReply (repE c))]) := by
  refine FnP.of Tryz.func80 rfl rfl (by simp) (by simp [AV.cells, aIn, aOut, aLn, aCl, aRp]) (fun G hG => ?_)
  have hN : NoH G.length (.tup [.str (putR c), aEr (Er.new tReply (repE c))]) := (by simp [AV.cells, aIn, aOut, aLn, aCl, aRp])
  refine sr fun _ => ?_
  refine ρy ?_
  refine ma ?_
  refine mz ?_
  refine sr fun _ => ?_
  refine mz ?_
  refine AWP.seq ?_
  refine sr fun _ => ?_
  refine ρ5 U31 sz28 ?_
  refine ρb U28 ?_
  refine ρ1 ?_
  refine mv ?_
  refine ρ8 U31 sz28 ?_
  refine ρ3 U28 ?_
  refine ρ6 ?_
  refine ρ4 ?_
  refine mv ?_
  refine ρ8 U31 sz29 ?_
  refine ρ3 U29 ?_
  refine ARun.lenSl rfl rfl rfl rfl U29 (Ev.opt rfl (fun h => h)) optS ?_
  refine ρ6 ?_
  refine ρ4 ?_
  refine mv ?_
  refine ρ8 U31 sz29 ?_
  refine ρ3 U29 ?_
  refine ρj ?_
  refine ARun.call rfl rfl rfl rfl cf115 (ep rfl) (.cons (Ev.opt rfl (fun h => h)) (.cons (Ev.opt rfl (fun h => h)) .nil)) rfl (fun hg => containsI 114 [] [] (fun n => decide (n < 0)) c.nums (by omega) cf114 (by simp) (fun x _ => neg_fn x)) optS ?_
  refine ρ4 ?_
  refine ez ?_
  refine ρn (fun h0 => ?_) (fun h0 => ?_)
  · rw [any_neg] at h0
    simp at h0
    refine sr fun _ => ?_
    refine ρg cf62 (fun hg => new_fn tReply 2) ?_
    refine ma ?_
    refine mz ?_
    refine AWP.ret (thenA_r ?_)
    refine ρe (rs := [.tmp 2, .tmp 3]) (.cons (.tmp rfl) (.cons (.tmp rfl) .nil)) ?_
    have he : repE c = 2 := by rw [repE, if_pos (by rcases h0 with ((h0 | h0) | h0) | h0 <;> first | exact .inr (.inr (.inr h0)) | omega)]
    rw [putR, if_neg (by omega), he]; rfl
  rw [any_neg] at h0
  simp at h0
  have he : repE c = 0 := by rw [repE, if_neg (by simp [h0]; omega)]
  have hlay := layR_ok he
  have hwl := wrNums_len [c.code] WrS.new
  have hwl3 : WrS.new.s.length = 0 := rfl
  simp only [List.length_cons, List.length_nil] at hwl
  refine AWP.skip (thenA_n ?_)
  refine sr fun _ => ?_
  refine ARun.allocBld (j := 0) (e := 5) hG rfl rfl rfl rfl rfl zv172 rfl rfl rfl optN ?_
  refine ez ?_
  refine sr fun _ => ?_
  refine ρ5 U31 sz28 ?_
  refine ρb U28 ?_
  refine ARun.buildSl rfl rfl rfl rfl U29 sz3 zv3 rfl (by decide) (.cons (ep rfl) .nil) rfl rfl rfl rfl (by decide) rfl rfl optN ?_
  refine ARun.callSet (j := 0) hG rfl rfl rfl rfl cf116 (ep rfl) (.cons (ep rfl) (.cons (ep rfl) .nil)) rfl (nums_w WrS.new [c.code] (by simp) (by simp [WrS.new]) (fit_one (by omega)) _ _ ((hG.at _ _).trans rfl)) rfl optN ?_
  refine ez ?_
  refine sr fun _ => ?_
  refine ρ5 U31 sz29 ?_
  refine ρb U29 ?_
  refine ARun.callSet (j := 0) hG rfl rfl rfl rfl cf117 (ep rfl) (.cons (ep rfl) (.cons (ep rfl) .nil)) rfl (row_w (wrNums WrS.new [c.code]) c.nums (by omega) (by omega) hf _ _ ((hG.at _ _).trans rfl)) rfl optN ?_
  refine ez ?_
  refine sr fun _ => ?_
  refine ARun.callSet (j := 0) hG rfl rfl rfl rfl cf118 (ep rfl) (.cons (ep rfl) .nil) rfl (done_w (layR c) _ _ ((hG.at _ _).trans rfl)) rfl optN ?_
  refine ρ9 ?_
  refine ρ9 ?_
  refine ma ?_
  refine mz ?_
  refine AWP.ret ?_
  refine ρe (rs := [.tmp 2, .tmp 3]) (.cons (.tmp rfl) (.cons (.tmp rfl) .nil)) ?_
  rw [putR, if_pos he, hlay, he]; rfl
set_option maxHeartbeats 1000000 in
theorem take_c (s : ByteArray) (hs : s.size ≤ 1000000) : FnP Tryz.prog 23 [.str s] (.tup [aCl (takeC s), aEr (takeErr s)]) := by
  have hrl := rdRow_len (sixR s 6) 10
  refine FnP.of Tryz.func23 rfl rfl (by simp) (by simp [AV.cells, aIn, aOut, aLn, aCl, aRp]) (fun G hG => ?_)
  have hN : NoH G.length (.tup [aCl (takeC s), aEr (takeErr s)]) := (by simp [AV.cells, aIn, aOut, aLn, aCl, aRp])
  refine sr fun _ => ?_
  refine ρs (j := 0) zv25 ?_
  refine mz ?_
  refine sr fun _ => ?_
  refine mv ?_
  refine ARun.callNewB (j := 1) hG rfl rfl rfl rfl rfl cf56 (ep rfl) (.cons (ep rfl) .nil) rfl (newr_fn s) optN ?_
  refine mz ?_
  refine sr fun _ => ?_
  refine mv ?_
  refine ARun.makeFunc rfl rfl rfl rfl (.cons (ep rfl) .nil) .nil optN ?_
  refine mz ?_
  refine sr fun _ => ?_
  refine mv ?_
  refine ARun.callSet (j := 1) hG rfl rfl rfl rfl cf57 (ep rfl) (.cons (ep rfl) .nil) rfl (num_r (sixR s 0) 2000000 (sixR_ok hs 0) _ _ ((hG.at _ _).trans rfl)) rfl optN ?_
  refine mv ?_
  refine ARun.callSet (j := 1) hG rfl rfl rfl rfl cf57 (ep rfl) (.cons (ep rfl) .nil) rfl (num_r (sixR s 1) 2000000 (sixR_ok hs 1) _ _ ((hG.at _ _).trans rfl)) rfl optN ?_
  refine mv ?_
  refine ARun.callSet (j := 1) hG rfl rfl rfl rfl cf57 (ep rfl) (.cons (ep rfl) .nil) rfl (num_r (sixR s 2) 2000000 (sixR_ok hs 2) _ _ ((hG.at _ _).trans rfl)) rfl optN ?_
  refine mv ?_
  refine ARun.callSet (j := 1) hG rfl rfl rfl rfl cf57 (ep rfl) (.cons (ep rfl) .nil) rfl (num_r (sixR s 3) 2000000 (sixR_ok hs 3) _ _ ((hG.at _ _).trans rfl)) rfl optN ?_
  refine mv ?_
  refine ARun.callSet (j := 1) hG rfl rfl rfl rfl cf57 (ep rfl) (.cons (ep rfl) .nil) rfl (num_r (sixR s 4) 2000000 (sixR_ok hs 4) _ _ ((hG.at _ _).trans rfl)) rfl optN ?_
  refine mv ?_
  refine ARun.callSet (j := 1) hG rfl rfl rfl rfl cf57 (ep rfl) (.cons (ep rfl) .nil) rfl (num_r (sixR s 5) 2000000 (sixR_ok hs 5) _ _ ((hG.at _ _).trans rfl)) rfl optN ?_
  refine ARun.buildNil (e := 108) (z := 2) (j := 2) (p := 6) hG rfl rfl rfl rfl rfl so25 rfl (.cons (ep rfl) (.cons (ep rfl) (.cons (ep rfl) (.cons (ep rfl) (.cons (ep rfl) (.cons (ep rfl) .nil)))))) rfl rfl optN ?_
  refine ρs (j := 3) zv25 ?_
  refine ρ2 sz25 ?_
  refine ez ?_
  refine sr fun _ => ?_
  refine mv ?_
  refine ARun.callSet (j := 1) hG rfl rfl rfl rfl cf58 (ep rfl) (.cons (ep rfl) (.cons (ep rfl) .nil)) rfl (row_r (sixR s 6) 10 (sixR_ok hs 6) _ _ ((hG.at _ _).trans rfl)) rfl optN ?_
  refine mz ?_
  refine sr fun _ => ?_
  refine mv ?_
  refine ARun.callSet (j := 1) hG rfl rfl rfl rfl cf59 (ep rfl) (.cons (ep rfl) .nil) rfl (end_r (rdRow (sixR s 6) 10).1 (rdRow_ok (sixR_ok hs 6) _) _ _ ((hG.at _ _).trans rfl)) rfl optN ?_
  refine ez ?_
  refine AWP.seq ?_
  refine sr fun _ => ?_
  refine mv ?_
  refine ARun.callR rfl rfl rfl rfl cf60 (ep rfl) (.cons (ep rfl) .nil) rfl (fun hg => FnM.keep (rdone_fn (rdCall s).1) ((hG.at _ _).trans rfl)) optN ?_
  refine mz ?_
  refine sr fun _ => ?_
  refine mv ?_
  refine ARun.isNil rfl rfl rfl rfl U53 (ep rfl) (fun hg => by first | rfl | exact nilA_aEr _) (.inr ⟨rfl, rfl⟩) optN ?_
  refine ez ?_
  refine ρn (fun h0 => ?_) (fun h0 => ?_)
  · have he : (rdCall s).1.e ≠ 0 := by simpa [errOf_none] using h0
    refine sr fun _ => ?_
    refine ARun.build rfl rfl rfl rfl so25 .nil rfl rfl optN ?_
    refine mv ?_
    refine ρg cf61 (fun hg => wrap_fn tTake (errOf tRead (rdCall s).1.p (rdCall s).1.e)) ?_
    refine ρ2 sz25 ?_
    refine mz ?_
    refine AWP.ret (thenA_r ?_)
    refine ρe (rs := [.cell 2 25, .tmp 3]) (.cons (.cellA rfl ((hG.at _ _).trans rfl) U25 rfl sz25 rfl rfl) (.cons (.tmp rfl) .nil)) ?_
    have ht : takeE s ≠ 0 := by rw [takeE, if_pos he]; exact he
    rw [takeC, if_neg ht, takeErr, if_pos he]; rfl
  have he : (rdCall s).1.e = 0 := by simpa [errOf_none] using h0
  refine AWP.skip (thenA_n (AWP.seq ?_))
  refine sr fun _ => ?_
  refine mv ?_
  refine ρw U29 ?_
  refine ARun.remI rfl rfl rfl rfl (ep rfl) (ep rfl) (fun _ => by decide) optN ?_
  refine ρ1 ?_
  refine ez ?_
  refine ρn (fun h1 => ?_) (fun h1 => ?_)
  · simp at h1
    have h1p : (((rdRow (sixR s 6) 10).2.length % 2 : Nat) : Int) ≠ 0 := h1
    refine sr fun _ => ?_
    refine ARun.build rfl rfl rfl rfl so25 .nil rfl rfl optN ?_
    refine ρg cf62 (fun hg => new_fn tTake 5) ?_
    refine ρ2 sz25 ?_
    refine mz ?_
    refine AWP.ret (thenA_r ?_)
    refine ρe (rs := [.cell 2 25, .tmp 3]) (.cons (.cellA rfl ((hG.at _ _).trans rfl) U25 rfl sz25 rfl rfl) (.cons (.tmp rfl) .nil)) ?_
    have h1q : (rdCall s).2.2.length % 2 = 1 := by show (rdRow (sixR s 6) 10).2.length % 2 = 1; omega
    have ht : takeE s ≠ 0 := by rw [takeE, if_neg (by omega), if_pos h1q]; decide
    rw [takeC, if_neg ht, takeErr, if_neg (by omega), if_pos h1q]; rfl
  simp at h1
  have h1p : (((rdRow (sixR s 6) 10).2.length % 2 : Nat) : Int) = 0 := h1
  refine AWP.skip (thenA_n (AWP.seq ?_))
  refine sr fun _ => ?_
  refine mz ?_
  refine AWP.block ?_
  refine AWP.rounds (fun st => 2 * st.1 ≤ (rdRow (sixR s 6) 10).2.length) (fun st => [(2, .box (G.length + 0) 0), (6, .box (G.length + 3) 0), (7, .sl ((rdRow (sixR s 6) 10).2.map (AV.int .i64))), (9, .int .i64 ((2 * st.1 : Nat) : Int))]) (fun st => [.box [.int .i64 0, .int .i64 0, .int .i64 0, .int .i64 0, .int .i64 0, .int .i64 0, .sl []], .box (aRd (rdCall s).1), .row st.2 108 2 ((pairsL ((rdRow (sixR s 6) 10).2.take (2 * st.1))).map aLn), .box [.int .i64 (sixN s 0), .int .i64 (sixN s 1), .int .i64 (sixN s 2), .int .i64 (sixN s 3), .int .i64 (sixN s 4), .int .i64 (sixN s 5), .own (G.length + 2) st.2]]) (fun st => (rdRow (sixR s 6) 10).2.length - 2 * st.1) 4 ((0, 0) : Nat × Nat) (Nat.zero_le _) (by repeat (first | exact .nil | refine .cons rfl ?_)) rfl (fun _ => rfl) (fun _ => ⟨by simp [AV.cells], by simp [AO.conts, aRd, aLn, AV.cells]; rintro y a _ (rfl | rfl) <;> simp⟩) (fun st hI => ?_)
  obtain ⟨k, g⟩ := st
  dsimp only at hI
  show AWP _ _ _ _ _ [(2, .box (G.length + 0) 0), (6, .box (G.length + 3) 0), (7, .sl ((rdRow (sixR s 6) 10).2.map (AV.int .i64))), (9, .int .i64 ((2 * k : Nat) : Int))] _ [.box [.int .i64 0, .int .i64 0, .int .i64 0, .int .i64 0, .int .i64 0, .int .i64 0, .sl []], .box (aRd (rdCall s).1), .row g 108 2 ((pairsL ((rdRow (sixR s 6) 10).2.take (2 * k))).map aLn), .box [.int .i64 (sixN s 0), .int .i64 (sixN s 1), .int .i64 (sixN s 2), .int .i64 (sixN s 3), .int .i64 (sixN s 4), .int .i64 (sixN s 5), .own (G.length + 2) g]]
  refine AWP.seq ?_
  refine sr fun _ => ?_
  refine mv ?_
  refine mv ?_
  refine ρw U29 ?_
  refine ρ1 ?_
  refine ez ?_
  refine ρn (fun h2 => ?_) (fun h2 => ?_)
  · try simp [-List.getD_eq_getElem?_getD] at h2
    refine AWP.skip (thenA_n ?_)
    refine AWP.seq (AWP.block ?_)
    refine AWP.draw mixed (by kernel_rfl) (fun _ => ?_)
    refine ρ7 (fo := 6) U25 sz23 ?_
    refine ρf U23 ?_
    refine mv ?_
    refine mv ?_
    first | refine ρh U29 sz3 ?_ | refine ρa U29 sz3 ?_
    refine ρb U3 ?_
    refine mv ?_
    refine mv ?_
    first | refine ρc ?_ | refine ρk ?_
    first | refine ρh U29 sz3 ?_ | refine ρa U29 sz3 ?_
    refine ρb U3 ?_
    refine ARun.build rfl rfl rfl rfl so108 (.cons (ep rfl) (.cons (ep rfl) .nil)) rfl rfl optN ?_
    refine ARun.buildSl rfl rfl rfl rfl U23 sz108 zv108 rfl (by decide) (.cons (ep rfl) .nil) rfl rfl rfl rfl (by decide) rfl rfl optN ?_
    refine ARun.appendL hG rfl rfl rfl rfl U23 ti108 rfl (by decide) (ep rfl) (ep rfl) rfl rfl (by have := pairsL_len (((rdRow (sixR s 6) 10).2).take (2 * k)); simp only [List.length_take] at this; simp [maxLen]; omega) (by have := pairsL_len (((rdRow (sixR s 6) 10).2).take (2 * k)); simp only [List.length_take] at this; simp; omega) (pair_snoc (rdRow (sixR s 6) 10).2 k (by omega)) optN rfl ?_
    refine ρ7 (fo := 6) U25 sz23 ?_
    refine ρu sz23 ?_
    refine ⟨by kernel_rfl, _, _, rfl, hG, ?_⟩
    refine blockA_n (thenA_n ?_)
    refine AWP.region (fun _ => ?_)
    refine mv ?_
    first | refine ρc ?_ | refine ρk ?_
    refine ma ?_
    refine ⟨_, _, rfl, hG, ?_⟩
    refine thenA_n ⟨rfl, (k + 1, g + 1), _, ?_, ?_, rfl, ?_⟩
    · dsimp only; omega
    · repeat (first | exact .nil | refine .cons rfl ?_)
    dsimp only; omega
  simp at h2
  have hk2 : 2 * k = (rdRow (sixR s 6) 10).2.length := by omega
  rw [hk2, List.take_length]
  refine AWP.exit ?_
  refine thenA_x ?_
  refine thenA_x ?_
  refine blockA_h ?_
  refine thenA_n ?_
  refine AWP.seq (AWP.seq ?_)
  refine AWP.frzIn (j := 2) (q := 3) (p := 6) hG rfl (by have := pairsL_len (rdRow (sixR s 6) 10).2; have := rdRow_len (sixR s 6) 10; simp [maxLen]; omega) rfl rfl rfl ?_
  refine AWP.region (fun _ => ?_)
  refine ρp U25 sz25 ?_
  refine ARun.call rfl rfl rfl rfl cf28 (ep rfl) (.cons (ep rfl) .nil) rfl (fun hg => check_fn (mkCall (sixL s) (rdRow (sixR s 6) 10).2) (by have := pairsL_len (rdRow (sixR s 6) 10).2; show (pairsL (rdRow (sixR s 6) 10).2).length ≤ _; omega)) optN ?_
  refine mz ?_
  refine sr fun _ => ?_
  refine mv ?_
  refine ARun.isNil rfl rfl rfl rfl U53 (ep rfl) (fun hg => by first | rfl | exact nilA_aEr _) (.inr ⟨rfl, rfl⟩) optN ?_
  refine ez ?_
  refine ρn (fun h3 => ?_) (fun h3 => ?_)
  · simp [new_none] at h3
    refine sr fun _ => ?_
    refine ARun.build rfl rfl rfl rfl so25 .nil rfl rfl optN ?_
    refine mv ?_
    refine ρg cf61 (fun hg => wrap_fn tTake (Er.new tCall (checkP (mkCall (sixL s) (rdRow (sixR s 6) 10).2)))) ?_
    refine ρ2 sz25 ?_
    refine mz ?_
    refine AWP.ret (thenA_r ?_)
    refine ρe (rs := [.cell 2 25, .tmp 3]) (.cons (.cellA rfl ((hG.at _ _).trans rfl) U25 rfl sz25 rfl rfl) (.cons (.tmp rfl) .nil)) ?_
    have h1q : ¬ (rdCall s).2.2.length % 2 = 1 := by show ¬ (rdRow (sixR s 6) 10).2.length % 2 = 1; omega
    have ht : takeE s ≠ 0 := by rw [takeE, if_neg (by omega), if_neg h1q]; exact h3
    rw [takeC, if_neg ht, takeErr, if_neg (by omega), if_neg h1q]; rfl
  simp [new_none] at h3
  refine AWP.skip (thenA_n ?_)
  refine sr fun _ => ?_
  refine ρp U25 sz25 ?_
  refine ρ2 sz25 ?_
  refine mz ?_
  refine AWP.ret ?_
  refine ρe (rs := [.cell 2 25, .tmp 3]) (.cons (.cellA rfl ((hG.at _ _).trans rfl) U25 rfl sz25 rfl rfl) (.cons (.tmp rfl) .nil)) ?_
  have h1q : ¬ (rdCall s).2.2.length % 2 = 1 := by show ¬ (rdRow (sixR s 6) 10).2.length % 2 = 1; omega
  have ht : takeE s = 0 := by rw [takeE, if_neg (by omega), if_neg h1q]; exact h3
  rw [takeC, if_pos ht, takeErr, if_neg (by omega), if_neg h1q, show checkP (mkCall (rdCall s).2.1 (rdCall s).2.2) = 0 from h3]; rfl
end Go.Proofs.YtgebpndhnkkbgaaGreatDoor
namespace Go.Proofs.YtgebpndhnkkbgaaGreatDoor.Stk
set_option linter.unusedVariables false
set_option linter.unusedSimpArgs false
open Go.RowKit
open StockP
set_option maxRecDepth 100000
abbrev holdF (ys : List It) (i q : Int) : List It × Int := withP (holdG q) ys i q
theorem ln_get {m : List Ln} {k : Nat} (h : k < m.length) : m.getD k default = m[k] := by simp [List.getD, h]
theorem stepL (m : List Ln) (k : Nat) (h : k < m.length) : okLFrom 0 (m.take (k + 1)) = (okLFrom 0 (m.take k) && decide (lastL 0 (m.take k) < (m.getD k default).item ∧ (m.getD k default).item ≤ 99999 ∧ 1 ≤ (m.getD k default).qty ∧ (m.getD k default).qty ≤ 1000000)) := by
  rw [ln_get h, show m.take (k + 1) = m.take k ++ [m[k]] by simp]; exact okLFrom_snoc _ _ _
theorem lastL_at (m : List Ln) (k : Nat) (h : k < m.length) : lastL 0 (m.take (k + 1)) = (m.getD k default).item := by
  rw [ln_get h, show m.take (k + 1) = m.take k ++ [m[k]] by simp]; exact lastL_snoc _ _ _
theorem lastL_prev (m : List Ln) (k : Nat) (h : k ≤ m.length) : (0 < k → lastL 0 (m.take k) = (m.getD (k - 1) default).item) ∧ (k = 0 → lastL 0 (m.take k) = 0) := by
  refine ⟨fun h0 => ?_, fun h0 => ?_⟩
  · rw [← lastL_at m (k - 1) (by omega), show k - 1 + 1 = k by omega]
  subst h0; rfl
theorem lastL_ge (l : List Ln) : ∀ p, okLFrom p l = true → p ≤ lastL p l := by
  induction l with
  | nil => intro p _; exact Int.le_refl _
  | cons x l ih =>
    intro p h
    simp only [okLFrom, Bool.and_eq_true, decide_eq_true_eq] at h
    have := ih _ h.2
    show p ≤ lastL x.item l
    omega
theorem okLE_bad {m : List Ln} {k : Nat} (h : okLFrom 0 (m.take (k + 1)) = false) : okLE m = 2 := by
  unfold okLE okL; rw [okLFrom_cut h]; simp
theorem okLE_big {m : List Ln} (h : m.length < 1 ∨ 5 < m.length) : okLE m = 2 := by
  unfold okLE okL; rw [decide_eq_false (by omega)]; simp
theorem okLE_good {m : List Ln} (h : 1 ≤ m.length ∧ m.length ≤ 5) (h2 : okLFrom 0 (m.take m.length) = true) : okLE m = 0 := by
  rw [List.take_length] at h2
  unfold okLE okL; rw [decide_eq_true h, h2]; simp
theorem okLE_ok {m : List Ln} : okLE m = 0 ↔ okL m = true := by unfold okLE; split <;> simp_all
theorem okL_len {m : List Ln} (h : okL m = true) : 1 ≤ m.length ∧ m.length ≤ 5 := by unfold okL at h; simp at h; exact h.1
theorem okL_at {m : List Ln} (h : okL m = true) {k : Nat} (hk : k < m.length) : 1 ≤ (m.getD k default).qty ∧ (m.getD k default).qty ≤ 1000000 := by
  have h2 : okLFrom 0 m = true := by unfold okL at h; simp at h; exact h.2
  have := okLFrom_mem h2 m[k] (List.getElem_mem hk)
  rw [ln_get hk]; omega
theorem sumF_at (m : List Ln) (k : Nat) (h : k < m.length) : sumF (m.take (k + 1)) = sumF (m.take k) + (m.getD k default).qty := by
  rw [ln_get h, show m.take (k + 1) = m.take k ++ [m[k]] by simp]; exact sumF_snoc _ _
theorem sumF_bd {m : List Ln} (h : okL m = true) : ∀ k, k ≤ m.length → 0 ≤ sumF (m.take k) ∧ sumF (m.take k) ≤ 1000000 * (k : Int) := by
  intro k
  induction k with
  | zero => intro _; simp [sumF]
  | succ k ih =>
    intro hk
    have h1 := ih (by omega)
    have h2 := okL_at h (k := k) (by omega)
    rw [sumF_at m k (by omega)]; omega
theorem goes_step {fn : List It → Int → Int → List It × Int} {cur : List It} {m : List Ln} {k : Nat} (h : k < m.length) : goesP fn k cur (m.drop k) = if (fn cur (m.getD k default).item (m.getD k default).qty).2 ≠ 0 then ([], (k : Int), (fn cur (m.getD k default).item (m.getD k default).qty).2) else goesP fn ((k + 1 : Nat) : Int) (fn cur (m.getD k default).item (m.getD k default).qty).1 (m.drop (k + 1)) := by
  rw [List.drop_eq_getElem_cons h, ← ln_get h, goesP_cons]; rfl
theorem goes_end {fn : List It → Int → Int → List It × Int} {cur : List It} {m : List Ln} : goesP fn m.length cur (m.drop m.length) = (cur, (m.length : Int), 0) := by
  rw [List.drop_length]; rfl
theorem hold_len (l : List It) (i q : Int) : (holdF l i q).1.length ≤ l.length := with_len (holdG q) l i q
theorem allP_no {fn : List It → Int → Int → List It × Int} {l : List It} {m : List Ln} (h : ¬ (ok l = true ∧ okL m = true)) : allP fn l m = ([], 0, 2) := if_neg h
theorem allP_yes {fn : List It → Int → Int → List It × Int} {l : List It} {m : List Ln} (h : ok l = true ∧ okL m = true) : allP fn l m = goesP fn 0 l m := if_pos h
set_option maxHeartbeats 1000000 in
theorem checkL_fn (m : List Ln) : FnP Tryz.prog 137 [.sl (m.map aLn)] (.int .i64 (okLE m)) := by
  refine FnP.of Tryz.func137 rfl rfl (by simp) (by simp [AV.cells, aIt, aLn]) (fun G hG => ?_)
  have hN : NoH G.length (.int .i64 (okLE m)) := (by simp [AV.cells, aIt, aLn])
  refine sr fun _ => ?_
  refine mz ?_
  refine AWP.seq ?_
  refine sr fun _ => ?_
  refine mv ?_
  refine ρw U23 ?_
  refine ρ1 ?_
  refine mv ?_
  refine ρj ?_
  refine ARun.lenSl rfl rfl rfl rfl U23 (Ev.opt rfl (fun h => h)) optS ?_
  refine ρ6 ?_
  refine ρ4 ?_
  refine ez ?_
  refine ρn (fun h0 => ?_) (fun h0 => ?_)
  · simp only [Bool.or_eq_true, decide_eq_true_eq, List.length_map] at h0
    refine sr fun _ => ?_
    refine mz ?_
    refine AWP.ret (thenA_r ?_)
    refine ρd ?_
    rw [okLE_big (by omega)]; rfl
  simp only [Bool.or_eq_false_iff, decide_eq_false_iff_not, List.length_map] at h0
  refine AWP.skip (thenA_n ?_)
  refine sr fun _ => ?_
  refine mz ?_
  refine AWP.seq ?_
  refine sr fun _ => ?_
  refine mv ?_
  refine ρw U23 ?_
  refine mv ?_
  refine ez ?_
  refine AWP.block ?_
  refine AWP.rounds (fun k => k ≤ m.length ∧ okLFrom 0 (m.take k) = true) (fun k => [(3, .int .i64 (lastL 0 (m.take k))), (14, .sl (m.map aLn)), (15, .int .i64 ((m.map aLn).length : Int)), (16, .int .i64 (k : Int))]) (fun k => []) (fun k => m.length - k) 0 0 ⟨by omega, rfl⟩ (by repeat (first | exact .nil | refine .cons rfl ?_)) rfl (fun _ => rfl) (fun _ => (by simp [AO.conts, AV.cells, aIt, aLn])) (fun k hI => ?_)
  obtain ⟨hk, hok⟩ := hI
  refine sr fun _ => ?_
  refine ρ1 ?_
  refine ez ?_
  refine AWP.seq ?_
  refine ρn (fun h1 => ?_) (fun h1 => ?_)
  · try simp [-List.getD_eq_getElem?_getD] at h1
    refine AWP.skip (thenA_n ?_)
    refine AWP.seq (AWP.block ?_)
    refine sr fun _ => ?_
    first | refine ρh U23 sz108 ?_ | refine ρa U23 sz108 ?_
    refine ρq U108 sz108 ?_
    refine ρs (j := 0) zv108 ?_
    refine ρ2 sz108 ?_
    refine ez ?_
    refine AWP.seq ?_
    refine sr fun _ => ?_
    refine ρ7 (fo := 0) U108 sz3 ?_
    refine ρf U3 ?_
    refine mv ?_
    refine ρ1 ?_
    refine mv ?_
    refine ρr (fo := 0) U108 sz3 ?_
    refine ρo U3 ?_
    refine ρ6 ?_
    refine ρ4 ?_
    refine mv ?_
    refine ρr (fo := 1) U108 sz3 ?_
    refine ρo U3 ?_
    refine ρ6 ?_
    refine ρ4 ?_
    refine mv ?_
    refine ρr (fo := 1) U108 sz3 ?_
    refine ρo U3 ?_
    refine ρ6 ?_
    refine ρ4 ?_
    refine ez ?_
    refine ρn (fun h2 => ?_) (fun h2 => ?_)
    · simp [-List.getD_eq_getElem?_getD] at h2
      have hst := stepL m k (by omega)
      have hln := lastL_ge (m.take k) 0 hok
      rw [decide_eq_false (by omega), Bool.and_false] at hst
      refine sr fun _ => ?_
      refine mz ?_
      refine AWP.ret (thenA_r ?_)
      refine blockA_r (thenA_r ?_)
      refine thenA_r (blockA_r (thenA_r ?_))
      refine ρd ?_
      rw [okLE_bad hst]; rfl
    simp [-List.getD_eq_getElem?_getD] at h2
    have hst := stepL m k (by omega)
    rw [decide_eq_true (by omega), hok, Bool.true_and] at hst
    refine AWP.skip (thenA_n ?_)
    refine AWP.region (fun _ => ?_)
    refine ρ7 (fo := 0) U108 sz3 ?_
    refine ρf U3 ?_
    refine ma ?_
    refine ⟨_, _, rfl, hG, ?_⟩
    refine blockA_n (thenA_n ?_)
    refine AWP.region (fun _ => ?_)
    first | refine ρc ?_ | refine ρk ?_
    refine mv ?_
    refine ⟨_, _, rfl, hG, ?_⟩
    refine thenA_n ⟨rfl, k + 1, _, ?_, ?_, rfl, ?_⟩
    · exact ⟨by omega, hst⟩
    · rw [lastL_at m k (by omega)]
      repeat (first | exact .nil | refine .cons rfl ?_)
    omega
  simp at h1
  obtain rfl : k = m.length := by omega
  refine AWP.exit ?_
  refine thenA_x ?_
  refine thenA_x ?_
  refine blockA_h ?_
  refine thenA_n ?_
  refine sr fun _ => ?_
  refine mz ?_
  refine AWP.ret ?_
  refine ρd ?_
  rw [okLE_good (by omega) hok]; rfl
set_option maxHeartbeats 1000000 in
theorem checkLR_fn (m : List Ln) : FnP Tryz.prog 77 [.sl (m.map aLn)] (.int .i64 (okLE m)) := by
  refine FnP.of Tryz.func77 rfl rfl (by simp) (by simp [AV.cells, aIt, aLn]) (fun G hG => ?_)
  have hN : NoH G.length (.int .i64 (okLE m)) := (by simp [AV.cells, aIt, aLn])
  refine sr fun _ => ?_
  refine mz ?_
  refine AWP.seq ?_
  refine sr fun _ => ?_
  refine mv ?_
  refine ρw U23 ?_
  refine ρ1 ?_
  refine mv ?_
  refine ρj ?_
  refine ARun.lenSl rfl rfl rfl rfl U23 (Ev.opt rfl (fun h => h)) optS ?_
  refine ρ6 ?_
  refine ρ4 ?_
  refine ez ?_
  refine ρn (fun h0 => ?_) (fun h0 => ?_)
  · simp only [Bool.or_eq_true, decide_eq_true_eq, List.length_map] at h0
    refine sr fun _ => ?_
    refine mz ?_
    refine AWP.ret (thenA_r ?_)
    refine ρd ?_
    rw [okLE_big (by omega)]; rfl
  simp only [Bool.or_eq_false_iff, decide_eq_false_iff_not, List.length_map] at h0
  refine AWP.skip (thenA_n (AWP.seq ?_))
  refine sr fun _ => ?_
  refine mz ?_
  refine AWP.block ?_
  refine AWP.rounds (fun k => k ≤ m.length ∧ okLFrom 0 (m.take k) = true) (fun k => [(0, .sl (m.map aLn)), (3, .int .i64 (k : Int))]) (fun k => []) (fun k => m.length - k) 0 0 ⟨by omega, rfl⟩ (by repeat (first | exact .nil | refine .cons rfl ?_)) rfl (fun _ => rfl) (fun _ => (by simp [AO.conts, AV.cells, aIt, aLn])) (fun k hI => ?_)
  obtain ⟨hk, hok⟩ := hI
  have hlp := lastL_prev m k hk
  refine AWP.seq ?_
  refine sr fun _ => ?_
  refine mv ?_
  refine mv ?_
  refine ρw U23 ?_
  refine ρ1 ?_
  refine ez ?_
  refine ρn (fun h1 => ?_) (fun h1 => ?_)
  · try simp [-List.getD_eq_getElem?_getD] at h1
    refine AWP.skip (thenA_n ?_)
    refine AWP.seq (AWP.block (AWP.seq ?_))
    refine AWP.draw mixed (by kernel_rfl) (fun _ => ?_)
    refine mv ?_
    refine mv ?_
    first | refine ARun.indexSl rfl rfl rfl rfl U23 sz108 (ep rfl) (ep rfl) (fun _ => rfl) (fun hg => getMap _ _ _ (by (try simp [-List.getD_eq_getElem?_getD] at hg); omega)) rfl rfl optN ?_ | refine ARun.indexSl rfl rfl rfl rfl U23 sz108 (ep rfl) (ep rfl) (fun hg => ofNonneg (by (try simp [-List.getD_eq_getElem?_getD] at hg); omega)) (fun hg => getMap _ _ _ (by (try simp [-List.getD_eq_getElem?_getD] at hg); omega)) rfl rfl optN ?_
    refine ρ5 U108 sz3 ?_
    refine ρb U3 ?_
    refine ρ1 ?_
    refine mv ?_
    refine ρj ?_
    refine ρj ?_
    first | refine ARun.indexSl rfl rfl rfl rfl U23 sz108 (Ev.opt rfl (fun h => h)) (Ev.opt rfl (fun h => h)) (fun _ => rfl) (fun hg => getMap _ _ _ (by (try simp [-List.getD_eq_getElem?_getD] at hg); omega)) rfl rfl optS ?_ | refine ARun.indexSl rfl rfl rfl rfl U23 sz108 (Ev.opt rfl (fun h => h)) (Ev.opt rfl (fun h => h)) (fun hg => ofNonneg (by (try simp [-List.getD_eq_getElem?_getD] at hg); omega)) (fun hg => getMap _ _ _ (by (try simp [-List.getD_eq_getElem?_getD] at hg); omega)) rfl rfl optS ?_
    refine ρz U108 sz3 ?_
    refine ρ3 U3 ?_
    refine ρ6 ?_
    refine ρ4 ?_
    refine mv ?_
    refine ρj ?_
    refine ρj ?_
    first | refine ARun.indexSl rfl rfl rfl rfl U23 sz108 (Ev.opt rfl (fun h => h)) (Ev.opt rfl (fun h => h)) (fun _ => rfl) (fun hg => getMap _ _ _ (by (try simp [-List.getD_eq_getElem?_getD] at hg); omega)) rfl rfl optS ?_ | refine ARun.indexSl rfl rfl rfl rfl U23 sz108 (Ev.opt rfl (fun h => h)) (Ev.opt rfl (fun h => h)) (fun hg => ofNonneg (by (try simp [-List.getD_eq_getElem?_getD] at hg); omega)) (fun hg => getMap _ _ _ (by (try simp [-List.getD_eq_getElem?_getD] at hg); omega)) rfl rfl optS ?_
    refine ρz U108 sz3 ?_
    refine ρ3 U3 ?_
    refine ρ6 ?_
    refine ρ4 ?_
    refine mv ?_
    refine ρj ?_
    refine ρj ?_
    first | refine ARun.indexSl rfl rfl rfl rfl U23 sz108 (Ev.opt rfl (fun h => h)) (Ev.opt rfl (fun h => h)) (fun _ => rfl) (fun hg => getMap _ _ _ (by (try simp [-List.getD_eq_getElem?_getD] at hg); omega)) rfl rfl optS ?_ | refine ARun.indexSl rfl rfl rfl rfl U23 sz108 (Ev.opt rfl (fun h => h)) (Ev.opt rfl (fun h => h)) (fun hg => ofNonneg (by (try simp [-List.getD_eq_getElem?_getD] at hg); omega)) (fun hg => getMap _ _ _ (by (try simp [-List.getD_eq_getElem?_getD] at hg); omega)) rfl rfl optS ?_
    refine ρz U108 sz3 ?_
    refine ρ3 U3 ?_
    refine ρ6 ?_
    refine ρ4 ?_
    refine mv ?_
    refine ρj ?_
    refine ρ6 ?_
    refine ARun.move (.inl rfl) rfl rfl rfl (Ev.opt rfl (fun h => h)) optS ?_
    refine ρj ?_
    refine ρj ?_
    first | refine ARun.indexSl rfl rfl rfl rfl U23 sz108 (Ev.opt rfl (fun h => h)) (Ev.opt rfl (fun h => h)) (fun _ => rfl) (fun hg => getMap _ _ _ (by (try simp [-List.getD_eq_getElem?_getD] at hg); omega)) rfl rfl optS ?_ | refine ARun.indexSl rfl rfl rfl rfl U23 sz108 (Ev.opt rfl (fun h => h)) (Ev.opt rfl (fun h => h)) (fun hg => ofNonneg (by (try simp [-List.getD_eq_getElem?_getD] at hg); omega)) (fun hg => getMap _ _ _ (by (try simp [-List.getD_eq_getElem?_getD] at hg); omega)) rfl rfl optS ?_
    refine ρz U108 sz3 ?_
    refine ρ3 U3 ?_
    refine ρj ?_
    refine ρj ?_
    first | refine ARun.arith rfl rfl rfl rfl (Ev.opt rfl (fun h => h)) (ep rfl) rfl (fun hg => i64w (by (try simp [-List.getD_eq_getElem?_getD] at hg); omega)) optS ?_ | refine ARun.arith rfl rfl rfl rfl (Ev.opt rfl (fun h => h)) (ep rfl) rfl (fun _ => rfl) optS ?_
    first | refine ARun.indexSl rfl rfl rfl rfl U23 sz108 (Ev.opt rfl (fun h => h)) (Ev.opt rfl (fun h => h)) (fun _ => rfl) (fun hg => getMap _ _ _ (by (try simp [-List.getD_eq_getElem?_getD] at hg); omega)) rfl rfl optS ?_ | refine ARun.indexSl rfl rfl rfl rfl U23 sz108 (Ev.opt rfl (fun h => h)) (Ev.opt rfl (fun h => h)) (fun hg => ofNonneg (by (try simp [-List.getD_eq_getElem?_getD] at hg); omega)) (fun hg => getMap _ _ _ (by (try simp [-List.getD_eq_getElem?_getD] at hg); omega)) rfl rfl optS ?_
    refine ρz U108 sz3 ?_
    refine ρ3 U3 ?_
    refine ρv ?_
    refine ARun.pick rfl rfl rfl rfl (Ev.opt rfl (fun h => h)) (Ev.opt rfl (by first | exact pkT | exact pkT2 | simp +contextual)) (ep rfl) (andB _ _) optS ?_
    refine ρ4 ?_
    refine ⟨by kernel_rfl, _, _, rfl, hG, ?_⟩
    refine thenA_n ?_
    refine ρn (fun h2 => ?_) (fun h2 => ?_)
    · simp [-List.getD_eq_getElem?_getD] at h2
      have hst := stepL m k (by omega)
      have hln := lastL_ge (m.take k) 0 hok
      rw [decide_eq_false (by omega), Bool.and_false] at hst
      refine sr fun _ => ?_
      refine mz ?_
      refine AWP.ret (blockA_r ?_)
      refine thenA_r (thenA_r ?_)
      refine blockA_r (thenA_r ?_)
      refine ρd ?_
      rw [okLE_bad hst]; rfl
    simp [-List.getD_eq_getElem?_getD] at h2
    have hst := stepL m k (by omega)
    rw [decide_eq_true (by omega), hok, Bool.true_and] at hst
    refine AWP.skip (blockA_n (thenA_n ?_))
    refine AWP.region (fun _ => ?_)
    refine mv ?_
    first | refine ARun.arith rfl rfl rfl rfl (ep rfl) (ep rfl) rfl (fun hg => i64w (by (try simp [-List.getD_eq_getElem?_getD] at hg); omega)) optN ?_ | refine ρk ?_
    refine ma ?_
    refine ⟨_, _, rfl, hG, ?_⟩
    refine thenA_n ⟨rfl, k + 1, _, ?_, ?_, rfl, ?_⟩
    · exact ⟨by omega, hst⟩
    · repeat (first | exact .nil | refine .cons rfl ?_)
    omega
  simp at h1
  obtain rfl : k = m.length := by omega
  refine AWP.exit ?_
  refine thenA_x ?_
  refine thenA_x ?_
  refine blockA_h ?_
  refine thenA_n ?_
  refine sr fun _ => ?_
  refine mz ?_
  refine AWP.ret ?_
  refine ρd ?_
  rw [okLE_good (by omega) hok]; rfl
set_option maxHeartbeats 1000000 in
theorem mayB_fn (l : List It) (m : List Ln) : FnP Tryz.prog 155 [.sl (l.map aIt), .sl (m.map aLn)] (.bool (ok l && okL m)) := by
  refine FnP.of Tryz.func155 rfl rfl (by simp) (by simp [AV.cells, aIt, aLn]) (fun G hG => ?_)
  have hN : NoH G.length (.bool (ok l && okL m)) := (by simp [AV.cells, aIt, aLn])
  refine sr fun _ => ?_
  refine mz ?_
  refine sr fun _ => ?_
  refine mv ?_
  refine ρl cf26 (fun hg => check_fn l) ?_
  refine ρ1 ?_
  refine mv ?_
  refine ρj ?_
  refine ρm cf137 (fun hg => checkL_fn m) ?_
  refine ρ6 ?_
  refine ρ0 ?_
  refine mz ?_
  refine AWP.ret ?_
  refine ρd ?_
  simp [okE_ok, okLE_ok]
def stp (l : List It) (x : Ln) : List It := if (holdF l x.item x.qty).2 = 0 then (holdF l x.item x.qty).1 else l
set_option maxHeartbeats 1000000 in
theorem doing_fn (l : List It) : FnNewB Tryz.prog 156 [.sl (l.map aIt), .fn (.func 111) [] []] (fun i => .fn (.func 163) [] [.pe [.fn (.func 111) [] []], .box i 0]) [.sl (l.map aIt)] := by
  refine FnNewB.of Tryz.func156 rfl rfl (by simp) (fun G hG => ?_)
  refine sr fun _ => ?_
  refine ARun.box1 (j := 0) hG rfl rfl rfl rfl rfl (ep rfl) (by first | rfl | exact aEr_one _ | exact aFl_one _) optN ?_
  refine ARun.boxPe1 rfl rfl rfl rfl (ep rfl) (by first | rfl | exact aEr_one _ | exact aFl_one _) optN ?_
  refine mz ?_
  refine sr fun _ => ?_
  refine ARun.makeFunc rfl rfl rfl rfl .nil (.cons (ep rfl) (.cons (ep rfl) .nil)) optN ?_
  refine mz ?_
  refine AWP.ret ?_
  refine endN.one (.inr rfl) rfl (.tmp rfl) ?_ (by simp [AV.cells, aIt]) (by simp [AV.cells, aIt])
  rfl
set_option maxHeartbeats 1000000 in
theorem step_fn (l : List It) (x : Ln) (hl : l.length ≤ 1000) : FnM Tryz.prog 163 (fun i => [aLn x, .pe [.fn (.func 111) [] []], .box i 0]) [.sl (l.map aIt)] (.tup [.sl ((holdF l x.item x.qty).1.map aIt), .int .i64 (holdF l x.item x.qty).2]) [.sl ((stp l x).map aIt)] := by
  refine FnM.of Tryz.func163 rfl rfl (fun i => by simp) (fun H i m hHm hi hG => ?_)
  have hN : NoH H.length (.tup [.sl ((holdF l x.item x.qty).1.map aIt), .int .i64 (holdF l x.item x.qty).2]) := (by simp [AV.cells, aIt])
  refine sr fun _ => ?_
  refine ρy ?_
  refine ma ?_
  refine mz ?_
  refine sr fun _ => ?_
  first | refine ρb U165 ?_ | refine ρf U165 ?_
  refine ARun.loadBox rfl rfl rfl rfl U22 rfl (ep rfl) (atO hi) rfl optN ?_
  refine ρ5 U108 sz3 ?_
  refine ρb U3 ?_
  refine ρ5 U108 sz3 ?_
  refine ρb U3 ?_
  refine ARun.call rfl rfl rfl rfl cf111 (ep rfl) (.cons (ep rfl) (.cons (ep rfl) (.cons (ep rfl) .nil))) rfl (fun hg => reserve_fn l x.item x.qty hl) optN ?_
  refine mv ?_
  refine ρ9 ?_
  refine ρ9 ?_
  refine ma ?_
  refine mz ?_
  refine AWP.seq ?_
  refine sr fun _ => ?_
  refine mv ?_
  refine ρ1 ?_
  refine ez ?_
  refine ρn (fun h0 => ?_) (fun h0 => ?_)
  · try simp [-List.getD_eq_getElem?_getD] at h0
    refine AWP.region (fun _ => ?_)
    refine mv ?_
    refine ARun.storeO1 hi hG rfl rfl rfl sz22 (ep rfl) (ep rfl) (by first | rfl | exact aEr_one _ | exact aFl_one _) (Nat.le_of_ble_eq_true rfl) rfl (by simp [AV.cells, aIt]) (fun hG => ?_)
    refine ez ?_
    refine sr fun _ => ?_
    refine mv ?_
    refine mv ?_
    refine ma ?_
    refine mz ?_
    refine AWP.ret ?_
    refine endF.toG (congrArg (fun c => H.set i (AO.box c)) (by rw [stp, if_pos h0]; rfl)) ?_
    refine endF.many (.inr rfl) (rs := [.tmp 4, .tmp 5]) rfl (.cons (.tmp rfl) (.cons (.tmp rfl) .nil)) (by simp) ?_ (by rw [List.length_set]; exact hN)
    rfl
  try simp [-List.getD_eq_getElem?_getD] at h0
  refine AWP.skip (thenA_n ?_)
  refine sr fun _ => ?_
  refine mv ?_
  refine mv ?_
  refine ma ?_
  refine mz ?_
  refine AWP.ret ?_
  refine endF.toG (congrArg (fun c => H.set i (AO.box c)) (by rw [stp, if_neg h0])) ?_
  refine endF.many (.inr rfl) (rs := [.tmp 4, .tmp 5]) rfl (.cons (.tmp rfl) (.cons (.tmp rfl) .nil)) (by simp) ?_ (by rw [List.length_set]; exact hN)
  rfl
set_option maxHeartbeats 1000000 in
theorem all_fn (l : List It) (m : List Ln) (hl : l.length ≤ 1000) : FnP Tryz.prog 136 [.sl (l.map aIt), .sl (m.map aLn), .fn (.func 111) [] []] (.tup [.sl ((allP holdF l m).1.map aIt), .int .i64 (allP holdF l m).2.1, .int .i64 (allP holdF l m).2.2]) := by
  refine FnP.of Tryz.func136 rfl rfl (by simp) (by simp [AV.cells, aIt, aLn]) (fun G hG => ?_)
  have hN : NoH G.length (.tup [.sl ((allP holdF l m).1.map aIt), .int .i64 (allP holdF l m).2.1, .int .i64 (allP holdF l m).2.2]) := (by simp [AV.cells, aIt, aLn])
  refine sr fun _ => ?_
  refine ma ?_
  refine ma ?_
  refine mz ?_
  refine AWP.seq ?_
  refine sr fun _ => ?_
  refine mv ?_
  refine mv ?_
  refine ρg cf155 (fun hg => mayB_fn l m) ?_
  refine ρA ?_
  refine ez ?_
  refine ρn (fun h0 => ?_) (fun h0 => ?_)
  · simp at h0
    refine sr fun _ => ?_
    refine ma ?_
    refine ma ?_
    refine mz ?_
    refine AWP.ret (thenA_r ?_)
    refine ρe (rs := [.tmp 6, .tmp 7, .tmp 8]) (.cons (.tmp rfl) (.cons (.tmp rfl) (.cons (.tmp rfl) .nil))) ?_
    rw [allP_no (by rintro ⟨a, b⟩; rw [a, b] at h0; simp at h0)]; rfl
  simp at h0
  have hml := okL_len h0.2
  have hdef := allP_yes (fn := holdF) h0
  refine AWP.skip (thenA_n ?_)
  refine sr fun _ => ?_
  refine mv ?_
  refine mv ?_
  refine ARun.callNewB (j := 0) hG rfl rfl rfl rfl rfl cf156 (ep rfl) (.cons (ep rfl) (.cons (ep rfl) .nil)) rfl (doing_fn l) optN ?_
  refine mz ?_
  refine AWP.seq ?_
  refine sr fun _ => ?_
  refine mv ?_
  refine ρw U23 ?_
  refine mv ?_
  refine ez ?_
  refine AWP.block ?_
  refine AWP.rounds (fun s => s.1 ≤ m.length ∧ s.2.length ≤ 1000 ∧ goesP holdF 0 l m = goesP holdF s.1 s.2 (m.drop s.1)) (fun s => [(1, .sl (m.map aLn)), (6, .sl ((if s.1 = 0 then [] else s.2).map aIt)), (9, .fn (.func 163) [] [.pe [.fn (.func 111) [] []], .box (G.length + 0) 0]), (21, .sl (m.map aLn)), (22, .int .i64 ((m.map aLn).length : Int)), (23, .int .i64 (s.1 : Int))]) (fun s => [.box [.sl (s.2.map aIt)]]) (fun s => m.length - s.1) 1 ((0, l) : Nat × List It) ⟨by omega, hl, rfl⟩ (by repeat (first | exact .nil | refine .cons rfl ?_)) rfl (fun _ => rfl) (fun _ => ⟨by simp [AV.cells, aIt, aLn]; intro x a _ _ e y hy; subst e; simp at hy; rcases hy with rfl | rfl | rfl | rfl <;> simp, by simp [AO.conts, AV.cells, aIt]⟩) (fun s hI => ?_)
  obtain ⟨k, cur⟩ := s
  dsimp only at hI
  show AWP _ _ _ _ _ [(1, .sl (m.map aLn)), (6, .sl ((if k = 0 then [] else cur).map aIt)), (9, .fn (.func 163) [] [.pe [.fn (.func 111) [] []], .box (G.length + 0) 0]), (21, .sl (m.map aLn)), (22, .int .i64 ((m.map aLn).length : Int)), (23, .int .i64 (k : Int))] _ [.box [.sl (cur.map aIt)]]
  obtain ⟨hk, hc, hg2⟩ := hI
  have hhl := hold_len cur (m.getD k default).item (m.getD k default).qty
  refine sr fun _ => ?_
  refine ρ1 ?_
  refine ez ?_
  refine AWP.seq ?_
  refine ρn (fun h1 => ?_) (fun h1 => ?_)
  · try simp [-List.getD_eq_getElem?_getD] at h1
    refine AWP.skip (thenA_n ?_)
    refine AWP.seq (AWP.block ?_)
    refine sr fun _ => ?_
    refine mv ?_
    first | refine ρh U23 sz108 ?_ | refine ρa U23 sz108 ?_
    refine ρq U108 sz108 ?_
    refine ρs (j := 1) zv108 ?_
    refine ma ?_
    refine ρ2 sz108 ?_
    refine ez ?_
    refine sr fun _ => ?_
    refine mv ?_
    refine ρp U108 sz108 ?_
    refine ARun.callSet (j := 0) hG rfl rfl rfl rfl cf163 (ep rfl) (.cons (ep rfl) .nil) rfl (step_fn cur (m.getD k default) hc _ _ ((hG.at _ _).trans rfl)) rfl optN ?_
    refine mv ?_
    refine ρ9 ?_
    refine ρ9 ?_
    refine ma ?_
    refine mz ?_
    refine AWP.seq ?_
    refine sr fun _ => ?_
    refine mv ?_
    refine ρ1 ?_
    refine ez ?_
    refine ρn (fun h2 => ?_) (fun h2 => ?_)
    · simp [-List.getD_eq_getElem?_getD] at h2
      rw [goes_step (by omega), if_pos h2] at hg2
      refine sr fun _ => ?_
      refine mv ?_
      refine mv ?_
      refine ma ?_
      refine ma ?_
      refine mz ?_
      refine AWP.ret (thenA_r ?_)
      refine blockA_r (thenA_r ?_)
      refine thenA_r (blockA_r (thenA_r ?_))
      refine ρe (rs := [.tmp 6, .tmp 7, .tmp 8]) (.cons (.tmp rfl) (.cons (.tmp rfl) (.cons (.tmp rfl) .nil))) ?_
      rw [hdef, hg2]; rfl
    simp [-List.getD_eq_getElem?_getD] at h2
    rw [goes_step (by omega), if_neg (by rw [h2]; simp)] at hg2
    have hst : stp cur (m.getD k default) = (holdF cur (m.getD k default).item (m.getD k default).qty).1 := by rw [stp, if_pos h2]
    rw [hst]
    refine AWP.skip (thenA_n ?_)
    refine AWP.region (fun _ => ?_)
    refine mv ?_
    refine ma ?_
    refine ⟨_, _, rfl, hG, ?_⟩
    refine blockA_n (thenA_n ?_)
    refine AWP.region (fun _ => ?_)
    first | refine ρc ?_ | refine ρk ?_
    refine mv ?_
    refine ⟨_, _, rfl, hG, ?_⟩
    refine thenA_n ⟨rfl, (k + 1, (holdF cur (m.getD k default).item (m.getD k default).qty).1), _, ?_, ?_, rfl, ?_⟩
    · exact ⟨by dsimp only; omega, by dsimp only; omega, hg2⟩
    · repeat (first | exact .nil | refine .cons rfl ?_)
    dsimp only; omega
  simp at h1
  obtain rfl : k = m.length := by omega
  rw [goes_end] at hg2
  have hk0 : ¬ m.length = 0 := by omega
  refine AWP.exit ?_
  refine thenA_x ?_
  refine thenA_x ?_
  refine blockA_h ?_
  refine thenA_n ?_
  refine sr fun _ => ?_
  refine mv ?_
  refine mv ?_
  refine ρw U23 ?_
  refine ma ?_
  refine ma ?_
  refine mz ?_
  refine AWP.ret ?_
  refine ρe (rs := [.tmp 6, .tmp 7, .tmp 8]) (.cons (.tmp rfl) (.cons (.tmp rfl) (.cons (.tmp rfl) .nil))) ?_
  rw [hdef, hg2, if_neg hk0, List.length_map]; rfl
set_option maxHeartbeats 1000000 in
theorem holdB_fn (l : List It) (m : List Ln) (hl : l.length ≤ 1000) : FnP Tryz.prog 107 [.sl (l.map aIt), .sl (m.map aLn)] (.tup [.sl ((allP holdF l m).1.map aIt), .int .i64 (allP holdF l m).2.1, .int .i64 (allP holdF l m).2.2]) := by
  refine FnP.of Tryz.func107 rfl rfl (by simp) (by simp [AV.cells, aIt, aLn]) (fun G hG => ?_)
  have hN : NoH G.length (.tup [.sl ((allP holdF l m).1.map aIt), .int .i64 (allP holdF l m).2.1, .int .i64 (allP holdF l m).2.2]) := (by simp [AV.cells, aIt, aLn])
  refine sr fun _ => ?_
  refine ma ?_
  refine ma ?_
  refine mz ?_
  refine sr fun _ => ?_
  refine mv ?_
  refine mv ?_
  refine ARun.call rfl rfl rfl rfl cf136 (ep rfl) (.cons (ep rfl) (.cons (ep rfl) (.cons (ep rfl) .nil))) rfl (fun hg => all_fn l m hl) optN ?_
  refine ρ9 ?_
  refine ρ9 ?_
  refine ρ9 ?_
  refine ma ?_
  refine ma ?_
  refine mz ?_
  refine AWP.ret ?_
  refine ρe (rs := [.tmp 4, .tmp 5, .tmp 6]) (.cons (.tmp rfl) (.cons (.tmp rfl) (.cons (.tmp rfl) .nil))) ?_
  rfl
set_option maxHeartbeats 1000000 in
theorem total_fn (m : List Ln) (hm : m.length ≤ 1000) : FnP Tryz.prog 108 [.sl (m.map aLn)] (.int .i64 (totalP m)) := by
  refine FnP.of Tryz.func108 rfl rfl (by simp) (by simp [AV.cells, aIt, aLn]) (fun G hG => ?_)
  have hN : NoH G.length (.int .i64 (totalP m)) := (by simp [AV.cells, aIt, aLn])
  refine sr fun _ => ?_
  refine mz ?_
  refine sr fun _ => ?_
  refine mz ?_
  refine AWP.seq ?_
  refine sr fun _ => ?_
  refine mv ?_
  refine ρw U23 ?_
  refine mv ?_
  refine ez ?_
  refine AWP.block ?_
  refine AWP.rounds (fun k => k ≤ m.length) (fun k => [(0, .sl (m.map aLn)), (3, .int .i64 (if okL m = true then sumF (m.take k) else 0)), (6, .sl (m.map aLn)), (7, .int .i64 ((m.map aLn).length : Int)), (8, .int .i64 (k : Int))]) (fun k => []) (fun k => m.length - k) 0 0 (Nat.zero_le _) (by rw [show (if okL m = true then sumF (m.take 0) else 0) = 0 from by split <;> rfl]; repeat (first | exact .nil | refine .cons rfl ?_)) rfl (fun _ => rfl) (fun _ => (by simp [AO.conts, AV.cells, aIt, aLn])) (fun k hI => ?_)
  refine sr fun _ => ?_
  refine ρ1 ?_
  refine ez ?_
  refine AWP.seq ?_
  refine ρn (fun h0 => ?_) (fun h0 => ?_)
  · try simp [-List.getD_eq_getElem?_getD] at h0
    refine AWP.skip (thenA_n ?_)
    refine AWP.seq (AWP.block ?_)
    refine sr fun _ => ?_
    first | refine ρh U23 sz108 ?_ | refine ρa U23 sz108 ?_
    refine ρq U108 sz108 ?_
    refine ρs (j := 0) zv108 ?_
    refine ρ2 sz108 ?_
    refine ez ?_
    refine sr fun _ => ?_
    refine mv ?_
    refine ρl cf137 (fun hg => checkL_fn m) ?_
    refine ρ1 ?_
    refine ez ?_
    refine ρn (fun h1 => ?_) (fun h1 => ?_)
    · simp [okLE_ok] at h1
      have hb := sumF_bd h1 k (by omega)
      have hq := okL_at h1 (k := k) (by omega)
      have hml := okL_len h1
      have hif : (if okL m = true then sumF (m.take k) else 0) = sumF (m.take k) := if_pos h1
      refine AWP.region (fun _ => ?_)
      refine mv ?_
      refine ρ7 (fo := 1) U108 sz3 ?_
      refine ρf U3 ?_
      first | refine ρc ?_ | refine ρk ?_
      refine ma ?_
      refine ⟨_, _, rfl, hG, ?_⟩
      refine blockA_n (thenA_n ?_)
      refine AWP.region (fun _ => ?_)
      first | refine ρc ?_ | refine ρk ?_
      refine mv ?_
      refine ⟨_, _, rfl, hG, ?_⟩
      refine thenA_n ⟨rfl, k + 1, _, ?_, ?_, rfl, ?_⟩
      · omega
      · rw [if_pos h1, if_pos h1, sumF_at m k (by omega)]
        repeat (first | exact .nil | refine .cons rfl ?_)
      omega
    simp [okLE_ok] at h1
    refine AWP.skip (blockA_n (thenA_n ?_))
    refine AWP.region (fun _ => ?_)
    first | refine ρc ?_ | refine ρk ?_
    refine mv ?_
    refine ⟨_, _, rfl, hG, ?_⟩
    refine thenA_n ⟨rfl, k + 1, _, ?_, ?_, rfl, ?_⟩
    · omega
    · rw [if_neg (by simp [h1]), if_neg (by simp [h1])]
      repeat (first | exact .nil | refine .cons rfl ?_)
    omega
  simp at h0
  obtain rfl : k = m.length := by omega
  rw [List.take_length]
  refine AWP.exit ?_
  refine thenA_x ?_
  refine thenA_x ?_
  refine blockA_h ?_
  refine thenA_n ?_
  refine sr fun _ => ?_
  refine mv ?_
  refine mz ?_
  refine AWP.ret ?_
  refine ρd ?_
  rfl
set_option maxHeartbeats 1000000 in
theorem totalR_fn (m : List Ln) (hm : m.length ≤ 1000) : FnP Tryz.prog 39 [.sl (m.map aLn)] (.int .i64 (totalP m)) := by
  refine FnP.of Tryz.func39 rfl rfl (by simp) (by simp [AV.cells, aIt, aLn]) (fun G hG => ?_)
  have hN : NoH G.length (.int .i64 (totalP m)) := (by simp [AV.cells, aIt, aLn])
  refine sr fun _ => ?_
  refine mz ?_
  refine sr fun _ => ?_
  refine mz ?_
  refine AWP.seq ?_
  refine sr fun _ => ?_
  refine mz ?_
  refine AWP.block ?_
  refine AWP.rounds (fun k => k ≤ m.length) (fun k => [(0, .sl (m.map aLn)), (3, .int .i64 (if okL m = true then sumF (m.take k) else 0)), (4, .int .i64 (k : Int))]) (fun k => []) (fun k => m.length - k) 0 0 (Nat.zero_le _) (by rw [show (if okL m = true then sumF (m.take 0) else 0) = 0 from by split <;> rfl]; repeat (first | exact .nil | refine .cons rfl ?_)) rfl (fun _ => rfl) (fun _ => (by simp [AO.conts, AV.cells, aIt, aLn])) (fun k hI => ?_)
  refine AWP.seq ?_
  refine sr fun _ => ?_
  refine mv ?_
  refine mv ?_
  refine ρw U23 ?_
  refine ρ1 ?_
  refine mv ?_
  refine ρj ?_
  refine ρm cf77 (fun hg => checkLR_fn m) ?_
  refine ρ6 ?_
  refine ρ0 ?_
  refine ez ?_
  refine ρn (fun h0 => ?_) (fun h0 => ?_)
  · simp [okLE_ok] at h0
    have hb := sumF_bd h0.2 k (by omega)
    have hq := okL_at h0.2 (k := k) (by omega)
    have hml := okL_len h0.2
    have hif : (if okL m = true then sumF (m.take k) else 0) = sumF (m.take k) := if_pos h0.2
    refine AWP.skip (thenA_n ?_)
    refine AWP.seq (AWP.block ?_)
    refine AWP.region (fun _ => ?_)
    refine mv ?_
    refine mv ?_
    refine mv ?_
    first | refine ρh U23 sz108 ?_ | refine ρa U23 sz108 ?_
    refine ρ5 U108 sz3 ?_
    refine ρb U3 ?_
    first | refine ρc ?_ | refine ρk ?_
    refine ma ?_
    refine ⟨_, _, rfl, hG, ?_⟩
    refine blockA_n (thenA_n ?_)
    refine AWP.region (fun _ => ?_)
    refine mv ?_
    first | refine ρc ?_ | refine ρk ?_
    refine ma ?_
    refine ⟨_, _, rfl, hG, ?_⟩
    refine thenA_n ⟨rfl, k + 1, _, ?_, ?_, rfl, ?_⟩
    · omega
    · rw [if_pos h0.2, if_pos h0.2, sumF_at m k (by omega)]
      repeat (first | exact .nil | refine .cons rfl ?_)
    omega
  simp [okLE_ok] at h0
  refine AWP.exit ?_
  refine thenA_x ?_
  refine thenA_x ?_
  refine blockA_h ?_
  refine thenA_n ?_
  refine sr fun _ => ?_
  refine mv ?_
  refine mz ?_
  refine AWP.ret ?_
  refine ρd ?_
  unfold totalP
  by_cases hm : okL m = true
  · rw [if_pos hm, if_pos hm, List.take_of_length_le (by
      by_cases e : k < m.length
      · rw [h0 e] at hm; cases hm
      · omega)]
  rw [if_neg hm, if_neg hm]
theorem goesM_1 (l : List It) (id q : Int) : goesM l id q 1 = holdF l id q := if_pos rfl
set_option maxHeartbeats 1000000 in
theorem goesLR_fn (l : List It) (m : List Ln) (hl : l.length ≤ 1000) : FnP Tryz.prog 38 [.sl (l.map aIt), .sl (m.map aLn), .int .i64 1] (.tup [.sl ((allP holdF l m).1.map aIt), .int .i64 (allP holdF l m).2.1, .int .i64 (allP holdF l m).2.2]) := by
  refine FnP.of Tryz.func38 rfl rfl (by simp) (by simp [AV.cells, aIt, aLn]) (fun G hG => ?_)
  have hN : NoH G.length (.tup [.sl ((allP holdF l m).1.map aIt), .int .i64 (allP holdF l m).2.1, .int .i64 (allP holdF l m).2.2]) := (by simp [AV.cells, aIt, aLn])
  refine sr fun _ => ?_
  refine ma ?_
  refine ma ?_
  refine mz ?_
  refine AWP.seq ?_
  refine sr fun _ => ?_
  refine mv ?_
  refine ρl cf30 (fun hg => checkR_fn l) ?_
  refine ρ1 ?_
  refine mv ?_
  refine ρj ?_
  refine ρm cf77 (fun hg => checkLR_fn m) ?_
  refine ρ6 ?_
  refine ρ4 ?_
  refine ez ?_
  refine ρn (fun h0 => ?_) (fun h0 => ?_)
  · simp [okE_ok, okLE_ok] at h0
    refine sr fun _ => ?_
    refine ma ?_
    refine ma ?_
    refine mz ?_
    refine AWP.ret (thenA_r ?_)
    refine ρe (rs := [.tmp 6, .tmp 7, .tmp 8]) (.cons (.tmp rfl) (.cons (.tmp rfl) (.cons (.tmp rfl) .nil))) ?_
    rw [allP_no (by rintro ⟨a, b⟩; rw [a, b] at h0; simp at h0)]; rfl
  simp [okE_ok, okLE_ok] at h0
  have hml := okL_len h0.2
  have hdef := allP_yes (fn := holdF) h0
  refine AWP.skip (thenA_n (AWP.seq ?_))
  refine sr fun _ => ?_
  refine mz ?_
  refine AWP.block ?_
  refine AWP.rounds (fun s => s.1 ≤ m.length ∧ s.2.length ≤ 1000 ∧ goesP holdF 0 l m = goesP holdF s.1 s.2 (m.drop s.1)) (fun s => [(0, .sl (s.2.map aIt)), (1, .sl (m.map aLn)), (2, .int .i64 1), (9, .int .i64 (s.1 : Int))]) (fun s => []) (fun s => m.length - s.1) 0 ((0, l) : Nat × List It) ⟨by omega, hl, rfl⟩ (by repeat (first | exact .nil | refine .cons rfl ?_)) rfl (fun _ => rfl) (fun _ => (by simp [AO.conts, AV.cells, aIt, aLn])) (fun s hI => ?_)
  obtain ⟨k, cur⟩ := s
  dsimp only at hI
  show AWP _ _ _ _ _ [(0, .sl (cur.map aIt)), (1, .sl (m.map aLn)), (2, .int .i64 1), (9, .int .i64 (k : Int))] _ []
  obtain ⟨hk, hc, hg2⟩ := hI
  have hhl := hold_len cur (m.getD k default).item (m.getD k default).qty
  refine AWP.seq ?_
  refine sr fun _ => ?_
  refine mv ?_
  refine mv ?_
  refine ρw U23 ?_
  refine ρ1 ?_
  refine ez ?_
  refine ρn (fun h1 => ?_) (fun h1 => ?_)
  · try simp [-List.getD_eq_getElem?_getD] at h1
    refine AWP.skip (thenA_n ?_)
    refine AWP.seq (AWP.block (AWP.seq ?_))
    refine AWP.draw mixed (by kernel_rfl) (fun _ => ?_)
    refine mv ?_
    refine mv ?_
    refine mv ?_
    first | refine ρh U23 sz108 ?_ | refine ρa U23 sz108 ?_
    refine ρ5 U108 sz3 ?_
    refine ρb U3 ?_
    refine mv ?_
    refine mv ?_
    first | refine ρh U23 sz108 ?_ | refine ρa U23 sz108 ?_
    refine ρ5 U108 sz3 ?_
    refine ρb U3 ?_
    refine mv ?_
    refine ARun.call rfl rfl rfl rfl cf35 (ep rfl) (.cons (ep rfl) (.cons (ep rfl) (.cons (ep rfl) (.cons (ep rfl) .nil)))) rfl (fun hg => goesR_fn cur (m.getD k default).item (m.getD k default).qty 1 hc) optN ?_
    refine mv ?_
    refine ρ9 ?_
    refine ρ9 ?_
    refine ma ?_
    refine ma ?_
    refine ⟨by kernel_rfl, _, _, rfl, hG, ?_⟩
    refine thenA_n (AWP.seq ?_)
    refine sr fun _ => ?_
    refine mv ?_
    refine ρ1 ?_
    refine ez ?_
    refine ρn (fun h2 => ?_) (fun h2 => ?_)
    · simp only [goesM_1] at h2
      simp [-List.getD_eq_getElem?_getD] at h2
      rw [goes_step (by omega), if_pos h2] at hg2
      refine sr fun _ => ?_
      refine mv ?_
      refine mv ?_
      refine ma ?_
      refine ma ?_
      refine mz ?_
      refine AWP.ret (thenA_r ?_)
      refine blockA_r (thenA_r ?_)
      refine thenA_r (blockA_r (thenA_r ?_))
      refine ρe (rs := [.tmp 6, .tmp 7, .tmp 8]) (.cons (.tmp rfl) (.cons (.tmp rfl) (.cons (.tmp rfl) .nil))) ?_
      rw [hdef, hg2]; rfl
    simp only [goesM_1] at h2
    simp [-List.getD_eq_getElem?_getD] at h2
    rw [goes_step (by omega), if_neg (by rw [h2]; simp)] at hg2
    refine AWP.skip (thenA_n ?_)
    refine AWP.region (fun _ => ?_)
    refine mv ?_
    refine ma ?_
    refine ⟨_, _, rfl, hG, ?_⟩
    refine blockA_n (thenA_n ?_)
    refine AWP.region (fun _ => ?_)
    refine mv ?_
    first | refine ρc ?_ | refine ρk ?_
    refine ma ?_
    refine ⟨_, _, rfl, hG, ?_⟩
    refine thenA_n ⟨rfl, (k + 1, (holdF cur (m.getD k default).item (m.getD k default).qty).1), _, ?_, ?_, rfl, ?_⟩
    · exact ⟨by dsimp only; omega, by dsimp only; omega, hg2⟩
    · rw [← goesM_1]
      repeat (first | exact .nil | refine .cons rfl ?_)
    dsimp only; omega
  simp at h1
  obtain rfl : k = m.length := by omega
  rw [goes_end] at hg2
  refine AWP.exit ?_
  refine thenA_x ?_
  refine thenA_x ?_
  refine blockA_h ?_
  refine thenA_n ?_
  refine sr fun _ => ?_
  refine mv ?_
  refine mv ?_
  refine ρw U23 ?_
  refine ma ?_
  refine ma ?_
  refine mz ?_
  refine AWP.ret ?_
  refine ρe (rs := [.tmp 6, .tmp 7, .tmp 8]) (.cons (.tmp rfl) (.cons (.tmp rfl) (.cons (.tmp rfl) .nil))) ?_
  rw [hdef, hg2, List.length_map]; rfl
set_option maxHeartbeats 1000000 in
theorem eq_fn (a b : List It) (hl : a.length ≤ 9223372036854775807) : FnP Tryz.prog 46 [.sl (a.map aIt), .sl (b.map aIt)] (.bool (decide (a = b))) := by
  refine FnP.of Tryz.func46 rfl rfl (by simp) (by simp [AV.cells, aIt, aLn]) (fun G hG => ?_)
  have hN : NoH G.length (.bool (decide (a = b))) := (by simp [AV.cells, aIt, aLn])
  refine sr fun _ => ?_
  refine mz ?_
  refine AWP.seq ?_
  refine sr fun _ => ?_
  refine mv ?_
  refine ρw U22 ?_
  refine mv ?_
  refine ρw U22 ?_
  refine ρ1 ?_
  refine ez ?_
  refine ρn (fun h0 => ?_) (fun h0 => ?_)
  · simp [-List.getD_eq_getElem?_getD] at h0
    refine sr fun _ => ?_
    refine mz ?_
    refine AWP.ret (thenA_r ?_)
    refine ρd ?_
    rw [decide_eq_false (fun e => absurd (congrArg List.length e) (by omega))]; rfl
  simp [-List.getD_eq_getElem?_getD] at h0
  refine AWP.skip (thenA_n (AWP.seq ?_))
  refine sr fun _ => ?_
  refine mv ?_
  refine ρw U22 ?_
  refine mv ?_
  refine ez ?_
  refine AWP.block ?_
  refine AWP.rounds (fun k => k ≤ a.length ∧ a.take k = b.take k) (fun k => [(0, .sl (a.map aIt)), (1, .sl (b.map aIt)), (12, .int .i64 ((a.map aIt).length : Int)), (13, .int .i64 (k : Int))]) (fun k => []) (fun k => a.length - k) 0 0 ⟨by omega, rfl⟩ (by repeat (first | exact .nil | refine .cons rfl ?_)) rfl (fun _ => rfl) (fun _ => (by simp [AO.conts, AV.cells, aIt, aLn])) (fun k hI => ?_)
  obtain ⟨hk, hs⟩ := hI
  refine sr fun _ => ?_
  refine ρ1 ?_
  refine ez ?_
  refine AWP.seq ?_
  refine ρn (fun h1 => ?_) (fun h1 => ?_)
  · simp [-List.getD_eq_getElem?_getD] at h1
    refine AWP.skip (thenA_n ?_)
    refine AWP.seq (AWP.block ?_)
    refine sr fun _ => ?_
    refine mv ?_
    refine mz ?_
    refine AWP.seq ?_
    refine AWP.draw mixed (by kernel_rfl) (fun _ => ?_)
    refine mv ?_
    refine mv ?_
    first | refine ρh U22 sz64 ?_ | refine ρa U22 sz64 ?_
    refine ρq U64 sz64 ?_
    refine mv ?_
    refine mv ?_
    first | refine ρh U22 sz64 ?_ | refine ρa U22 sz64 ?_
    refine ρq U64 sz64 ?_
    refine ARun.eqAgg rfl rfl rfl rfl eq64 (ep rfl) (ep rfl) rfl (.inr ⟨rfl, rfl⟩) optN ?_
    refine ⟨by kernel_rfl, _, _, rfl, hG, ?_⟩
    refine thenA_n ?_
    refine ρn (fun h2 => ?_) (fun h2 => ?_)
    · simp [-List.getD_eq_getElem?_getD] at h2
      refine sr fun _ => ?_
      refine mz ?_
      refine AWP.ret (blockA_r ?_)
      refine thenA_r (thenA_r ?_)
      refine blockA_r (thenA_r ?_)
      refine ρd ?_
      rw [decide_eq_false (ne_of_get (k := k) (aIt_ne h2))]; rfl
    simp [-List.getD_eq_getElem?_getD] at h2
    refine AWP.skip (blockA_n (thenA_n ?_))
    refine AWP.region (fun _ => ?_)
    first | refine ρc ?_ | refine ρk ?_
    refine mv ?_
    refine ⟨_, _, rfl, hG, ?_⟩
    refine thenA_n ⟨rfl, k + 1, _, ?_, ?_, rfl, ?_⟩
    · exact ⟨by omega, take_eq_go hs h1 (by omega) (aIt_ext h2)⟩
    · repeat (first | exact .nil | refine .cons rfl ?_)
    omega
  simp [-List.getD_eq_getElem?_getD] at h1
  refine AWP.exit ?_
  refine thenA_x ?_
  refine thenA_x ?_
  refine blockA_h ?_
  refine thenA_n ?_
  refine sr fun _ => ?_
  refine mz ?_
  refine AWP.ret ?_
  refine ρd ?_
  rw [decide_eq_true (by rw [List.take_of_length_le h1, List.take_of_length_le (by omega)] at hs; exact hs)]; rfl
end Go.Proofs.YtgebpndhnkkbgaaGreatDoor.Stk
namespace Go.Proofs.YtgebpndhnkkbgaaGreatDoor
set_option linter.unusedVariables false
set_option linter.unusedSimpArgs false
open NumP
set_option linter.unusedVariables false
set_option linter.unusedSimpArgs false
/-! ### the errors -/
theorem new_code (p : ByteArray) (e : Int) : (Er.new p e).code = e := by
  unfold Er.new
  split
  · rename_i h; rw [h]; rfl
  · rename_i h
    show (match (some e : Option Int) with | some c => if c = 0 then 2 else c | Option.none => 2) = e
    simp [h]
theorem errOf_code (op p : ByteArray) (e : Int) : (errOf op p e).code = e := by
  unfold errOf
  split
  · rename_i h; rw [h]; rfl
  · rename_i h
    show (match (some e : Option Int) with | some c => if c = 0 then 2 else c | Option.none => 2) = e
    simp [h]
theorem wrap_code (p : ByteArray) {e : Er} : (Er.wrap p e).code = e.code := by
  cases e <;> rfl
theorem takeErr_code (s : ByteArray) : (takeErr s).code = takeE s := by
  unfold takeErr takeE
  split
  · rw [wrap_code, errOf_code]
  · split
    · rw [new_code]
    · rw [wrap_code, new_code]
/-! ### replies -/
theorem repE_zero {r : Rp} (h : repE r = 0) : (0 ≤ r.code ∧ r.code ≤ 255) ∧ r.nums.length ≤ 20 ∧ nneg r.nums = true := by
  unfold repE at h
  split at h
  · cases h
  · rename_i h0
    exact ⟨by omega, by omega, by cases hh : nneg r.nums <;> simp_all⟩
theorem takeC_len (s : ByteArray) : (takeC s).lines.length ≤ 1000 := by
  unfold takeC
  split
  · have h1 := rdRow_len (sixR s 6) 10
    have : ∀ l : List Int, (pairsL l).length ≤ l.length := by
      intro l
      induction l using pairsL.induct with
      | case1 a b r ih => simp [pairsL]; omega
      | case2 t h => rw [show pairsL t = [] from by unfold pairsL; split <;> simp_all]; exact Nat.zero_le _
    exact Nat.le_trans (this _) h1
  · exact Nat.zero_le _
theorem putR_len (r : Rp) : (putR r).size ≤ 1000 := by
  unfold putR
  split
  · rename_i h
    rw [layR_ok h]
    have h1 := rowN_len r.nums
    have h2 := (repE_zero h).2.1
    have a1 := putN_len r.code
    show (bs _).size ≤ _
    rw [bs_size]; simp; omega
  · exact Nat.zero_le _
end Go.Proofs.YtgebpndhnkkbgaaGreatDoor
namespace Go.Proofs.YtgebpndhnkkbgaaGreatDoor
set_option linter.unusedVariables false
set_option linter.unusedSimpArgs false
open NumP
set_option linter.unusedVariables false
set_option linter.unusedSimpArgs false
abbrev Its := List StockP.It
abbrev Ses := List SessP.Se
abbrev St := Its × Ses
abbrev tF (l : Its) (id : Int) : StockP.It := (StockP.findT l id).1
def numsP (l : Its) (id : Int) : List Int := [(tF l id).free, (tF l id).held, (tF l id).gone]
def oneP (l : Its) (c : Cl) : Its × Int :=
  if c.kind = 1 then Stk.createP l c.item c.qty else if c.kind = 2 then StockP.withP (StockP.inG c.qty) l c.item c.qty else
  if c.kind = 3 then StockP.withP (StockP.holdG c.qty) l c.item c.qty else if c.kind = 4 then StockP.withP (StockP.freeG c.qty) l c.item c.qty else StockP.withP (StockP.shipG c.qty) l c.item c.qty
def oneR (l : Its) (c : Cl) : Its × Rp := if (oneP l c).2 = 0 then ((oneP l c).1, ⟨0, numsP (oneP l c).1 c.item⟩) else (l, ⟨(oneP l c).2, []⟩)
abbrev mvP (l : Its) (c : Cl) : Its × Int := Stk.moveP l c.item c.to_ c.qty
def moveR (l : Its) (c : Cl) : Its × Rp := if (mvP l c).2 = 0 then ((mvP l c).1, ⟨0, [(tF (mvP l c).1 c.item).free, (tF (mvP l c).1 c.to_).free]⟩) else (l, ⟨(mvP l c).2, []⟩)
def queryR (l : Its) (c : Cl) : Its × Rp := if (StockP.findT l c.item).2 = true then (l, ⟨0, numsP l c.item⟩) else (l, ⟨40, []⟩)
abbrev orP (l : Its) (c : Cl) : Its × Int × Int := StockP.allP Stk.holdF l c.lines
def orderR (l : Its) (c : Cl) : Its × Rp := if (orP l c).2.2 = 0 then ((orP l c).1, ⟨0, [StockP.totalP c.lines]⟩) else (l, ⟨(orP l c).2.2, [(orP l c).2.1]⟩)
def kindR (l : Its) (c : Cl) : Its × Rp := if c.kind = 6 then moveR l c else if c.kind = 7 then queryR l c else if c.kind = 8 then orderR l c else oneR l c
def doP (l : Its) (c : Cl) : Its × Rp := if Stk.okE l = 0 then (if checkP c = 0 then kindR l c else (l, ⟨checkP c, []⟩)) else (l, ⟨2, []⟩)
def chkP (s : St) : Int := if Stk.okE s.1 = 0 ∧ SessP.okE s.2 = 0 then 0 else 2
abbrev asP (s : St) (p : ByteArray) : ByteArray × Bool × Int := Ssn.askP s.2 (takeC p).client (takeC p).seq
abbrev nwP (s : St) (p : ByteArray) : SessP.Se := ⟨(takeC p).client, (takeC p).seq, putR (doP s.1 (takeC p)).2⟩
abbrev ntP (s : St) (p : ByteArray) : Ses × Int := Ssn.noteP s.2 (nwP s p)
def applyP (s : St) (p : ByteArray) : St × ByteArray :=
  if chkP s = 0 then
    if takeE p = 0 then
      if (asP s p).2.2 = 0 then
        if (asP s p).2.1 = true then (s, (asP s p).1) else (((doP s.1 (takeC p)).1, (ntP s p).1), putR (doP s.1 (takeC p)).2)
      else (s, putR ⟨(asP s p).2.2, []⟩)
    else (s, putR ⟨takeE p, []⟩)
  else (s, putR ⟨2, []⟩)
def stepP (a : St × List ByteArray) (p : ByteArray) : St × List ByteArray := ((applyP a.1 p).1, a.2 ++ [(applyP a.1 p).2])
def foldP (s : St) (l : List ByteArray) : St × List ByteArray := l.foldl stepP (s, [])
/-! ### what it keeps -/
theorem ok_len {l : Its} (h : StockP.ok l = true) : l.length ≤ 20 := StockP.ok_len h
theorem find_bd {l : Its} (h : StockP.ok l = true) (id : Int) : (0 ≤ (tF l id).free ∧ (tF l id).free ≤ 1000000) ∧ (0 ≤ (tF l id).held ∧ (tF l id).held ≤ 1000000) ∧ (0 ≤ (tF l id).gone ∧ (tF l id).gone ≤ 1000000) := by
  unfold tF
  cases hf : (StockP.findT l id).2 with
  | false => rw [Stk.find_no2 hf]; exact ⟨by decide, by decide, by decide⟩
  | true =>
    have := StockP.may_bd (Stk.found_may (q := 1) (by unfold StockP.askedB; rw [h]; decide) hf)
    omega
theorem nums_fit {l : Its} (h : StockP.ok l = true) (id : Int) : ∀ x, x ∈ numsP l id → 0 ≤ x ∧ x ≤ 5000000 := by
  intro x hx
  have := find_bd h id
  simp only [numsP, List.mem_cons, List.not_mem_nil, or_false] at hx
  rcases hx with rfl | rfl | rfl <;> omega
theorem one_ok {l : Its} {c : Cl} (h : (oneP l c).2 = 0) : StockP.ok (oneP l c).1 = true := by
  unfold oneP at h ⊢
  by_cases h1 : c.kind = 1
  · rw [if_pos h1] at h ⊢; exact (Stk.create_sums h).2.ok
  rw [if_neg h1] at h ⊢
  by_cases h2 : c.kind = 2
  · rw [if_pos h2] at h ⊢; exact (Stk.with_sums 0 c.qty h (Stk.in_g c.qty)).2.ok
  rw [if_neg h2] at h ⊢
  by_cases h3 : c.kind = 3
  · rw [if_pos h3] at h ⊢; exact (Stk.with_sums 0 0 h (Stk.hold_g c.qty)).2.ok
  rw [if_neg h3] at h ⊢
  by_cases h4 : c.kind = 4
  · rw [if_pos h4] at h ⊢; exact (Stk.with_sums 0 0 h (Stk.free_g c.qty)).2.ok
  rw [if_neg h4] at h ⊢
  exact (Stk.with_sums 0 0 h (Stk.ship_g c.qty)).2.ok
theorem goes_ok (m : List Ln) : ∀ (i : Int) (l : Its), StockP.ok l = true → (StockP.goesP Stk.holdF i l m).2.2 = 0 → StockP.ok (StockP.goesP Stk.holdF i l m).1 = true := by
  induction m with
  | nil => intro i l h _; exact h
  | cons x m ih =>
    intro i l h h0
    rw [StockP.goesP_cons] at h0 ⊢
    by_cases e : (Stk.holdF l x.item x.qty).2 ≠ 0
    · rw [if_pos e] at h0; exact absurd h0 e
    · rw [if_neg e] at h0 ⊢
      exact ih _ _ (Stk.with_sums 0 0 (by simpa using e) (Stk.hold_g x.qty)).2.ok h0
theorem order_ok {l : Its} {c : Cl} (h : (orP l c).2.2 = 0) : StockP.ok (orP l c).1 = true := by
  unfold orP StockP.allP at h ⊢
  by_cases e : StockP.ok l = true ∧ StockP.okL c.lines = true
  · rw [if_pos e] at h ⊢; exact goes_ok _ _ _ e.1 h
  · rw [if_neg e] at h; simp at h
theorem kind_ok {l : Its} {c : Cl} (h : StockP.ok l = true) : StockP.ok (kindR l c).1 = true := by
  unfold kindR
  split
  · unfold moveR; split
    · rename_i h1; exact (Stk.move_sums h1).2.ok
    · exact h
  · split
    · unfold queryR; split <;> exact h
    · split
      · unfold orderR; split
        · rename_i h1; exact order_ok h1
        · exact h
      · unfold oneR; split
        · rename_i h1; exact one_ok h1
        · exact h
theorem do_ok {l : Its} {c : Cl} (h : StockP.ok l = true) : StockP.ok (doP l c).1 = true := by
  unfold doP; split
  · split
    · exact kind_ok h
    · exact h
  · exact h
/-! ### its answers -/
theorem with_rng {g : StockP.It → StockP.It × Int} {l : Its} {id q : Int} (hg : ∀ x, 0 ≤ (g x).2 ∧ (g x).2 ≤ 255) : 0 ≤ (StockP.withP g l id q).2 ∧ (StockP.withP g l id q).2 ≤ 255 := by
  unfold StockP.withP
  split
  · split
    · split
      · exact (by constructor <;> first | decide | (dsimp only; decide))
      · exact hg _
    · exact (by constructor <;> first | decide | (dsimp only; decide))
  · exact (by constructor <;> first | decide | (dsimp only; decide))
theorem lent_rng (b c : Int) : 0 ≤ StockP.lentE b c ∧ StockP.lentE b c ≤ 255 := by unfold StockP.lentE; split <;> omega
theorem in_rng (q : Int) (x : StockP.It) : 0 ≤ (StockP.inG q x).2 ∧ (StockP.inG q x).2 ≤ 255 := by unfold StockP.inG; split <;> exact (by constructor <;> first | decide | (dsimp only; decide))
theorem create_rng (l : Its) (i q : Int) : 0 ≤ (Stk.createP l i q).2 ∧ (Stk.createP l i q).2 ≤ 255 := by
  unfold Stk.createP; split
  · split
    · exact (by constructor <;> first | decide | (dsimp only; decide))
    · split <;> exact (by constructor <;> first | decide | (dsimp only; decide))
  · exact (by constructor <;> first | decide | (dsimp only; decide))
theorem move_rng (l : Its) (a b q : Int) : 0 ≤ (Stk.moveP l a b q).2 ∧ (Stk.moveP l a b q).2 ≤ 255 := by
  unfold Stk.moveP; split
  · split
    · exact (by constructor <;> first | decide | (dsimp only; decide))
    · split
      · exact with_rng (in_rng q)
      · exact with_rng (fun x => lent_rng _ _)
  · exact (by constructor <;> first | decide | (dsimp only; decide))
theorem one_rng (l : Its) (c : Cl) : 0 ≤ (oneP l c).2 ∧ (oneP l c).2 ≤ 255 := by
  unfold oneP
  split
  · exact create_rng _ _ _
  · split
    · exact with_rng (in_rng _)
    · split
      · exact with_rng (fun x => lent_rng _ _)
      · split
        · exact with_rng (fun x => lent_rng _ _)
        · exact with_rng (fun x => lent_rng _ _)
theorem goes_rng (m : List Ln) : ∀ (i : Int) (l : Its), 0 ≤ i → (0 ≤ (StockP.goesP Stk.holdF i l m).2.2 ∧ (StockP.goesP Stk.holdF i l m).2.2 ≤ 255) ∧ (0 ≤ (StockP.goesP Stk.holdF i l m).2.1 ∧ (StockP.goesP Stk.holdF i l m).2.1 ≤ i + m.length) := by
  induction m with
  | nil => intro i l h; exact ⟨⟨(show (0 : Int) ≤ 0 by decide), (show (0 : Int) ≤ 255 by decide)⟩, by show 0 ≤ i; omega, by show i ≤ _; simp⟩
  | cons x m ih =>
    intro i l h
    rw [StockP.goesP_cons]
    split
    · exact ⟨with_rng (fun x => lent_rng _ _), h, by simp only [List.length_cons]; omega⟩
    · have := ih (i + 1) (Stk.holdF l x.item x.qty).1 (by omega)
      rw [List.length_cons]; omega
theorem order_rng (l : Its) (c : Cl) : (0 ≤ (orP l c).2.2 ∧ (orP l c).2.2 ≤ 255) ∧ (0 ≤ (orP l c).2.1 ∧ (orP l c).2.1 ≤ 5) := by
  unfold orP StockP.allP
  split
  · rename_i h
    have := goes_rng c.lines 0 l (by omega)
    have h2 := Stk.okL_len h.2
    omega
  · exact ⟨(by constructor <;> first | decide | (dsimp only; decide)), (by constructor <;> first | decide | (dsimp only; decide))⟩
theorem total_bd (m : List Ln) : 0 ≤ StockP.totalP m ∧ StockP.totalP m ≤ 5000000 := by
  unfold StockP.totalP
  split
  · rename_i h
    have h1 := Stk.sumF_bd h m.length (Nat.le_refl _)
    rw [List.take_length] at h1
    have h2 := Stk.okL_len h
    omega
  · exact (by constructor <;> first | decide | (dsimp only; decide))
structure Fine (r : Rp) : Prop where
  code : 0 ≤ r.code ∧ r.code ≤ 255
  len : r.nums.length ≤ 3
  fit : ∀ x, x ∈ r.nums → 0 ≤ x ∧ x ≤ 5000000
theorem Fine.bare {e : Int} (h : 0 ≤ e ∧ e ≤ 255) : Fine ⟨e, []⟩ := ⟨h, Nat.zero_le _, fun x hx => by cases hx⟩
theorem Fine.one {e n : Int} (h : 0 ≤ e ∧ e ≤ 255) (hn : 0 ≤ n ∧ n ≤ 5000000) : Fine ⟨e, [n]⟩ := ⟨h, Nat.le_add_left 1 2, fun x hx => by simp at hx; subst hx; exact hn⟩
theorem Fine.rep {r : Rp} (h : Fine r) : repE r = 0 := by
  unfold repE
  rw [if_neg]
  have h1 := h.code
  have h2 := h.len
  have h3 : nneg r.nums = true := nneg_of fun x hx => (h.fit x hx).1
  rw [h3]; simp; omega
theorem Fine.num {r : Rp} (h : Fine r) : ∀ x, x ∈ r.nums → -9223372036854775808 ≤ x ∧ x ≤ 9223372036854775807 := fun x hx => by have := h.fit x hx; omega
theorem Fine.small {r : Rp} (h : Fine r) : (putR r).size ≤ 100 := by
  have he := h.rep
  have hl := h.len
  have hn : nneg r.nums = true := nneg_of fun x hx => (h.fit x hx).1
  unfold putR
  rw [if_pos he, layR_ok he]
  unfold WrS.out
  rw [if_pos rfl]
  show ((putN r.code).1 ++ (rowN r.nums).1).length ≤ 100
  rw [List.length_append]
  have h1 := putN_len r.code
  unfold rowN
  rw [if_pos hn]
  have h2 := putN_len (r.nums.length : Int)
  have h3 := rowBytes_len r.nums
  rw [List.length_append]; omega
theorem kind_fine {l : Its} {c : Cl} (h : StockP.ok l = true) : Fine (kindR l c).2 := by
  unfold kindR
  split
  · unfold moveR; split
    · rename_i h1
      have hk := (Stk.move_sums h1).2.ok
      refine ⟨(by constructor <;> first | decide | (dsimp only; decide)), Nat.le_succ _, fun x hx => ?_⟩
      have b1 := find_bd hk c.item
      have b2 := find_bd hk c.to_
      simp only [List.mem_cons, List.not_mem_nil, or_false] at hx
      rcases hx with rfl | rfl
      · exact ⟨b1.1.1, Int.le_trans b1.1.2 (by decide)⟩
      · exact ⟨b2.1.1, Int.le_trans b2.1.2 (by decide)⟩
    · exact .bare (move_rng _ _ _ _)
  · split
    · unfold queryR; split
      · exact ⟨(by constructor <;> first | decide | (dsimp only; decide)), Nat.le_refl _, nums_fit h _⟩
      · exact .bare (by constructor <;> first | decide | (dsimp only; decide))
    · split
      · unfold orderR; split
        · exact .one (by constructor <;> first | decide | (dsimp only; decide)) (total_bd _)
        · have := order_rng l c
          exact .one this.1 (by omega)
      · unfold oneR; split
        · rename_i h1
          exact ⟨(by constructor <;> first | decide | (dsimp only; decide)), Nat.le_refl _, nums_fit (one_ok h1) _⟩
        · exact .bare (one_rng _ _)
theorem check_rng (c : Cl) : 0 ≤ checkP c ∧ checkP c ≤ 255 := by rcases check_two c with h | h | h <;> rw [h] <;> exact (by constructor <;> first | decide | (dsimp only; decide))
theorem do_fine (l : Its) (c : Cl) : Fine (doP l c).2 := by
  unfold doP; split
  · rename_i h
    split
    · exact kind_fine (Stk.okE_ok.1 h)
    · exact .bare (check_rng c)
  · exact .bare (by constructor <;> first | decide | (dsimp only; decide))
theorem do_len (l : Its) (c : Cl) (hl : l.length ≤ 60) : (doP l c).1.length ≤ 60 := by
  by_cases h : Stk.okE l = 0
  · have := ok_len (do_ok (c := c) (Stk.okE_ok.1 h)); omega
  · unfold doP; rw [if_neg h]; exact hl
theorem note_zero {s : St} {p : ByteArray} (ht : takeE p = 0) (hp : p.size ≤ 1000000) (h : (asP s p).2.2 = 0) (h2 : (asP s p).2.1 = false) : (ntP s p).2 = 0 := by
  unfold ntP Ssn.noteP
  have hm : SessP.may (nwP s p) = true := by
    have ha := (Ssn.askP_ok h).2
    have hsz := (do_fine s.1 (takeC p)).small
    rw [Ssn.may_iff]
    have n1 := Ssn.numB_iff (takeC p).client
    have n2 := Ssn.numB_iff (takeC p).seq
    refine ⟨?_, ?_, ?_⟩
    · exact n1.1 ha.1
    · exact n2.1 ha.2
    · show ((putR (doP s.1 (takeC p)).2).size : Int) ≤ 300; omega
  rw [if_pos h, if_pos hm, if_neg (by rw [show (Ssn.askP s.2 (nwP s p).client (nwP s p).seq).2.1 = (asP s p).2.1 from rfl, h2]; simp)]
theorem ses_len {l : Ses} (h : SessP.okE l = 0) : l.length ≤ 20 := (Ssn.okE_ok h).1
theorem apply_len (s : St) (p : ByteArray) (hp : p.size ≤ 1000000) (h1 : s.1.length ≤ 60) (h2 : s.2.length ≤ 60) : (applyP s p).1.1.length ≤ 60 ∧ (applyP s p).1.2.length ≤ 60 := by
  unfold applyP
  split
  · split
    · rename_i ht
      split
      · rename_i ha
        split
        · exact ⟨h1, h2⟩
        · rename_i hg
          have := ses_len (Ssn.note_ok (note_zero ht hp ha (by simpa using hg)))
          exact ⟨do_len _ _ h1, Nat.le_trans this (by decide)⟩
      · exact ⟨h1, h2⟩
    · exact ⟨h1, h2⟩
  · exact ⟨h1, h2⟩
theorem fold_snoc (s : St) (l : List ByteArray) (x : ByteArray) : foldP s (l ++ [x]) = stepP (foldP s l) x := by unfold foldP; rw [List.foldl_append]; rfl
theorem fold_at (s : St) (l : List ByteArray) (k : Nat) (h : k < l.length) : foldP s (l.take (k + 1)) = stepP (foldP s (l.take k)) (l.getD k default) := by
  rw [List.take_succ_eq_append_getElem h, fold_snoc]; simp [List.getD, h]
theorem fold_len (s : St) (l : List ByteArray) (hl : ∀ x, x ∈ l → x.size ≤ 1000000) (h1 : s.1.length ≤ 60) (h2 : s.2.length ≤ 60) : ∀ k, k ≤ l.length → ((foldP s (l.take k)).1.1.length ≤ 60 ∧ (foldP s (l.take k)).1.2.length ≤ 60) ∧ (foldP s (l.take k)).2.length = k := by
  intro k
  induction k with
  | zero => intro _; exact ⟨⟨h1, h2⟩, rfl⟩
  | succ k ih =>
    intro hk
    obtain ⟨⟨i1, i2⟩, i3⟩ := ih (by omega)
    rw [fold_at s l k (by omega)]
    have hx : (l.getD k default).size ≤ 1000000 := by rw [show l.getD k default = l[k] from by simp [List.getD, show k < l.length by omega]]; exact hl _ (List.getElem_mem _)
    refine ⟨apply_len _ _ hx i1 i2, ?_⟩
    show ((foldP s (l.take k)).2 ++ [_]).length = k + 1
    rw [List.length_append, i3]; rfl
end Go.Proofs.YtgebpndhnkkbgaaGreatDoor
namespace Go.Proofs.YtgebpndhnkkbgaaGreatDoor
set_option linter.unusedVariables false
set_option linter.unusedSimpArgs false
open Go.RowKit
open NumP
set_option maxRecDepth 100000
theorem numb_R (n : Int) : (decide (n > 0) && decide (n < 100000)) = numbP n := by
  unfold numbP
  rw [show decide (1 ≤ n) = decide (n > 0) from decide_eq_decide.2 (by omega), show decide (n ≤ 99999) = decide (n < 100000) from decide_eq_decide.2 (by omega)]
def plainP (c : Cl) (lo hi : Int) : Bool := numbP c.item && decide (c.to_ = 0) && decide (lo ≤ c.qty) && decide (c.qty ≤ hi) && decide (c.lines.length = 0)
theorem plain_one (c : Cl) : plainP c 0 1000000 = (bareP c && (decide (c.qty = 0) || someP c.qty)) := by
  unfold plainP bareP someP
  have h : (decide (0 ≤ c.qty) && decide (c.qty ≤ 1000000)) = (decide (c.qty = 0) || (decide (1 ≤ c.qty) && decide (c.qty ≤ 1000000))) := by rw [Bool.eq_iff_iff]; simp; omega
  rw [← h]
  generalize numbP c.item = a; generalize decide (c.to_ = 0) = b; generalize decide (c.lines.length = 0) = d; generalize decide (0 ≤ c.qty) = e; generalize decide (c.qty ≤ 1000000) = f
  cases a <;> cases b <;> cases d <;> cases e <;> cases f <;> rfl
theorem plain_some (c : Cl) : plainP c 1 1000000 = (bareP c && someP c.qty) := by
  unfold plainP bareP someP
  generalize numbP c.item = a; generalize decide (c.to_ = 0) = b; generalize decide (c.lines.length = 0) = d; generalize decide (1 ≤ c.qty) = e; generalize decide (c.qty ≤ 1000000) = f
  cases a <;> cases b <;> cases d <;> cases e <;> cases f <;> rfl
theorem plain_none (c : Cl) : plainP c 0 0 = (bareP c && decide (c.qty = 0)) := by
  unfold plainP bareP
  have h : (decide (0 ≤ c.qty) && decide (c.qty ≤ 0)) = decide (c.qty = 0) := by rw [Bool.eq_iff_iff]; simp; omega
  rw [← h]
  generalize numbP c.item = a; generalize decide (c.to_ = 0) = b; generalize decide (c.lines.length = 0) = d; generalize decide (0 ≤ c.qty) = e; generalize decide (c.qty ≤ 0) = f
  cases a <;> cases b <;> cases d <;> cases e <;> cases f <;> rfl
theorem linesP_out {l : List Ln} (h : l.length = 0 ∨ 5 < l.length) : linesP l = false := by
  unfold linesP
  rcases h with h | h
  · rw [h]; rfl
  rw [decide_eq_false (show ¬ l.length ≤ 5 by omega)]; simp
theorem linesP_all {l : List Ln} (h : 0 < l.length ∧ l.length ≤ 5) (h2 : ∀ k, k < l.length → okAt l k = true) : linesP l = true := by
  rw [linesP_yes h2, decide_eq_true h.1, decide_eq_true h.2]; rfl
set_option maxHeartbeats 1000000 in
theorem numberR_fn (n : Int) : FnP Tryz.prog 72 [.int .i64 n] (.bool (numbP n)) := by
  refine FnP.of Tryz.func72 rfl rfl (by simp) (by simp [AV.cells, aIn, aOut, aLn, aCl, aRp]) (fun G hG => ?_)
  have hN : NoH G.length (.bool (numbP n)) := (by simp [AV.cells, aIn, aOut, aLn, aCl, aRp])
  refine sr fun _ => ?_
  refine mz ?_
  refine sr fun _ => ?_
  refine mv ?_
  refine ρ1 ?_
  refine mv ?_
  refine ρj ?_
  refine ρ6 ?_
  refine ρ0 ?_
  refine mz ?_
  refine AWP.ret ?_
  refine ρd ?_
  rw [← numb_R n]
set_option maxHeartbeats 1000000 in
theorem plainR_fn (c : Cl) (lo hi : Int) : FnP Tryz.prog 73 [aCl c, .int .i64 lo, .int .i64 hi] (.bool (plainP c lo hi)) := by
  refine FnP.of Tryz.func73 rfl rfl (by simp) (by simp [AV.cells, aIn, aOut, aLn, aCl, aRp]) (fun G hG => ?_)
  have hN : NoH G.length (.bool (plainP c lo hi)) := (by simp [AV.cells, aIn, aOut, aLn, aCl, aRp])
  refine sr fun _ => ?_
  refine ρy ?_
  refine mz ?_
  refine sr fun _ => ?_
  refine ρ5 U25 sz3 ?_
  refine ρb U3 ?_
  refine ρl cf72 (fun hg => numberR_fn c.item) ?_
  refine mv ?_
  refine ρ8 U25 sz3 ?_
  refine ρ3 U3 ?_
  refine ρ6 ?_
  refine ρ0 ?_
  refine mv ?_
  refine ρ8 U25 sz3 ?_
  refine ρ3 U3 ?_
  refine ρj ?_
  refine ρv ?_
  refine ρ0 ?_
  refine mv ?_
  refine ρ8 U25 sz3 ?_
  refine ρ3 U3 ?_
  refine ρj ?_
  refine ρv ?_
  refine ρ0 ?_
  refine mv ?_
  refine ρ8 U25 sz23 ?_
  refine ρ3 U23 ?_
  refine ARun.lenSl rfl rfl rfl rfl U23 (Ev.opt rfl (fun h => h)) optS ?_
  refine ρ6 ?_
  refine ρ0 ?_
  refine mz ?_
  refine AWP.ret ?_
  refine ρd ?_
  simp [plainP]
set_option maxHeartbeats 1000000 in
theorem linesR_fn (l : List Ln) (hl : l.length ≤ 100000) : FnP Tryz.prog 74 [.sl (l.map aLn)] (.bool (linesP l)) := by
  refine FnP.of Tryz.func74 rfl rfl (by simp) (by simp [AV.cells, aIn, aOut, aLn, aCl, aRp]) (fun G hG => ?_)
  have hN : NoH G.length (.bool (linesP l)) := (by simp [AV.cells, aIn, aOut, aLn, aCl, aRp])
  refine sr fun _ => ?_
  refine mz ?_
  refine AWP.seq ?_
  refine sr fun _ => ?_
  refine mv ?_
  refine ρw U23 ?_
  refine ρ1 ?_
  refine mv ?_
  refine ρj ?_
  refine ARun.lenSl rfl rfl rfl rfl U23 (Ev.opt rfl (fun h => h)) optS ?_
  refine ρ6 ?_
  refine ρ4 ?_
  refine ez ?_
  refine ρn (fun h0 => ?_) (fun h0 => ?_)
  · have hlen : l.length = 0 ∨ 5 < l.length := by simp only [List.length_map, Bool.or_eq_true, decide_eq_true_eq] at h0; omega
    refine sr fun _ => ?_
    refine mz ?_
    refine AWP.ret (thenA_r ?_)
    refine ρd ?_
    rw [linesP_out hlen]; rfl
  have hlen : 0 < l.length ∧ l.length ≤ 5 := by simp only [List.length_map, Bool.or_eq_false_iff, decide_eq_false_iff_not] at h0; omega
  refine AWP.skip (thenA_n (AWP.seq ?_))
  refine sr fun _ => ?_
  refine mz ?_
  refine AWP.block ?_
  refine AWP.rounds (fun k => k ≤ l.length ∧ ∀ j, j < k → okAt l j = true) (fun k => [(0, .sl (l.map aLn)), (3, .int .i64 (k : Int))]) (fun k => []) (fun k => l.length - k) 0 0 ⟨by omega, fun j h => by omega⟩ (by repeat (first | exact .nil | refine .cons rfl ?_)) rfl (fun _ => rfl) (fun _ => ⟨by simp [AV.cells, aLn], by simp⟩) (fun k hI => ?_)
  obtain ⟨hk, hno⟩ := hI
  refine AWP.seq ?_
  refine sr fun _ => ?_
  refine mv ?_
  refine mv ?_
  refine ρw U23 ?_
  refine ρ1 ?_
  refine ez ?_
  refine ρn (fun h1 => ?_) (fun h1 => ?_)
  · try simp [-List.getD_eq_getElem?_getD] at h1
    refine AWP.skip (thenA_n ?_)
    refine AWP.seq (AWP.block (AWP.seq ?_))
    refine AWP.draw mixed (by kernel_rfl) (fun _ => ?_)
    refine mv ?_
    refine mv ?_
    first | refine ρh U23 sz108 ?_ | refine ρa U23 sz108 ?_
    refine ρ5 U108 sz3 ?_
    refine ρb U3 ?_
    refine ρl cf72 (fun hg => numberR_fn (l.getD k default).item) ?_
    refine ρA ?_
    refine mv ?_
    refine ρj ?_
    refine ρj ?_
    first | refine ρx U23 sz108 ?_ | refine ρt U23 sz108 ?_
    refine ρz U108 sz3 ?_
    refine ρ3 U3 ?_
    refine ρ6 ?_
    refine ρ4 ?_
    refine mv ?_
    refine ρj ?_
    refine ρj ?_
    first | refine ρx U23 sz108 ?_ | refine ρt U23 sz108 ?_
    refine ρz U108 sz3 ?_
    refine ρ3 U3 ?_
    refine ρ6 ?_
    refine ρ4 ?_
    refine mv ?_
    refine ρj ?_
    refine ρ6 ?_
    refine ARun.move (.inl rfl) rfl rfl rfl (Ev.opt rfl (fun h => h)) optS ?_
    refine ρj ?_
    refine ρj ?_
    first | refine ρx U23 sz108 ?_ | refine ρt U23 sz108 ?_
    refine ρz U108 sz3 ?_
    refine ρ3 U3 ?_
    refine ρj ?_
    refine ρj ?_
    first | refine ARun.arith rfl rfl rfl rfl (Ev.opt rfl (fun h => h)) (ep rfl) rfl (fun hg => i64w (by (try simp at hg); omega)) optS ?_ | refine ARun.arith rfl rfl rfl rfl (Ev.opt rfl (fun h => h)) (ep rfl) rfl (fun _ => rfl) optS ?_
    first | refine ρx U23 sz108 ?_ | refine ρt U23 sz108 ?_
    refine ρz U108 sz3 ?_
    refine ρ3 U3 ?_
    refine ρv ?_
    refine ARun.pick rfl rfl rfl rfl (Ev.opt rfl (fun h => h)) (Ev.opt rfl (by first | exact pkT | exact pkT2 | simp +contextual)) (ep rfl) (andB _ _) optS ?_
    refine ρ4 ?_
    refine ⟨by kernel_rfl, _, _, rfl, hG, ?_⟩
    refine thenA_n ?_
    refine ρn (fun h2 => ?_) (fun h2 => ?_)
    · rw [okAt_nR l k (l.getD ((k : Int) - 1).toNat default).item (fun hk0 => by rw [show ((k : Int) - 1).toNat = k - 1 by omega])] at h2
      refine sr fun _ => ?_
      refine mz ?_
      refine AWP.ret (blockA_r ?_)
      refine thenA_r (thenA_r ?_)
      refine blockA_r (thenA_r ?_)
      refine ρd ?_
      rw [linesP_no (by omega) (by simpa using h2)]; rfl
    rw [okAt_nR l k (l.getD ((k : Int) - 1).toNat default).item (fun hk0 => by rw [show ((k : Int) - 1).toNat = k - 1 by omega])] at h2
    refine AWP.skip (blockA_n (thenA_n ?_))
    refine AWP.region (fun _ => ?_)
    refine mv ?_
    first | refine ρc ?_ | refine ρk ?_
    refine ma ?_
    refine ⟨_, _, rfl, hG, ?_⟩
    refine thenA_n ⟨rfl, k + 1, _, ?_, ?_, rfl, ?_⟩
    · refine ⟨by omega, fun j hj => ?_⟩
      by_cases e : j = k
      · subst e; simpa using h2
      exact hno j (by omega)
    · repeat (first | exact .nil | refine .cons rfl ?_)
    omega
  try simp [-List.getD_eq_getElem?_getD] at h1
  refine AWP.exit ?_
  refine thenA_x ?_
  refine thenA_x ?_
  refine blockA_h ?_
  refine thenA_n ?_
  refine sr fun _ => ?_
  refine mz ?_
  refine AWP.ret ?_
  refine ρd ?_
  rw [linesP_all hlen (fun j hj => hno j (by omega))]; rfl
set_option maxHeartbeats 1000000 in
theorem checkR_fn (c : Cl) (hl : c.lines.length ≤ 100000) : FnP Tryz.prog 32 [aCl c] (.int .i64 (checkP c)) := by
  have hcm : (c.item = c.to_) ↔ (c.to_ = c.item) := eq_comm
  refine FnP.of Tryz.func32 rfl rfl (by simp) (by simp [AV.cells, aIn, aOut, aLn, aCl, aRp]) (fun G hG => ?_)
  have hN : NoH G.length (.int .i64 (checkP c)) := (by simp [AV.cells, aIn, aOut, aLn, aCl, aRp])
  refine sr fun _ => ?_
  refine ρy ?_
  refine mz ?_
  refine sr fun _ => ?_
  refine ρ5 U25 sz3 ?_
  refine ρb U3 ?_
  refine ρl cf72 (fun hg => numberR_fn c.client) ?_
  refine mv ?_
  refine ρ8 U25 sz3 ?_
  refine ρ3 U3 ?_
  refine ρm cf72 (fun hg => numberR_fn c.seq) ?_
  refine ρ0 ?_
  refine mz ?_
  refine AWP.seq ?_
  refine sr fun _ => ?_
  refine ρ5 U25 sz3 ?_
  refine ρb U3 ?_
  refine ez ?_
  refine AWP.block ?_
  refine sr fun _ => ?_
  refine ρ1 ?_
  refine mz ?_
  refine ρn (fun h0 => ?_) (fun h0 => ?_)
  · simp at h0
    refine AWP.region (fun _ => ?_)
    refine mv ?_
    refine mv ?_
    refine ARun.loadPeA rfl rfl rfl rfl U25 rfl sz25 (ep rfl) rfl optS ?_
    refine ARun.call rfl rfl rfl rfl cf73 (ep rfl) (.cons (Ev.opt rfl (fun h => h)) (.cons (ep rfl) (.cons (ep rfl) .nil))) rfl (fun hg => plainR_fn c 0 1000000) optS ?_
    refine ρ0 ?_
    refine ma ?_
    refine ⟨_, _, rfl, hG, ?_⟩
    refine blockA_n (thenA_n (AWP.seq ?_))
    refine sr fun _ => ?_
    refine mv ?_
    refine ρA ?_
    refine ez ?_
    refine ρn (fun h1 => ?_) (fun h1 => ?_)
    · simp at h1
      refine sr fun _ => ?_
      refine mz ?_
      refine AWP.ret (thenA_r ?_)
      refine ρd ?_
      refine congrArg (AV.int .i64) (?_ : _ = checkP c)
      simp_all [checkP, mayP, plain_one, plain_some, plain_none, someP] <;> (intros; first | omega | (simp_all; done) | (simp_all; refine Or.resolve_left (by assumption) (?_ : ¬ (c.qty < 1 ∨ 1000000 < c.qty)); omega))
    simp at h1
    refine AWP.skip (thenA_n ?_)
    refine sr fun _ => ?_
    refine mz ?_
    refine AWP.ret ?_
    refine ρd ?_
    refine congrArg (AV.int .i64) (?_ : _ = checkP c)
    simp_all [checkP, mayP, plain_one, plain_some, plain_none, someP] <;> (intros; first | omega | (simp_all; done) | (simp_all; refine Or.resolve_left (by assumption) (?_ : ¬ (c.qty < 1 ∨ 1000000 < c.qty)); omega))
  simp at h0
  refine AWP.seq ?_
  refine sr fun _ => ?_
  refine ρ1 ?_
  refine mz ?_
  refine ρn (fun h2 => ?_) (fun h2 => ?_)
  · simp at h2
    refine AWP.skip (thenA_n ?_)
    refine ρn (fun h3 => ?_) (fun h3 => ?_)
    · simp at h3
      refine AWP.region (fun _ => ?_)
      refine mv ?_
      refine mv ?_
      refine ARun.loadPeA rfl rfl rfl rfl U25 rfl sz25 (ep rfl) rfl optS ?_
      refine ARun.call rfl rfl rfl rfl cf73 (ep rfl) (.cons (Ev.opt rfl (fun h => h)) (.cons (ep rfl) (.cons (ep rfl) .nil))) rfl (fun hg => plainR_fn c 1 1000000) optS ?_
      refine ρ0 ?_
      refine ma ?_
      refine ⟨_, _, rfl, hG, ?_⟩
      refine blockA_n (thenA_n (AWP.seq ?_))
      refine sr fun _ => ?_
      refine mv ?_
      refine ρA ?_
      refine ez ?_
      refine ρn (fun h4 => ?_) (fun h4 => ?_)
      · simp at h4
        refine sr fun _ => ?_
        refine mz ?_
        refine AWP.ret (thenA_r ?_)
        refine ρd ?_
        refine congrArg (AV.int .i64) (?_ : _ = checkP c)
        simp_all [checkP, mayP, plain_one, plain_some, plain_none, someP] <;> (intros; first | omega | (simp_all; done) | (simp_all; refine Or.resolve_left (by assumption) (?_ : ¬ (c.qty < 1 ∨ 1000000 < c.qty)); omega))
      simp at h4
      refine AWP.skip (thenA_n ?_)
      refine sr fun _ => ?_
      refine mz ?_
      refine AWP.ret ?_
      refine ρd ?_
      refine congrArg (AV.int .i64) (?_ : _ = checkP c)
      simp_all [checkP, mayP, plain_one, plain_some, plain_none, someP] <;> (intros; first | omega | (simp_all; done) | (simp_all; refine Or.resolve_left (by assumption) (?_ : ¬ (c.qty < 1 ∨ 1000000 < c.qty)); omega))
    simp at h3
    refine sr fun _ => ?_
    refine ρ1 ?_
    refine mz ?_
    refine ρn (fun h5 => ?_) (fun h5 => ?_)
    · simp at h5
      refine AWP.region (fun _ => ?_)
      refine mv ?_
      refine mv ?_
      refine ρ8 U25 sz3 ?_
      refine ρ3 U3 ?_
      refine ρm cf72 (fun hg => numberR_fn c.item) ?_
      refine ρ0 ?_
      refine mv ?_
      refine ρ8 U25 sz3 ?_
      refine ρ3 U3 ?_
      refine ρm cf72 (fun hg => numberR_fn c.to_) ?_
      refine ρ0 ?_
      refine mv ?_
      refine ρ8 U25 sz3 ?_
      refine ρ3 U3 ?_
      refine ρ8 U25 sz3 ?_
      refine ρ3 U3 ?_
      refine ρv ?_
      refine ρ0 ?_
      refine mv ?_
      refine ρ8 U25 sz3 ?_
      refine ρ3 U3 ?_
      refine ρ6 ?_
      refine ρ0 ?_
      refine mv ?_
      refine ρ8 U25 sz3 ?_
      refine ρ3 U3 ?_
      refine ρ6 ?_
      refine ρ0 ?_
      refine mv ?_
      refine ρ8 U25 sz23 ?_
      refine ρ3 U23 ?_
      refine ARun.lenSl rfl rfl rfl rfl U23 (Ev.opt rfl (fun h => h)) optS ?_
      refine ρ6 ?_
      refine ρ0 ?_
      refine ma ?_
      refine ⟨_, _, rfl, hG, ?_⟩
      refine blockA_n (thenA_n (AWP.seq ?_))
      refine sr fun _ => ?_
      refine mv ?_
      refine ρA ?_
      refine ez ?_
      refine ρn (fun h6 => ?_) (fun h6 => ?_)
      · simp at h6
        refine sr fun _ => ?_
        refine mz ?_
        refine AWP.ret (thenA_r ?_)
        refine ρd ?_
        refine congrArg (AV.int .i64) (?_ : _ = checkP c)
        simp_all [checkP, mayP, plain_one, plain_some, plain_none, someP] <;> (intros; first | omega | (simp_all; done) | (simp_all; refine Or.resolve_left (by assumption) (?_ : ¬ (c.qty < 1 ∨ 1000000 < c.qty)); omega))
      simp at h6
      refine AWP.skip (thenA_n ?_)
      refine sr fun _ => ?_
      refine mz ?_
      refine AWP.ret ?_
      refine ρd ?_
      refine congrArg (AV.int .i64) (?_ : _ = checkP c)
      simp_all [checkP, mayP, plain_one, plain_some, plain_none, someP] <;> (intros; first | omega | (simp_all; done) | (simp_all; refine Or.resolve_left (by assumption) (?_ : ¬ (c.qty < 1 ∨ 1000000 < c.qty)); omega))
    simp at h5
    refine sr fun _ => ?_
    refine ρ1 ?_
    refine mz ?_
    refine ρn (fun h7 => ?_) (fun h7 => ?_)
    · simp at h7
      refine AWP.region (fun _ => ?_)
      refine mv ?_
      refine mv ?_
      refine ARun.loadPeA rfl rfl rfl rfl U25 rfl sz25 (ep rfl) rfl optS ?_
      refine ARun.call rfl rfl rfl rfl cf73 (ep rfl) (.cons (Ev.opt rfl (fun h => h)) (.cons (ep rfl) (.cons (ep rfl) .nil))) rfl (fun hg => plainR_fn c 0 0) optS ?_
      refine ρ0 ?_
      refine ma ?_
      refine ⟨_, _, rfl, hG, ?_⟩
      refine blockA_n (thenA_n (AWP.seq ?_))
      refine sr fun _ => ?_
      refine mv ?_
      refine ρA ?_
      refine ez ?_
      refine ρn (fun h8 => ?_) (fun h8 => ?_)
      · simp at h8
        refine sr fun _ => ?_
        refine mz ?_
        refine AWP.ret (thenA_r ?_)
        refine ρd ?_
        refine congrArg (AV.int .i64) (?_ : _ = checkP c)
        simp_all [checkP, mayP, plain_one, plain_some, plain_none, someP] <;> (intros; first | omega | (simp_all; done) | (simp_all; refine Or.resolve_left (by assumption) (?_ : ¬ (c.qty < 1 ∨ 1000000 < c.qty)); omega))
      simp at h8
      refine AWP.skip (thenA_n ?_)
      refine sr fun _ => ?_
      refine mz ?_
      refine AWP.ret ?_
      refine ρd ?_
      refine congrArg (AV.int .i64) (?_ : _ = checkP c)
      simp_all [checkP, mayP, plain_one, plain_some, plain_none, someP] <;> (intros; first | omega | (simp_all; done) | (simp_all; refine Or.resolve_left (by assumption) (?_ : ¬ (c.qty < 1 ∨ 1000000 < c.qty)); omega))
    simp at h7
    refine sr fun _ => ?_
    refine ρ1 ?_
    refine mz ?_
    refine ρn (fun h9 => ?_) (fun h9 => ?_)
    · simp at h9
      refine AWP.region (fun _ => ?_)
      refine mv ?_
      refine mv ?_
      refine ρ8 U25 sz3 ?_
      refine ρ3 U3 ?_
      refine ρ6 ?_
      refine ρ0 ?_
      refine mv ?_
      refine ρ8 U25 sz3 ?_
      refine ρ3 U3 ?_
      refine ρ6 ?_
      refine ρ0 ?_
      refine mv ?_
      refine ρ8 U25 sz3 ?_
      refine ρ3 U3 ?_
      refine ρ6 ?_
      refine ρ0 ?_
      refine mv ?_
      refine ρ8 U25 sz23 ?_
      refine ρ3 U23 ?_
      refine ρm cf74 (fun hg => linesR_fn c.lines hl) ?_
      refine ρ0 ?_
      refine ma ?_
      refine ⟨_, _, rfl, hG, ?_⟩
      refine blockA_n (thenA_n (AWP.seq ?_))
      refine sr fun _ => ?_
      refine mv ?_
      refine ρA ?_
      refine ez ?_
      refine ρn (fun h10 => ?_) (fun h10 => ?_)
      · simp at h10
        refine sr fun _ => ?_
        refine mz ?_
        refine AWP.ret (thenA_r ?_)
        refine ρd ?_
        refine congrArg (AV.int .i64) (?_ : _ = checkP c)
        simp_all [checkP, mayP, plain_one, plain_some, plain_none, someP] <;> (intros; first | omega | (simp_all; done) | (simp_all; refine Or.resolve_left (by assumption) (?_ : ¬ (c.qty < 1 ∨ 1000000 < c.qty)); omega))
      simp at h10
      refine AWP.skip (thenA_n ?_)
      refine sr fun _ => ?_
      refine mz ?_
      refine AWP.ret ?_
      refine ρd ?_
      refine congrArg (AV.int .i64) (?_ : _ = checkP c)
      simp_all [checkP, mayP, plain_one, plain_some, plain_none, someP] <;> (intros; first | omega | (simp_all; done) | (simp_all; refine Or.resolve_left (by assumption) (?_ : ¬ (c.qty < 1 ∨ 1000000 < c.qty)); omega))
    simp at h9
    refine sr fun _ => ?_
    refine mz ?_
    refine AWP.ret (blockA_r (thenA_r ?_))
    refine ρd ?_
    refine congrArg (AV.int .i64) (?_ : _ = checkP c)
    simp_all [checkP, mayP, plain_one, plain_some, plain_none, someP] <;> (intros; first | omega | (simp_all; done) | (simp_all; refine Or.resolve_left (by assumption) (?_ : ¬ (c.qty < 1 ∨ 1000000 < c.qty)); omega))
  simp at h2
  refine sr fun _ => ?_
  refine ρ1 ?_
  refine mz ?_
  refine ρn (fun h11 => ?_) (fun h11 => ?_)
  · simp at h11
    refine AWP.skip (thenA_n ?_)
    refine ρn (fun h12 => ?_) (fun h12 => ?_)
    · simp at h12
      refine AWP.region (fun _ => ?_)
      refine mv ?_
      refine mv ?_
      refine ARun.loadPeA rfl rfl rfl rfl U25 rfl sz25 (ep rfl) rfl optS ?_
      refine ARun.call rfl rfl rfl rfl cf73 (ep rfl) (.cons (Ev.opt rfl (fun h => h)) (.cons (ep rfl) (.cons (ep rfl) .nil))) rfl (fun hg => plainR_fn c 1 1000000) optS ?_
      refine ρ0 ?_
      refine ma ?_
      refine ⟨_, _, rfl, hG, ?_⟩
      refine blockA_n (thenA_n (AWP.seq ?_))
      refine sr fun _ => ?_
      refine mv ?_
      refine ρA ?_
      refine ez ?_
      refine ρn (fun h13 => ?_) (fun h13 => ?_)
      · simp at h13
        refine sr fun _ => ?_
        refine mz ?_
        refine AWP.ret (thenA_r ?_)
        refine ρd ?_
        refine congrArg (AV.int .i64) (?_ : _ = checkP c)
        simp_all [checkP, mayP, plain_one, plain_some, plain_none, someP] <;> (intros; first | omega | (simp_all; done) | (simp_all; refine Or.resolve_left (by assumption) (?_ : ¬ (c.qty < 1 ∨ 1000000 < c.qty)); omega))
      simp at h13
      refine AWP.skip (thenA_n ?_)
      refine sr fun _ => ?_
      refine mz ?_
      refine AWP.ret ?_
      refine ρd ?_
      refine congrArg (AV.int .i64) (?_ : _ = checkP c)
      simp_all [checkP, mayP, plain_one, plain_some, plain_none, someP] <;> (intros; first | omega | (simp_all; done) | (simp_all; refine Or.resolve_left (by assumption) (?_ : ¬ (c.qty < 1 ∨ 1000000 < c.qty)); omega))
    simp at h12
    refine sr fun _ => ?_
    refine ρ1 ?_
    refine mz ?_
    refine ρn (fun h14 => ?_) (fun h14 => ?_)
    · simp at h14
      refine AWP.region (fun _ => ?_)
      refine mv ?_
      refine mv ?_
      refine ρ8 U25 sz3 ?_
      refine ρ3 U3 ?_
      refine ρm cf72 (fun hg => numberR_fn c.item) ?_
      refine ρ0 ?_
      refine mv ?_
      refine ρ8 U25 sz3 ?_
      refine ρ3 U3 ?_
      refine ρm cf72 (fun hg => numberR_fn c.to_) ?_
      refine ρ0 ?_
      refine mv ?_
      refine ρ8 U25 sz3 ?_
      refine ρ3 U3 ?_
      refine ρ8 U25 sz3 ?_
      refine ρ3 U3 ?_
      refine ρv ?_
      refine ρ0 ?_
      refine mv ?_
      refine ρ8 U25 sz3 ?_
      refine ρ3 U3 ?_
      refine ρ6 ?_
      refine ρ0 ?_
      refine mv ?_
      refine ρ8 U25 sz3 ?_
      refine ρ3 U3 ?_
      refine ρ6 ?_
      refine ρ0 ?_
      refine mv ?_
      refine ρ8 U25 sz23 ?_
      refine ρ3 U23 ?_
      refine ARun.lenSl rfl rfl rfl rfl U23 (Ev.opt rfl (fun h => h)) optS ?_
      refine ρ6 ?_
      refine ρ0 ?_
      refine ma ?_
      refine ⟨_, _, rfl, hG, ?_⟩
      refine blockA_n (thenA_n (AWP.seq ?_))
      refine sr fun _ => ?_
      refine mv ?_
      refine ρA ?_
      refine ez ?_
      refine ρn (fun h15 => ?_) (fun h15 => ?_)
      · simp at h15
        refine sr fun _ => ?_
        refine mz ?_
        refine AWP.ret (thenA_r ?_)
        refine ρd ?_
        refine congrArg (AV.int .i64) (?_ : _ = checkP c)
        simp_all [checkP, mayP, plain_one, plain_some, plain_none, someP] <;> (intros; first | omega | (simp_all; done) | (simp_all; refine Or.resolve_left (by assumption) (?_ : ¬ (c.qty < 1 ∨ 1000000 < c.qty)); omega))
      simp at h15
      refine AWP.skip (thenA_n ?_)
      refine sr fun _ => ?_
      refine mz ?_
      refine AWP.ret ?_
      refine ρd ?_
      refine congrArg (AV.int .i64) (?_ : _ = checkP c)
      simp_all [checkP, mayP, plain_one, plain_some, plain_none, someP] <;> (intros; first | omega | (simp_all; done) | (simp_all; refine Or.resolve_left (by assumption) (?_ : ¬ (c.qty < 1 ∨ 1000000 < c.qty)); omega))
    simp at h14
    refine sr fun _ => ?_
    refine ρ1 ?_
    refine mz ?_
    refine ρn (fun h16 => ?_) (fun h16 => ?_)
    · simp at h16
      refine AWP.region (fun _ => ?_)
      refine mv ?_
      refine mv ?_
      refine ARun.loadPeA rfl rfl rfl rfl U25 rfl sz25 (ep rfl) rfl optS ?_
      refine ARun.call rfl rfl rfl rfl cf73 (ep rfl) (.cons (Ev.opt rfl (fun h => h)) (.cons (ep rfl) (.cons (ep rfl) .nil))) rfl (fun hg => plainR_fn c 0 0) optS ?_
      refine ρ0 ?_
      refine ma ?_
      refine ⟨_, _, rfl, hG, ?_⟩
      refine blockA_n (thenA_n (AWP.seq ?_))
      refine sr fun _ => ?_
      refine mv ?_
      refine ρA ?_
      refine ez ?_
      refine ρn (fun h17 => ?_) (fun h17 => ?_)
      · simp at h17
        refine sr fun _ => ?_
        refine mz ?_
        refine AWP.ret (thenA_r ?_)
        refine ρd ?_
        refine congrArg (AV.int .i64) (?_ : _ = checkP c)
        simp_all [checkP, mayP, plain_one, plain_some, plain_none, someP] <;> (intros; first | omega | (simp_all; done) | (simp_all; refine Or.resolve_left (by assumption) (?_ : ¬ (c.qty < 1 ∨ 1000000 < c.qty)); omega))
      simp at h17
      refine AWP.skip (thenA_n ?_)
      refine sr fun _ => ?_
      refine mz ?_
      refine AWP.ret ?_
      refine ρd ?_
      refine congrArg (AV.int .i64) (?_ : _ = checkP c)
      simp_all [checkP, mayP, plain_one, plain_some, plain_none, someP] <;> (intros; first | omega | (simp_all; done) | (simp_all; refine Or.resolve_left (by assumption) (?_ : ¬ (c.qty < 1 ∨ 1000000 < c.qty)); omega))
    simp at h16
    refine sr fun _ => ?_
    refine ρ1 ?_
    refine mz ?_
    refine ρn (fun h18 => ?_) (fun h18 => ?_)
    · simp at h18
      refine AWP.region (fun _ => ?_)
      refine mv ?_
      refine mv ?_
      refine ρ8 U25 sz3 ?_
      refine ρ3 U3 ?_
      refine ρ6 ?_
      refine ρ0 ?_
      refine mv ?_
      refine ρ8 U25 sz3 ?_
      refine ρ3 U3 ?_
      refine ρ6 ?_
      refine ρ0 ?_
      refine mv ?_
      refine ρ8 U25 sz3 ?_
      refine ρ3 U3 ?_
      refine ρ6 ?_
      refine ρ0 ?_
      refine mv ?_
      refine ρ8 U25 sz23 ?_
      refine ρ3 U23 ?_
      refine ρm cf74 (fun hg => linesR_fn c.lines hl) ?_
      refine ρ0 ?_
      refine ma ?_
      refine ⟨_, _, rfl, hG, ?_⟩
      refine blockA_n (thenA_n (AWP.seq ?_))
      refine sr fun _ => ?_
      refine mv ?_
      refine ρA ?_
      refine ez ?_
      refine ρn (fun h19 => ?_) (fun h19 => ?_)
      · simp at h19
        refine sr fun _ => ?_
        refine mz ?_
        refine AWP.ret (thenA_r ?_)
        refine ρd ?_
        refine congrArg (AV.int .i64) (?_ : _ = checkP c)
        simp_all [checkP, mayP, plain_one, plain_some, plain_none, someP] <;> (intros; first | omega | (simp_all; done) | (simp_all; refine Or.resolve_left (by assumption) (?_ : ¬ (c.qty < 1 ∨ 1000000 < c.qty)); omega))
      simp at h19
      refine AWP.skip (thenA_n ?_)
      refine sr fun _ => ?_
      refine mz ?_
      refine AWP.ret ?_
      refine ρd ?_
      refine congrArg (AV.int .i64) (?_ : _ = checkP c)
      simp_all [checkP, mayP, plain_one, plain_some, plain_none, someP] <;> (intros; first | omega | (simp_all; done) | (simp_all; refine Or.resolve_left (by assumption) (?_ : ¬ (c.qty < 1 ∨ 1000000 < c.qty)); omega))
    simp at h18
    refine sr fun _ => ?_
    refine mz ?_
    refine AWP.ret (blockA_r (thenA_r ?_))
    refine ρd ?_
    refine congrArg (AV.int .i64) (?_ : _ = checkP c)
    simp_all [checkP, mayP, plain_one, plain_some, plain_none, someP] <;> (intros; first | omega | (simp_all; done) | (simp_all; refine Or.resolve_left (by assumption) (?_ : ¬ (c.qty < 1 ∨ 1000000 < c.qty)); omega))
  simp at h11
  refine sr fun _ => ?_
  refine ρ1 ?_
  refine mz ?_
  refine ρn (fun h20 => ?_) (fun h20 => ?_)
  · simp at h20
    refine AWP.skip (thenA_n ?_)
    refine ρn (fun h21 => ?_) (fun h21 => ?_)
    · simp at h21
      refine AWP.region (fun _ => ?_)
      refine mv ?_
      refine mv ?_
      refine ARun.loadPeA rfl rfl rfl rfl U25 rfl sz25 (ep rfl) rfl optS ?_
      refine ARun.call rfl rfl rfl rfl cf73 (ep rfl) (.cons (Ev.opt rfl (fun h => h)) (.cons (ep rfl) (.cons (ep rfl) .nil))) rfl (fun hg => plainR_fn c 1 1000000) optS ?_
      refine ρ0 ?_
      refine ma ?_
      refine ⟨_, _, rfl, hG, ?_⟩
      refine blockA_n (thenA_n (AWP.seq ?_))
      refine sr fun _ => ?_
      refine mv ?_
      refine ρA ?_
      refine ez ?_
      refine ρn (fun h22 => ?_) (fun h22 => ?_)
      · simp at h22
        refine sr fun _ => ?_
        refine mz ?_
        refine AWP.ret (thenA_r ?_)
        refine ρd ?_
        refine congrArg (AV.int .i64) (?_ : _ = checkP c)
        simp_all [checkP, mayP, plain_one, plain_some, plain_none, someP] <;> (intros; first | omega | (simp_all; done) | (simp_all; refine Or.resolve_left (by assumption) (?_ : ¬ (c.qty < 1 ∨ 1000000 < c.qty)); omega))
      simp at h22
      refine AWP.skip (thenA_n ?_)
      refine sr fun _ => ?_
      refine mz ?_
      refine AWP.ret ?_
      refine ρd ?_
      refine congrArg (AV.int .i64) (?_ : _ = checkP c)
      simp_all [checkP, mayP, plain_one, plain_some, plain_none, someP] <;> (intros; first | omega | (simp_all; done) | (simp_all; refine Or.resolve_left (by assumption) (?_ : ¬ (c.qty < 1 ∨ 1000000 < c.qty)); omega))
    simp at h21
    refine sr fun _ => ?_
    refine ρ1 ?_
    refine mz ?_
    refine ρn (fun h23 => ?_) (fun h23 => ?_)
    · simp at h23
      refine AWP.region (fun _ => ?_)
      refine mv ?_
      refine mv ?_
      refine ρ8 U25 sz3 ?_
      refine ρ3 U3 ?_
      refine ρm cf72 (fun hg => numberR_fn c.item) ?_
      refine ρ0 ?_
      refine mv ?_
      refine ρ8 U25 sz3 ?_
      refine ρ3 U3 ?_
      refine ρm cf72 (fun hg => numberR_fn c.to_) ?_
      refine ρ0 ?_
      refine mv ?_
      refine ρ8 U25 sz3 ?_
      refine ρ3 U3 ?_
      refine ρ8 U25 sz3 ?_
      refine ρ3 U3 ?_
      refine ρv ?_
      refine ρ0 ?_
      refine mv ?_
      refine ρ8 U25 sz3 ?_
      refine ρ3 U3 ?_
      refine ρ6 ?_
      refine ρ0 ?_
      refine mv ?_
      refine ρ8 U25 sz3 ?_
      refine ρ3 U3 ?_
      refine ρ6 ?_
      refine ρ0 ?_
      refine mv ?_
      refine ρ8 U25 sz23 ?_
      refine ρ3 U23 ?_
      refine ARun.lenSl rfl rfl rfl rfl U23 (Ev.opt rfl (fun h => h)) optS ?_
      refine ρ6 ?_
      refine ρ0 ?_
      refine ma ?_
      refine ⟨_, _, rfl, hG, ?_⟩
      refine blockA_n (thenA_n (AWP.seq ?_))
      refine sr fun _ => ?_
      refine mv ?_
      refine ρA ?_
      refine ez ?_
      refine ρn (fun h24 => ?_) (fun h24 => ?_)
      · simp at h24
        refine sr fun _ => ?_
        refine mz ?_
        refine AWP.ret (thenA_r ?_)
        refine ρd ?_
        refine congrArg (AV.int .i64) (?_ : _ = checkP c)
        simp_all [checkP, mayP, plain_one, plain_some, plain_none, someP] <;> (intros; first | omega | (simp_all; done) | (simp_all; refine Or.resolve_left (by assumption) (?_ : ¬ (c.qty < 1 ∨ 1000000 < c.qty)); omega))
      simp at h24
      refine AWP.skip (thenA_n ?_)
      refine sr fun _ => ?_
      refine mz ?_
      refine AWP.ret ?_
      refine ρd ?_
      refine congrArg (AV.int .i64) (?_ : _ = checkP c)
      simp_all [checkP, mayP, plain_one, plain_some, plain_none, someP] <;> (intros; first | omega | (simp_all; done) | (simp_all; refine Or.resolve_left (by assumption) (?_ : ¬ (c.qty < 1 ∨ 1000000 < c.qty)); omega))
    simp at h23
    refine sr fun _ => ?_
    refine ρ1 ?_
    refine mz ?_
    refine ρn (fun h25 => ?_) (fun h25 => ?_)
    · simp at h25
      refine AWP.region (fun _ => ?_)
      refine mv ?_
      refine mv ?_
      refine ARun.loadPeA rfl rfl rfl rfl U25 rfl sz25 (ep rfl) rfl optS ?_
      refine ARun.call rfl rfl rfl rfl cf73 (ep rfl) (.cons (Ev.opt rfl (fun h => h)) (.cons (ep rfl) (.cons (ep rfl) .nil))) rfl (fun hg => plainR_fn c 0 0) optS ?_
      refine ρ0 ?_
      refine ma ?_
      refine ⟨_, _, rfl, hG, ?_⟩
      refine blockA_n (thenA_n (AWP.seq ?_))
      refine sr fun _ => ?_
      refine mv ?_
      refine ρA ?_
      refine ez ?_
      refine ρn (fun h26 => ?_) (fun h26 => ?_)
      · simp at h26
        refine sr fun _ => ?_
        refine mz ?_
        refine AWP.ret (thenA_r ?_)
        refine ρd ?_
        refine congrArg (AV.int .i64) (?_ : _ = checkP c)
        simp_all [checkP, mayP, plain_one, plain_some, plain_none, someP] <;> (intros; first | omega | (simp_all; done) | (simp_all; refine Or.resolve_left (by assumption) (?_ : ¬ (c.qty < 1 ∨ 1000000 < c.qty)); omega))
      simp at h26
      refine AWP.skip (thenA_n ?_)
      refine sr fun _ => ?_
      refine mz ?_
      refine AWP.ret ?_
      refine ρd ?_
      refine congrArg (AV.int .i64) (?_ : _ = checkP c)
      simp_all [checkP, mayP, plain_one, plain_some, plain_none, someP] <;> (intros; first | omega | (simp_all; done) | (simp_all; refine Or.resolve_left (by assumption) (?_ : ¬ (c.qty < 1 ∨ 1000000 < c.qty)); omega))
    simp at h25
    refine sr fun _ => ?_
    refine ρ1 ?_
    refine mz ?_
    refine ρn (fun h27 => ?_) (fun h27 => ?_)
    · simp at h27
      refine AWP.region (fun _ => ?_)
      refine mv ?_
      refine mv ?_
      refine ρ8 U25 sz3 ?_
      refine ρ3 U3 ?_
      refine ρ6 ?_
      refine ρ0 ?_
      refine mv ?_
      refine ρ8 U25 sz3 ?_
      refine ρ3 U3 ?_
      refine ρ6 ?_
      refine ρ0 ?_
      refine mv ?_
      refine ρ8 U25 sz3 ?_
      refine ρ3 U3 ?_
      refine ρ6 ?_
      refine ρ0 ?_
      refine mv ?_
      refine ρ8 U25 sz23 ?_
      refine ρ3 U23 ?_
      refine ρm cf74 (fun hg => linesR_fn c.lines hl) ?_
      refine ρ0 ?_
      refine ma ?_
      refine ⟨_, _, rfl, hG, ?_⟩
      refine blockA_n (thenA_n (AWP.seq ?_))
      refine sr fun _ => ?_
      refine mv ?_
      refine ρA ?_
      refine ez ?_
      refine ρn (fun h28 => ?_) (fun h28 => ?_)
      · simp at h28
        refine sr fun _ => ?_
        refine mz ?_
        refine AWP.ret (thenA_r ?_)
        refine ρd ?_
        refine congrArg (AV.int .i64) (?_ : _ = checkP c)
        simp_all [checkP, mayP, plain_one, plain_some, plain_none, someP] <;> (intros; first | omega | (simp_all; done) | (simp_all; refine Or.resolve_left (by assumption) (?_ : ¬ (c.qty < 1 ∨ 1000000 < c.qty)); omega))
      simp at h28
      refine AWP.skip (thenA_n ?_)
      refine sr fun _ => ?_
      refine mz ?_
      refine AWP.ret ?_
      refine ρd ?_
      refine congrArg (AV.int .i64) (?_ : _ = checkP c)
      simp_all [checkP, mayP, plain_one, plain_some, plain_none, someP] <;> (intros; first | omega | (simp_all; done) | (simp_all; refine Or.resolve_left (by assumption) (?_ : ¬ (c.qty < 1 ∨ 1000000 < c.qty)); omega))
    simp at h27
    refine sr fun _ => ?_
    refine mz ?_
    refine AWP.ret (blockA_r (thenA_r ?_))
    refine ρd ?_
    refine congrArg (AV.int .i64) (?_ : _ = checkP c)
    simp_all [checkP, mayP, plain_one, plain_some, plain_none, someP] <;> (intros; first | omega | (simp_all; done) | (simp_all; refine Or.resolve_left (by assumption) (?_ : ¬ (c.qty < 1 ∨ 1000000 < c.qty)); omega))
  simp at h20
  refine AWP.region (fun _ => ?_)
  refine ρ1 ?_
  refine mz ?_
  refine ρn (fun h29 => ?_) (fun h29 => ?_)
  · simp at h29
    refine AWP.region (fun _ => ?_)
    refine mv ?_
    refine mv ?_
    refine ARun.loadPeA rfl rfl rfl rfl U25 rfl sz25 (ep rfl) rfl optS ?_
    refine ARun.call rfl rfl rfl rfl cf73 (ep rfl) (.cons (Ev.opt rfl (fun h => h)) (.cons (ep rfl) (.cons (ep rfl) .nil))) rfl (fun hg => plainR_fn c 1 1000000) optS ?_
    refine ρ0 ?_
    refine ma ?_
    refine ⟨_, _, rfl, hG, ?_⟩
    refine blockA_n (thenA_n (AWP.seq ?_))
    refine sr fun _ => ?_
    refine mv ?_
    refine ρA ?_
    refine ez ?_
    refine ρn (fun h30 => ?_) (fun h30 => ?_)
    · simp at h30
      refine sr fun _ => ?_
      refine mz ?_
      refine AWP.ret (thenA_r ?_)
      refine ρd ?_
      refine congrArg (AV.int .i64) (?_ : _ = checkP c)
      simp_all [checkP, mayP, plain_one, plain_some, plain_none, someP] <;> (intros; first | omega | (simp_all; done) | (simp_all; refine Or.resolve_left (by assumption) (?_ : ¬ (c.qty < 1 ∨ 1000000 < c.qty)); omega))
    simp at h30
    refine AWP.skip (thenA_n ?_)
    refine sr fun _ => ?_
    refine mz ?_
    refine AWP.ret ?_
    refine ρd ?_
    refine congrArg (AV.int .i64) (?_ : _ = checkP c)
    simp_all [checkP, mayP, plain_one, plain_some, plain_none, someP] <;> (intros; first | omega | (simp_all; done) | (simp_all; refine Or.resolve_left (by assumption) (?_ : ¬ (c.qty < 1 ∨ 1000000 < c.qty)); omega))
  simp at h29
  refine sr fun _ => ?_
  refine ρ1 ?_
  refine mz ?_
  refine ρn (fun h31 => ?_) (fun h31 => ?_)
  · simp at h31
    refine AWP.region (fun _ => ?_)
    refine mv ?_
    refine mv ?_
    refine ρ8 U25 sz3 ?_
    refine ρ3 U3 ?_
    refine ρm cf72 (fun hg => numberR_fn c.item) ?_
    refine ρ0 ?_
    refine mv ?_
    refine ρ8 U25 sz3 ?_
    refine ρ3 U3 ?_
    refine ρm cf72 (fun hg => numberR_fn c.to_) ?_
    refine ρ0 ?_
    refine mv ?_
    refine ρ8 U25 sz3 ?_
    refine ρ3 U3 ?_
    refine ρ8 U25 sz3 ?_
    refine ρ3 U3 ?_
    refine ρv ?_
    refine ρ0 ?_
    refine mv ?_
    refine ρ8 U25 sz3 ?_
    refine ρ3 U3 ?_
    refine ρ6 ?_
    refine ρ0 ?_
    refine mv ?_
    refine ρ8 U25 sz3 ?_
    refine ρ3 U3 ?_
    refine ρ6 ?_
    refine ρ0 ?_
    refine mv ?_
    refine ρ8 U25 sz23 ?_
    refine ρ3 U23 ?_
    refine ARun.lenSl rfl rfl rfl rfl U23 (Ev.opt rfl (fun h => h)) optS ?_
    refine ρ6 ?_
    refine ρ0 ?_
    refine ma ?_
    refine ⟨_, _, rfl, hG, ?_⟩
    refine blockA_n (thenA_n (AWP.seq ?_))
    refine sr fun _ => ?_
    refine mv ?_
    refine ρA ?_
    refine ez ?_
    refine ρn (fun h32 => ?_) (fun h32 => ?_)
    · simp at h32
      refine sr fun _ => ?_
      refine mz ?_
      refine AWP.ret (thenA_r ?_)
      refine ρd ?_
      refine congrArg (AV.int .i64) (?_ : _ = checkP c)
      simp_all [checkP, mayP, plain_one, plain_some, plain_none, someP] <;> (intros; first | omega | (simp_all; done) | (simp_all; refine Or.resolve_left (by assumption) (?_ : ¬ (c.qty < 1 ∨ 1000000 < c.qty)); omega))
    simp at h32
    refine AWP.skip (thenA_n ?_)
    refine sr fun _ => ?_
    refine mz ?_
    refine AWP.ret ?_
    refine ρd ?_
    refine congrArg (AV.int .i64) (?_ : _ = checkP c)
    simp_all [checkP, mayP, plain_one, plain_some, plain_none, someP] <;> (intros; first | omega | (simp_all; done) | (simp_all; refine Or.resolve_left (by assumption) (?_ : ¬ (c.qty < 1 ∨ 1000000 < c.qty)); omega))
  simp at h31
  refine sr fun _ => ?_
  refine ρ1 ?_
  refine mz ?_
  refine ρn (fun h33 => ?_) (fun h33 => ?_)
  · simp at h33
    refine AWP.region (fun _ => ?_)
    refine mv ?_
    refine mv ?_
    refine ARun.loadPeA rfl rfl rfl rfl U25 rfl sz25 (ep rfl) rfl optS ?_
    refine ARun.call rfl rfl rfl rfl cf73 (ep rfl) (.cons (Ev.opt rfl (fun h => h)) (.cons (ep rfl) (.cons (ep rfl) .nil))) rfl (fun hg => plainR_fn c 0 0) optS ?_
    refine ρ0 ?_
    refine ma ?_
    refine ⟨_, _, rfl, hG, ?_⟩
    refine blockA_n (thenA_n (AWP.seq ?_))
    refine sr fun _ => ?_
    refine mv ?_
    refine ρA ?_
    refine ez ?_
    refine ρn (fun h34 => ?_) (fun h34 => ?_)
    · simp at h34
      refine sr fun _ => ?_
      refine mz ?_
      refine AWP.ret (thenA_r ?_)
      refine ρd ?_
      refine congrArg (AV.int .i64) (?_ : _ = checkP c)
      simp_all [checkP, mayP, plain_one, plain_some, plain_none, someP] <;> (intros; first | omega | (simp_all; done) | (simp_all; refine Or.resolve_left (by assumption) (?_ : ¬ (c.qty < 1 ∨ 1000000 < c.qty)); omega))
    simp at h34
    refine AWP.skip (thenA_n ?_)
    refine sr fun _ => ?_
    refine mz ?_
    refine AWP.ret ?_
    refine ρd ?_
    refine congrArg (AV.int .i64) (?_ : _ = checkP c)
    simp_all [checkP, mayP, plain_one, plain_some, plain_none, someP] <;> (intros; first | omega | (simp_all; done) | (simp_all; refine Or.resolve_left (by assumption) (?_ : ¬ (c.qty < 1 ∨ 1000000 < c.qty)); omega))
  simp at h33
  refine sr fun _ => ?_
  refine ρ1 ?_
  refine mz ?_
  refine ρn (fun h35 => ?_) (fun h35 => ?_)
  · simp at h35
    refine AWP.region (fun _ => ?_)
    refine mv ?_
    refine mv ?_
    refine ρ8 U25 sz3 ?_
    refine ρ3 U3 ?_
    refine ρ6 ?_
    refine ρ0 ?_
    refine mv ?_
    refine ρ8 U25 sz3 ?_
    refine ρ3 U3 ?_
    refine ρ6 ?_
    refine ρ0 ?_
    refine mv ?_
    refine ρ8 U25 sz3 ?_
    refine ρ3 U3 ?_
    refine ρ6 ?_
    refine ρ0 ?_
    refine mv ?_
    refine ρ8 U25 sz23 ?_
    refine ρ3 U23 ?_
    refine ρm cf74 (fun hg => linesR_fn c.lines hl) ?_
    refine ρ0 ?_
    refine ma ?_
    refine ⟨_, _, rfl, hG, ?_⟩
    refine blockA_n (thenA_n (AWP.seq ?_))
    refine sr fun _ => ?_
    refine mv ?_
    refine ρA ?_
    refine ez ?_
    refine ρn (fun h36 => ?_) (fun h36 => ?_)
    · simp at h36
      refine sr fun _ => ?_
      refine mz ?_
      refine AWP.ret (thenA_r ?_)
      refine ρd ?_
      refine congrArg (AV.int .i64) (?_ : _ = checkP c)
      simp_all [checkP, mayP, plain_one, plain_some, plain_none, someP] <;> (intros; first | omega | (simp_all; done) | (simp_all; refine Or.resolve_left (by assumption) (?_ : ¬ (c.qty < 1 ∨ 1000000 < c.qty)); omega))
    simp at h36
    refine AWP.skip (thenA_n ?_)
    refine sr fun _ => ?_
    refine mz ?_
    refine AWP.ret ?_
    refine ρd ?_
    refine congrArg (AV.int .i64) (?_ : _ = checkP c)
    simp_all [checkP, mayP, plain_one, plain_some, plain_none, someP] <;> (intros; first | omega | (simp_all; done) | (simp_all; refine Or.resolve_left (by assumption) (?_ : ¬ (c.qty < 1 ∨ 1000000 < c.qty)); omega))
  simp at h35
  refine sr fun _ => ?_
  refine mz ?_
  refine AWP.ret (blockA_r (thenA_r ?_))
  refine ρd ?_
  refine congrArg (AV.int .i64) (?_ : _ = checkP c)
  simp_all [checkP, mayP, plain_one, plain_some, plain_none, someP] <;> (intros; first | omega | (simp_all; done) | (simp_all; refine Or.resolve_left (by assumption) (?_ : ¬ (c.qty < 1 ∨ 1000000 < c.qty)); omega))
set_option maxHeartbeats 1000000 in
theorem sameRpR_fn (c d : Rp) (hl : c.nums.length ≤ 100000) : FnP Tryz.prog 12 [aRp c, aRp d] (.bool (decide (c = d))) := by
  refine FnP.of Tryz.func12 rfl rfl (by simp) (by simp [AV.cells, aIn, aOut, aLn, aCl, aRp]) (fun G hG => ?_)
  have hN : NoH G.length (.bool (decide (c = d))) := (by simp [AV.cells, aIn, aOut, aLn, aCl, aRp])
  refine sr fun _ => ?_
  refine ρy ?_
  refine ρy ?_
  refine mz ?_
  refine sr fun _ => ?_
  refine ρ5 U31 sz28 ?_
  refine ρb U28 ?_
  refine ρ5 U31 sz28 ?_
  refine ρb U28 ?_
  refine ρ1 ?_
  refine mv ?_
  refine ρ8 U31 sz29 ?_
  refine ρ3 U29 ?_
  refine ρ8 U31 sz29 ?_
  refine ρ3 U29 ?_
  refine ARun.call rfl rfl rfl rfl cf41 (ep rfl) (.cons (Ev.opt rfl (fun h => h)) (.cons (Ev.opt rfl (fun h => h)) .nil)) rfl (fun hg => sameI_fn c.nums d.nums (by omega)) optS ?_
  refine ρ0 ?_
  refine mz ?_
  refine AWP.ret ?_
  refine ρd ?_
  rw [rp_ext (c := c) (d := d) rfl]
end Go.Proofs.YtgebpndhnkkbgaaGreatDoor
