/- The texts that the law TopDecode rests on, part 4: AmIm, ImgPlain2, AmMapI, AmTysE, AmIn, ImgRead, AmTwo, AmTysF, AmIr, AmTysG, AmTysH, AmIx, AmIs, AmIt, AmIw. -/
import Derived.Test.YtnlpojjfkgnhhaaGreatDoorTpD3
import Derived.MapKept
import Derived.ChangeMaps4
open Go.Proofs.Tryz renaming underlying3 → U3, underlying4 → U4, underlying9 → U9, underlying22 → U22, underlying23 → U23, underlying24 → U24, underlying28 → U28, underlying53 → U53, underlying54 → U54, underlying55 → U55, underlying56 → U56, underlying58 → U58, underlying59 → U59, underlying60 → U60, underlying62 → U62, underlying64 → U64, underlying74 → U74, underlying105 → U105, underlying107 → U107, underlying126 → U126, underlying162 → U162, underlying164 → U164, underlying167 → U167, underlying176 → U176, underlying178 → U178, underlying181 → U181, underlying186 → U186, underlying188 → U188, underlying227 → U227, underlying228 → U228, underlying257 → U257, underlying273 → U273
set_option linter.unusedVariables false
set_option linter.unusedSimpArgs false
set_option maxRecDepth 100000
set_option maxHeartbeats 1000000
namespace Go.Proofs.YtnlpojjfkgnhhaaGreatDoor
open Go.RowKit
open NumP
def aRn (s : Rn) : AV := .agg [.int .i64 s.lo, .int .i64 s.hi]
def aAk (s : Ak) : AV := .agg [.int .i64 s.kind, .int .i64 s.from_, .int .i64 s.bal, .int .i64 s.t, .int .i64 s.abal, .int .i64 s.phase]
def aKn (k : Kn) : AV := .agg [.int .i64 k.base, .sl (k.ranges.map aRn), .sl (k.atts.map aAt)]
def aEn (e : En) : AV := .agg [.int .i64 e.id, .int .i64 e.phase, .int .i64 e.quorum, .int .i64 e.t, .int .i64 e.bal, .int .i64 e.abal, .int .i64 e.seen, .int .i64 e.age, .str e.payload, .sl (e.acks.map aAk)]
def aQu (a : Ak) : AV := .agg [.int .i64 a.kind, .int .i64 a.from_, .int .i64 a.bal]
theorem lastR_succ (l : List Rn) (k : Nat) : lastR l (k + 1) = (l.getD k default).hi := by simp [lastR]
theorem ranges_fn (l : List Rn) (hl : l.length ≤ 1000000) : FnP Tryz.prog 149 [.sl (l.map aRn)] (.int .i64 (rangesE l)) := by
 refine FnP.of Tryz.func149 rfl rfl (by simp) (by simp [AV.cells, aIn, aOut, aAt, aMg, aEv, aRc, aRn, aAk, aKn, aEn, aQu]) (fun G hG => ?_)
 have hN : NoH G.length (.int .i64 (rangesE l)) := (by simp [AV.cells, aIn, aOut, aAt, aMg, aEv, aRc, aRn, aAk, aKn, aEn, aQu])
 refine sr fun _ => ?_
 refine mz ?_
 refine AWP.seq (sr fun _ => ?_)
 refine mv ?_
 refine ρq U162 ?_
 refine ρ6 ?_
 refine ez ?_
 refine ρo (fun h0 => ?_) (fun h0 => ?_)
 · rw [List.length_map] at h0
   refine sr fun _ => ?_
   refine mz ?_
   refine AWP.ret (thenA_r ?_)
   refine ρ9 ?_
   rw [rangesE, if_pos h0]; rfl
 rw [List.length_map] at h0
 refine AWP.skip (thenA_n (sr fun _ => ?_))
 refine mz ?_
 refine AWP.seq (sr fun _ => ?_)
 refine mv ?_
 refine ρq U162 ?_
 refine mv ?_
 refine ez ?_
 refine AWP.block ?_
 refine AWP.rounds (fun k => k ≤ l.length ∧ ∀ j, j < k → rngBad l j = false) (fun k => [(0, .sl (l.map aRn)), (3, .int .i64 (lastR l k)), (9, .sl (l.map aRn)), (10, .int .i64 ((l.map aRn).length : Int)), (11, .int .i64 (k : Int))]) (fun k => []) (fun k => l.length - k) 0 0 ⟨by omega, fun j h => by omega⟩ (by repeat (first | exact .nil | refine .cons rfl ?_)) rfl (fun _ => rfl) (fun _ => ⟨by simp [AV.cells, aRn], by simp⟩) (fun k hI => ?_)
 obtain ⟨hk, hno⟩ := hI
 have hlr := lastR_rng hno
 refine sr fun _ => ?_
 refine ρ6 ?_
 refine ez ?_
 refine AWP.seq ?_
 refine ρo (fun h1 => ?_) (fun h1 => ?_)
 · try simp [-List.getD_eq_getElem?_getD] at h1
   refine AWP.skip (thenA_n ?_)
   refine AWP.seq (AWP.block (sr fun _ => ?_))
   first | refine ρa U162 sz167 ?_ | refine ρ7 U162 sz167 ?_
   refine ρl U167 sz167 ?_
   refine ρp (j := 0) zv167 ?_
   refine ρ8 sz167 ?_
   refine ez ?_
   refine AWP.seq (AWP.seq ?_)
   refine AWP.frzBox 5 hG rfl rfl rfl ?_
   refine AWP.region (fun _ => ?_)
   refine ρ0 U167 sz3 ?_
   refine ρ2 U3 ?_
   refine ρ6 ?_
   refine mv ?_
   refine ρ5 U167 sz3 ?_
   refine ρ4 U3 ?_
   refine ρ5 U167 sz3 ?_
   refine ρ4 U3 ?_
   refine ρm ?_
   refine ρ3 ?_
   refine mv ?_
   refine ρ5 U167 sz3 ?_
   refine ρ4 U3 ?_
   refine ρb ?_
   refine ρ3 ?_
   refine mv ?_
   refine ρ5 U167 sz3 ?_
   refine ρ4 U3 ?_
   refine ρh ?_
   first | refine ARun.arith rfl rfl rfl rfl (Ev.opt rfl (fun h => h)) (ep rfl) rfl (fun hg => i64w (by (try simp at hg); omega)) optS ?_ | refine ARun.arith rfl rfl rfl rfl (Ev.opt rfl (fun h => h)) (ep rfl) rfl (fun _ => rfl) optS ?_
   refine ρm ?_
   refine ρ3 ?_
   refine ez ?_
   refine ρo (fun h2 => ?_) (fun h2 => ?_)
   · change rngBad l k = true at h2
     refine sr fun _ => ?_
     refine mz ?_
     refine AWP.ret (thenA_r ?_)
     refine blockA_r (thenA_r ?_)
     refine thenA_r (blockA_r (thenA_r ?_))
     refine ρ9 ?_
     rw [rangesE, if_neg (by rw [h0]; decide), if_pos (any_hit (by omega) h2)]; rfl
   change rngBad l k = false at h2
   refine AWP.skip (thenA_n ?_)
   refine AWP.region (fun _ => ?_)
   refine ρ0 U167 sz3 ?_
   refine ρ2 U3 ?_
   refine ma ?_
   refine ⟨_, _, rfl, hG, ?_⟩
   refine blockA_n (thenA_n ?_)
   refine AWP.region (fun _ => ?_)
   first | refine ρd ?_ | refine ρg ?_
   refine mv ?_
   refine ⟨_, _, rfl, hG, ?_⟩
   refine thenA_n ⟨rfl, k + 1, _, ?_, ?_, rfl, ?_⟩
   · refine ⟨by omega, fun j hj => ?_⟩
     by_cases e : j = k
     · subst e; exact h2
     exact hno j (by omega)
   · rw [lastR_succ]
     repeat (first | exact .nil | refine .cons rfl ?_)
   omega
 simp at h1
 obtain rfl : k = l.length := by omega
 refine AWP.exit ?_
 refine thenA_x ?_
 refine thenA_x ?_
 refine blockA_h ?_
 refine thenA_n (sr fun _ => ?_)
 refine mz ?_
 refine AWP.ret ?_
 refine ρ9 ?_
 rw [rangesE, if_neg (by rw [h0]; decide), if_neg (by rw [any_none (fun j hj => hno j (by omega))]; decide)]; rfl
theorem rangesM_fn (l : List Rn) (hl : l.length ≤ 1000000) : FnP Tryz.prog 178 [.sl (l.map aRn)] (.bool (decide (rangesE l = 0))) := by
 refine FnP.of Tryz.func178 rfl rfl (by simp) (by simp [AV.cells, aIn, aOut, aAt, aMg, aEv, aRc, aRn, aAk, aKn, aEn, aQu]) (fun G hG => ?_)
 have hN : NoH G.length (.bool (decide (rangesE l = 0))) := (by simp [AV.cells, aIn, aOut, aAt, aMg, aEv, aRc, aRn, aAk, aKn, aEn, aQu])
 refine sr fun _ => ?_
 refine mz (sr fun _ => ?_)
 refine mv ?_
 refine ρf cf149 (fun hg => ranges_fn l hl) ?_
 refine ρ6 ?_
 refine mz ?_
 refine AWP.ret ?_
 refine ρ9 ?_
 rfl
theorem indexRn (F : Nat) (fs cs : List AV) (p : Rn → Bool) (l : List Rn) (hl : l.length ≤ 9223372036854775807) (hcf : ∀ (vs : Array Value) (W : World), (callFunc F vs).run Tryz.prog W = .ok (.enter F vs) W) (hn : (∀ x, x ∈ fs → NoH 0 x) ∧ ∀ x, x ∈ cs → NoH 0 x) (hp : ∀ x, x ∈ l → FnP Tryz.prog F (fs ++ [aRn x] ++ cs) (.bool (p x))) : FnP Tryz.prog 188 [.sl (l.map aRn), .fn (.func F) fs cs] (.int .i64 (idxOf p l)) := by
 refine FnP.of Tryz.func188 rfl rfl (by simp) (by simp [AV.cells, aIn, aOut, aAt, aMg, aEv, aRc, aRn, aAk, aKn, aEn, aQu]) (fun G hG => ?_)
 have hN : NoH G.length (.int .i64 (idxOf p l)) := (by simp [AV.cells, aIn, aOut, aAt, aMg, aEv, aRc, aRn, aAk, aKn, aEn, aQu])
 refine sr fun _ => ?_
 refine mz ?_
 refine AWP.seq (sr fun _ => ?_)
 refine mv ?_
 refine ρq U162 ?_
 refine mv ?_
 refine ez ?_
 refine AWP.block ?_
 refine AWP.rounds (fun k => k ≤ l.length ∧ ∀ j, j < k → p (l.getD j default) = false) (fun k => [(0, .sl (l.map aRn)), (1, .fn (.func F) fs cs), (7, .int .i64 ((l.map aRn).length : Int)), (8, .int .i64 (k : Int))]) (fun k => []) (fun k => l.length - k) 0 0 ⟨by omega, fun j h => by omega⟩ (by repeat (first | exact .nil | refine .cons rfl ?_)) rfl (fun _ => rfl) (fun _ => ⟨by simp [AV.cells, aIn, aOut, aAt, aMg, aEv, aRc, aRn, aAk, aKn, aEn, aQu]; exact ⟨fun x hx => (hn.1 x hx).mono (by omega), fun x hx => (hn.2 x hx).mono (by omega)⟩, by simp⟩) (fun k hI => ?_)
 obtain ⟨hk, hno⟩ := hI
 refine sr fun _ => ?_
 refine ρ6 ?_
 refine ez ?_
 refine AWP.seq ?_
 refine ρo (fun h0 => ?_) (fun h0 => ?_)
 · try simp [-List.getD_eq_getElem?_getD] at h0
   refine AWP.skip (thenA_n ?_)
   refine AWP.seq (AWP.block (sr fun _ => ?_))
   refine mv ?_
   refine mz (sr fun _ => ?_)
   refine mv ?_
   refine mv ?_
   refine mv ?_
   first | refine ρa U162 sz167 ?_ | refine ρ7 U162 sz167 ?_
   refine ρl U167 sz167 ?_
   refine ARun.call rfl rfl rfl rfl hcf (ep rfl) (.cons (ep rfl) .nil) rfl (fun hg => hp _ (by rw [List.getD, List.getElem?_eq_getElem h0]; exact List.getElem_mem h0)) optN ?_
   refine ez ?_
   refine ρo (fun h1 => ?_) (fun h1 => ?_)
   · try simp [-List.getD_eq_getElem?_getD] at h1
     refine sr fun _ => ?_
     refine mv ?_
     refine mz ?_
     refine AWP.ret (blockA_r ?_)
     refine thenA_r (thenA_r ?_)
     refine blockA_r (thenA_r ?_)
     refine ρ9 ?_
     rw [idx_hit h0 hno h1]
   try simp [-List.getD_eq_getElem?_getD] at h1
   refine AWP.skip (blockA_n (thenA_n ?_))
   refine AWP.region (fun _ => ?_)
   first | refine ρd ?_ | refine ρg ?_
   refine mv ?_
   refine ⟨_, _, rfl, hG, ?_⟩
   refine thenA_n ⟨rfl, k + 1, _, ?_, ?_, rfl, ?_⟩
   · refine ⟨by omega, fun j hj => ?_⟩
     by_cases e : j = k
     · subst e; exact h1
     exact hno j (by omega)
   · repeat (first | exact .nil | refine .cons rfl ?_)
   omega
 try simp [-List.getD_eq_getElem?_getD] at h0
 refine AWP.exit ?_
 refine thenA_x ?_
 refine thenA_x ?_
 refine blockA_h ?_
 refine thenA_n (sr fun _ => ?_)
 refine mz ?_
 refine AWP.ret ?_
 refine ρ9 ?_
 rw [idx_none (fun j hj => hno j (by omega))]; rfl
theorem containsRn (F : Nat) (fs cs : List AV) (p : Rn → Bool) (l : List Rn) (hl : l.length ≤ 9223372036854775807) (hcf : ∀ (vs : Array Value) (W : World), (callFunc F vs).run Tryz.prog W = .ok (.enter F vs) W) (hn : (∀ x, x ∈ fs → NoH 0 x) ∧ ∀ x, x ∈ cs → NoH 0 x) (hp : ∀ x, x ∈ l → FnP Tryz.prog F (fs ++ [aRn x] ++ cs) (.bool (p x))) : FnP Tryz.prog 179 [.sl (l.map aRn), .fn (.func F) fs cs] (.bool (l.any p)) := by
 refine FnP.of Tryz.func179 rfl rfl (by simp) (by simp [AV.cells, aIn, aOut, aAt, aMg, aEv, aRc, aRn, aAk, aKn, aEn, aQu]) (fun G hG => ?_)
 have hN : NoH G.length (.bool (l.any p)) := (by simp [AV.cells, aIn, aOut, aAt, aMg, aEv, aRc, aRn, aAk, aKn, aEn, aQu])
 refine sr fun _ => ?_
 refine mz (sr fun _ => ?_)
 refine mv ?_
 refine mv ?_
 refine ρk cf188 (fun hg => indexRn F fs cs p l hl hcf hn hp) ?_
 refine ρ6 ?_
 refine mz ?_
 refine AWP.ret ?_
 refine ρ9 ?_
 rw [← any_idx]
theorem hasF_fn (r : Rn) (n : Int) : FnP Tryz.prog 180 [aRn r, .pe [.int .i64 n]] (.bool (decide (r.lo ≤ n) && decide (n ≤ r.hi))) := by
 refine FnP.of Tryz.func180 rfl rfl (by simp) (by simp [AV.cells, aIn, aOut, aAt, aMg, aEv, aRc, aRn, aAk, aKn, aEn, aQu]) (fun G hG => ?_)
 have hN : NoH G.length (.bool (decide (r.lo ≤ n) && decide (n ≤ r.hi))) := (by simp [AV.cells, aIn, aOut, aAt, aMg, aEv, aRc, aRn, aAk, aKn, aEn, aQu])
 refine sr fun _ => ?_
 refine ρt ?_
 refine mz (sr fun _ => ?_)
 refine ρ2 U3 ?_
 refine ρ0 U167 sz3 ?_
 refine ρ2 U3 ?_
 refine ρ6 ?_
 refine mv ?_
 refine ARun.loadPe rfl rfl rfl rfl U3 rfl (ep rfl) rfl optS ?_
 refine ρ5 U167 sz3 ?_
 refine ρ4 U3 ?_
 refine ρm ?_
 refine ρ1 ?_
 refine mz ?_
 refine AWP.ret ?_
 refine ρ9 ?_
 rfl
theorem hasR_fn (l : List Rn) (n : Int) (hl : l.length ≤ 1000000) : FnP Tryz.prog 163 [.sl (l.map aRn), .int .i64 n] (.bool (hasR l n)) := by
 refine FnP.of Tryz.func163 rfl rfl (by simp) (by simp [AV.cells, aIn, aOut, aAt, aMg, aEv, aRc, aRn, aAk, aKn, aEn, aQu]) (fun G hG => ?_)
 have hN : NoH G.length (.bool (hasR l n)) := (by simp [AV.cells, aIn, aOut, aAt, aMg, aEv, aRc, aRn, aAk, aKn, aEn, aQu])
 refine sr fun _ => ?_
 refine ARun.boxPe1 rfl rfl rfl rfl (ep rfl) (by first | rfl | exact aEr_one _ | exact aFl_one _) optN ?_
 refine mz (sr fun _ => ?_)
 refine mv ?_
 refine ρf cf178 (fun hg => rangesM_fn l hl) ?_
 refine mv ?_
 refine ρh ?_
 refine ARun.makeFunc rfl rfl rfl rfl .nil (.cons (ep rfl) .nil) optS ?_
 refine ARun.call rfl rfl rfl rfl cf179 (ep rfl) (.cons (Ev.opt rfl (fun h => h)) (.cons (Ev.opt rfl (fun h => h)) .nil)) rfl (fun hg => containsRn 180 [] [.pe [.int .i64 n]] (fun r => decide (r.lo ≤ n) && decide (n ≤ r.hi)) l (by omega) cf180 (by simp) (fun x _ => hasF_fn x n)) optS ?_
 refine ρ1 ?_
 refine mz ?_
 refine AWP.ret ?_
 refine ρ9 ?_
 rfl
theorem rise_fn (l : List At) (lo hi : Int) (hl : l.length ≤ 1000000) : FnP Tryz.prog 161 [.sl (l.map aAt), .int .i64 lo, .int .i64 hi] (.bool (riseOk l lo hi)) := by
 refine FnP.of Tryz.func161 rfl rfl (by simp) (by simp [AV.cells, aIn, aOut, aAt, aMg, aEv, aRc, aRn, aAk, aKn, aEn, aQu]) (fun G hG => ?_)
 have hN : NoH G.length (.bool (riseOk l lo hi)) := (by simp [AV.cells, aIn, aOut, aAt, aMg, aEv, aRc, aRn, aAk, aKn, aEn, aQu])
 refine sr fun _ => ?_
 refine mz (sr fun _ => ?_)
 refine mv ?_
 refine mz ?_
 refine AWP.seq (sr fun _ => ?_)
 refine mv ?_
 refine ρq U23 ?_
 refine mv ?_
 refine ez ?_
 refine AWP.block ?_
 refine AWP.rounds (fun k => k ≤ l.length ∧ ∀ j, j < k → attAt l lo hi j = false) (fun k => [(0, .sl (l.map aAt)), (2, .int .i64 hi), (7, .int .i64 (lastT l lo k)), (11, .sl (l.map aAt)), (12, .int .i64 ((l.map aAt).length : Int)), (13, .int .i64 (k : Int))]) (fun k => []) (fun k => l.length - k) 0 0 ⟨by omega, fun j h => by omega⟩ (by repeat (first | exact .nil | refine .cons rfl ?_)) rfl (fun _ => rfl) (fun _ => ⟨by simp [AV.cells, aAt], by simp⟩) (fun k hI => ?_)
 obtain ⟨hk, hno⟩ := hI
 refine sr fun _ => ?_
 refine ρ6 ?_
 refine ez ?_
 refine AWP.seq ?_
 refine ρo (fun h0 => ?_) (fun h0 => ?_)
 · try simp [-List.getD_eq_getElem?_getD] at h0
   refine AWP.skip (thenA_n ?_)
   refine AWP.seq (AWP.block (sr fun _ => ?_))
   first | refine ρa U23 sz58 ?_ | refine ρ7 U23 sz58 ?_
   refine ρl U58 sz58 ?_
   refine ρp (j := 0) zv58 ?_
   refine ρ8 sz58 ?_
   refine ez ?_
   refine AWP.seq (AWP.seq ?_)
   refine AWP.frzBox 9 hG rfl rfl rfl ?_
   refine AWP.region (fun _ => ?_)
   refine ρ0 U58 sz3 ?_
   refine ρ2 U3 ?_
   refine mv ?_
   refine ρ6 ?_
   refine mv ?_
   refine ρ5 U58 sz3 ?_
   refine ρ4 U3 ?_
   refine ρh ?_
   refine ρm ?_
   refine ρ3 ?_
   refine mv ?_
   refine ρ5 U58 sz3 ?_
   refine ρ4 U3 ?_
   refine ρi cf100 (fun hg => ident_fn (l.getD k default).id) ?_
   refine ρb ?_
   refine ρ3 ?_
   refine ez ?_
   refine ρo (fun h1 => ?_) (fun h1 => ?_)
   · change attAt l lo hi k = true at h1
     refine sr fun _ => ?_
     refine mz ?_
     refine AWP.ret (thenA_r ?_)
     refine blockA_r (thenA_r ?_)
     refine thenA_r (blockA_r (thenA_r ?_))
     refine ρ9 ?_
     rw [show riseOk l lo hi = false from List.all_eq_false.2 ⟨k, List.mem_range.2 (by omega), by rw [h1]; decide⟩]; rfl
   change attAt l lo hi k = false at h1
   refine AWP.skip (thenA_n ?_)
   refine AWP.region (fun _ => ?_)
   refine ρ0 U58 sz3 ?_
   refine ρ2 U3 ?_
   refine ma ?_
   refine ⟨_, _, rfl, hG, ?_⟩
   refine blockA_n (thenA_n ?_)
   refine AWP.region (fun _ => ?_)
   first | refine ρd ?_ | refine ρg ?_
   refine mv ?_
   refine ⟨_, _, rfl, hG, ?_⟩
   refine thenA_n ⟨rfl, k + 1, _, ?_, ?_, rfl, ?_⟩
   · refine ⟨by omega, fun j hj => ?_⟩
     by_cases e : j = k
     · subst e; exact h1
     exact hno j (by omega)
   · rw [lastT_succ]
     repeat (first | exact .nil | refine .cons rfl ?_)
   omega
 simp at h0
 obtain rfl : k = l.length := by omega
 refine AWP.exit ?_
 refine thenA_x ?_
 refine thenA_x ?_
 refine blockA_h ?_
 refine thenA_n (sr fun _ => ?_)
 refine mz ?_
 refine AWP.ret ?_
 refine ρ9 ?_
 rw [show riseOk l lo hi = true from List.all_eq_true.2 fun j hj => by rw [hno j (List.mem_range.1 hj)]; rfl]; rfl
theorem indexAt (F : Nat) (fs cs : List AV) (p : At → Bool) (l : List At) (hl : l.length ≤ 9223372036854775807) (hcf : ∀ (vs : Array Value) (W : World), (callFunc F vs).run Tryz.prog W = .ok (.enter F vs) W) (hn : (∀ x, x ∈ fs → NoH 0 x) ∧ ∀ x, x ∈ cs → NoH 0 x) (hp : ∀ x, x ∈ l → FnP Tryz.prog F (fs ++ [aAt x] ++ cs) (.bool (p x))) : FnP Tryz.prog 181 [.sl (l.map aAt), .fn (.func F) fs cs] (.int .i64 (idxOf p l)) := by
 refine FnP.of Tryz.func181 rfl rfl (by simp) (by simp [AV.cells, aIn, aOut, aAt, aMg, aEv, aRc, aRn, aAk, aKn, aEn, aQu]) (fun G hG => ?_)
 have hN : NoH G.length (.int .i64 (idxOf p l)) := (by simp [AV.cells, aIn, aOut, aAt, aMg, aEv, aRc, aRn, aAk, aKn, aEn, aQu])
 refine sr fun _ => ?_
 refine mz ?_
 refine AWP.seq (sr fun _ => ?_)
 refine mv ?_
 refine ρq U23 ?_
 refine mv ?_
 refine ez ?_
 refine AWP.block ?_
 refine AWP.rounds (fun k => k ≤ l.length ∧ ∀ j, j < k → p (l.getD j default) = false) (fun k => [(0, .sl (l.map aAt)), (1, .fn (.func F) fs cs), (7, .int .i64 ((l.map aAt).length : Int)), (8, .int .i64 (k : Int))]) (fun k => []) (fun k => l.length - k) 0 0 ⟨by omega, fun j h => by omega⟩ (by repeat (first | exact .nil | refine .cons rfl ?_)) rfl (fun _ => rfl) (fun _ => ⟨by simp [AV.cells, aIn, aOut, aAt, aMg, aEv, aRc, aRn, aAk, aKn, aEn, aQu]; exact ⟨fun x hx => (hn.1 x hx).mono (by omega), fun x hx => (hn.2 x hx).mono (by omega)⟩, by simp⟩) (fun k hI => ?_)
 obtain ⟨hk, hno⟩ := hI
 refine sr fun _ => ?_
 refine ρ6 ?_
 refine ez ?_
 refine AWP.seq ?_
 refine ρo (fun h0 => ?_) (fun h0 => ?_)
 · try simp [-List.getD_eq_getElem?_getD] at h0
   refine AWP.skip (thenA_n ?_)
   refine AWP.seq (AWP.block (sr fun _ => ?_))
   refine mv ?_
   refine mz (sr fun _ => ?_)
   refine mv ?_
   refine mv ?_
   refine mv ?_
   first | refine ρa U23 sz58 ?_ | refine ρ7 U23 sz58 ?_
   refine ρl U58 sz58 ?_
   refine ARun.call rfl rfl rfl rfl hcf (ep rfl) (.cons (ep rfl) .nil) rfl (fun hg => hp _ (by rw [List.getD, List.getElem?_eq_getElem h0]; exact List.getElem_mem h0)) optN ?_
   refine ez ?_
   refine ρo (fun h1 => ?_) (fun h1 => ?_)
   · try simp [-List.getD_eq_getElem?_getD] at h1
     refine sr fun _ => ?_
     refine mv ?_
     refine mz ?_
     refine AWP.ret (blockA_r ?_)
     refine thenA_r (thenA_r ?_)
     refine blockA_r (thenA_r ?_)
     refine ρ9 ?_
     rw [idx_hit h0 hno h1]
   try simp [-List.getD_eq_getElem?_getD] at h1
   refine AWP.skip (blockA_n (thenA_n ?_))
   refine AWP.region (fun _ => ?_)
   first | refine ρd ?_ | refine ρg ?_
   refine mv ?_
   refine ⟨_, _, rfl, hG, ?_⟩
   refine thenA_n ⟨rfl, k + 1, _, ?_, ?_, rfl, ?_⟩
   · refine ⟨by omega, fun j hj => ?_⟩
     by_cases e : j = k
     · subst e; exact h1
     exact hno j (by omega)
   · repeat (first | exact .nil | refine .cons rfl ?_)
   omega
 try simp [-List.getD_eq_getElem?_getD] at h0
 refine AWP.exit ?_
 refine thenA_x ?_
 refine thenA_x ?_
 refine blockA_h ?_
 refine thenA_n (sr fun _ => ?_)
 refine mz ?_
 refine AWP.ret ?_
 refine ρ9 ?_
 rw [idx_none (fun j hj => hno j (by omega))]; rfl
theorem containsAt (F : Nat) (fs cs : List AV) (p : At → Bool) (l : List At) (hl : l.length ≤ 9223372036854775807) (hcf : ∀ (vs : Array Value) (W : World), (callFunc F vs).run Tryz.prog W = .ok (.enter F vs) W) (hn : (∀ x, x ∈ fs → NoH 0 x) ∧ ∀ x, x ∈ cs → NoH 0 x) (hp : ∀ x, x ∈ l → FnP Tryz.prog F (fs ++ [aAt x] ++ cs) (.bool (p x))) : FnP Tryz.prog 164 [.sl (l.map aAt), .fn (.func F) fs cs] (.bool (l.any p)) := by
 refine FnP.of Tryz.func164 rfl rfl (by simp) (by simp [AV.cells, aIn, aOut, aAt, aMg, aEv, aRc, aRn, aAk, aKn, aEn, aQu]) (fun G hG => ?_)
 have hN : NoH G.length (.bool (l.any p)) := (by simp [AV.cells, aIn, aOut, aAt, aMg, aEv, aRc, aRn, aAk, aKn, aEn, aQu])
 refine sr fun _ => ?_
 refine mz (sr fun _ => ?_)
 refine mv ?_
 refine mv ?_
 refine ρk cf181 (fun hg => indexAt F fs cs p l hl hcf hn hp) ?_
 refine ρ6 ?_
 refine mz ?_
 refine AWP.ret ?_
 refine ρ9 ?_
 rw [← any_idx]
theorem knF_fn (a : At) (k : Kn) (hl : k.ranges.length ≤ 1000000) : FnP Tryz.prog 162 [aAt a, .pe [.int .i64 k.base, .sl (k.ranges.map aRn), .sl (k.atts.map aAt)]] (.bool (hasR k.ranges a.t)) := by
 refine FnP.of Tryz.func162 rfl rfl (by simp) (by simp [AV.cells, aIn, aOut, aAt, aMg, aEv, aRc, aRn, aAk, aKn, aEn, aQu]) (fun G hG => ?_)
 have hN : NoH G.length (.bool (hasR k.ranges a.t)) := (by simp [AV.cells, aIn, aOut, aAt, aMg, aEv, aRc, aRn, aAk, aKn, aEn, aQu])
 refine sr fun _ => ?_
 refine ρt ?_
 refine mz (sr fun _ => ?_)
 refine ρ0 U164 sz162 ?_
 refine ρ2 U162 ?_
 refine ρ0 U58 sz3 ?_
 refine ρ2 U3 ?_
 refine ρk cf163 (fun hg => hasR_fn k.ranges a.t hl) ?_
 refine mz ?_
 refine AWP.ret ?_
 refine ρ9 ?_
 rfl
theorem known_fn (k : Kn) (h1l : k.ranges.length ≤ 1000000) (h2l : k.atts.length ≤ 1000000) : FnP Tryz.prog 144 [aKn k] (.int .i64 (knownE k)) := by
 refine FnP.of Tryz.func144 rfl rfl (by simp) (by simp [AV.cells, aIn, aOut, aAt, aMg, aEv, aRc, aRn, aAk, aKn, aEn, aQu]) (fun G hG => ?_)
 have hN : NoH G.length (.int .i64 (knownE k)) := (by simp [AV.cells, aIn, aOut, aAt, aMg, aEv, aRc, aRn, aAk, aKn, aEn, aQu])
 refine sr fun _ => ?_
 refine ρt ?_
 refine mz ?_
 refine AWP.seq (sr fun _ => ?_)
 refine ρ0 U164 sz3 ?_
 refine ρ2 U3 ?_
 refine ρ6 ?_
 refine mv ?_
 refine ρ5 U164 sz3 ?_
 refine ρ4 U3 ?_
 refine ρb ?_
 refine ρ3 ?_
 refine mv ?_
 refine ρ5 U164 sz162 ?_
 refine ρ4 U162 ?_
 refine ρi cf149 (fun hg => ranges_fn k.ranges h1l) ?_
 refine ρb ?_
 refine ρ3 ?_
 refine mv ?_
 refine ρ5 U164 sz23 ?_
 refine ρ4 U23 ?_
 refine ARun.lenSl rfl rfl rfl rfl U23 (Ev.opt rfl (fun h => h)) optS ?_
 refine ρb ?_
 refine ρ3 ?_
 refine mv ?_
 refine ρ5 U164 sz23 ?_
 refine ρ4 U23 ?_
 refine ρ5 U164 sz3 ?_
 refine ρ4 U3 ?_
 refine ARun.call rfl rfl rfl rfl cf161 (ep rfl) (.cons (Ev.opt rfl (fun h => h)) (.cons (Ev.opt rfl (fun h => h)) (.cons (ep rfl) .nil))) rfl (fun hg => rise_fn k.atts k.base 1000000 h2l) optS ?_
 refine ARun.not rfl rfl rfl rfl (Ev.opt rfl (fun h => h)) optS ?_
 refine ρ3 ?_
 refine ez ?_
 refine ρo (fun h0 => ?_) (fun h0 => ?_)
 · rw [List.length_map] at h0
   change knBad k = true at h0
   refine sr fun _ => ?_
   refine mz ?_
   refine AWP.ret (thenA_r ?_)
   refine ρ9 ?_
   rw [knownE, if_pos h0]; rfl
 rw [List.length_map] at h0
 change knBad k = false at h0
 have hkb : 0 ≤ k.base ∧ k.base ≤ 1000000 := by
   unfold knBad at h0
   simp only [Bool.or_eq_false_iff, decide_eq_false_iff_not] at h0
   omega
 refine AWP.skip (thenA_n ?_)
 refine AWP.seq (AWP.seq ?_)
 refine AWP.draw mixed (by kernel_rfl) (fun _ => ?_)
 refine ρ0 U164 sz162 ?_
 refine ρ2 U162 ?_
 refine ρq U162 ?_
 refine ρ6 ?_
 refine mv ?_
 refine ρ5 U164 sz162 ?_
 refine ρ4 U162 ?_
 first | refine ARun.indexSl rfl rfl rfl rfl U162 sz167 (Ev.opt rfl (fun h => h)) (ep rfl) (fun _ => rfl) (fun hg => getMap _ _ _ (by first | omega | (simp at hg; omega))) rfl rfl optS ?_ | refine ARun.indexSl rfl rfl rfl rfl U162 sz167 (Ev.opt rfl (fun h => h)) (ep rfl) (fun hg => ofNonneg (by first | omega | (simp at hg; omega))) (fun hg => getMap _ _ _ (by first | omega | (simp at hg; omega))) rfl rfl optS ?_
 refine ρu U167 sz3 ?_
 refine ρ4 U3 ?_
 refine ρ5 U164 sz3 ?_
 refine ρ4 U3 ?_
 first | refine ARun.arith rfl rfl rfl rfl (Ev.opt rfl (fun h => h)) (ep rfl) rfl (fun hg => i64w (by first | omega | (simp at hg; omega))) optS ?_ | refine ARun.arith rfl rfl rfl rfl (Ev.opt rfl (fun h => h)) (ep rfl) rfl (fun _ => rfl) optS ?_
 refine ρm ?_
 refine ρ1 ?_
 refine ⟨by kernel_rfl, _, _, rfl, hG, ?_⟩
 refine thenA_n ?_
 refine ρo (fun h1 => ?_) (fun h1 => ?_)
 · rw [List.length_map] at h1
   change knNear k = true at h1
   refine sr fun _ => ?_
   refine mz ?_
   refine AWP.ret (thenA_r ?_)
   refine ρ9 ?_
   rw [knownE, if_neg (by rw [h0]; decide), if_pos h1]; rfl
 rw [List.length_map] at h1
 change knNear k = false at h1
 refine AWP.skip (thenA_n (sr fun _ => ?_))
 refine ARun.makeFunc rfl rfl rfl rfl .nil (.cons (ep rfl) .nil) optN ?_
 refine mz ?_
 refine AWP.seq (sr fun _ => ?_)
 refine ρ0 U164 sz23 ?_
 refine ρ2 U23 ?_
 refine mv ?_
 refine ARun.call rfl rfl rfl rfl cf164 (ep rfl) (.cons (ep rfl) (.cons (ep rfl) .nil)) rfl (fun hg => containsAt 162 [] [.pe [.int .i64 k.base, .sl (k.ranges.map aRn), .sl (k.atts.map aAt)]] (fun a => hasR k.ranges a.t) k.atts (by omega) cf162 (by simp [AV.cells, aRn, aAt]) (fun x _ => knF_fn x k h1l)) optN ?_
 refine ez ?_
 refine ρo (fun h2 => ?_) (fun h2 => ?_)
 · refine sr fun _ => ?_
   refine mz ?_
   refine AWP.ret (thenA_r ?_)
   refine ρ9 ?_
   rw [knownE, if_neg (by rw [h0]; decide), if_neg (by rw [h1]; decide), if_pos h2]; rfl
 refine AWP.skip (thenA_n (sr fun _ => ?_))
 refine mz ?_
 refine AWP.ret ?_
 refine ρ9 ?_
 rw [knownE, if_neg (by rw [h0]; decide), if_neg (by rw [h1]; decide), if_neg (by rw [h2]; decide)]; rfl
theorem many_fn (n : Int) : FnP Tryz.prog 158 [.int .i64 n] (.bool (decide (3 ≤ n) && decide (n ≤ 9))) := by
 refine FnP.of Tryz.func158 rfl rfl (by simp) (by simp [AV.cells, aIn, aOut, aAt, aMg, aEv, aRc, aRn, aAk, aKn, aEn, aQu]) (fun G hG => ?_)
 have hN : NoH G.length (.bool (decide (3 ≤ n) && decide (n ≤ 9))) := (by simp [AV.cells, aIn, aOut, aAt, aMg, aEv, aRc, aRn, aAk, aKn, aEn, aQu])
 refine sr fun _ => ?_
 refine mz (sr fun _ => ?_)
 refine mv ?_
 refine ρ6 ?_
 refine mv ?_
 refine ρh ?_
 refine ρb ?_
 refine ρ1 ?_
 refine mz ?_
 refine AWP.ret ?_
 refine ρ9 ?_
 rfl
theorem most_fn (n : Int) : FnP Tryz.prog 166 [.int .i64 n] (.int .i64 (mostP n)) := by
 refine FnP.of Tryz.func166 rfl rfl (by simp) (by simp [AV.cells, aIn, aOut, aAt, aMg, aEv, aRc, aRn, aAk, aKn, aEn, aQu]) (fun G hG => ?_)
 have hN : NoH G.length (.int .i64 (mostP n)) := (by simp [AV.cells, aIn, aOut, aAt, aMg, aEv, aRc, aRn, aAk, aKn, aEn, aQu])
 refine sr fun _ => ?_
 refine mz ?_
 refine AWP.seq (sr fun _ => ?_)
 refine mv ?_
 refine ρf cf158 (fun hg => many_fn n) ?_
 refine ARun.not rfl rfl rfl rfl (ep rfl) optN ?_
 refine ez ?_
 refine ρo (fun h0 => ?_) (fun h0 => ?_)
 · refine sr fun _ => ?_
   refine mz ?_
   refine AWP.ret (thenA_r ?_)
   refine ρ9 ?_
   rw [mostP, if_pos h0]; rfl
 have hn : 3 ≤ n ∧ n ≤ 9 := by simpa using h0
 have hq : 1 ≤ n.tdiv 2 ∧ n.tdiv 2 ≤ 4 := by rw [Int.tdiv_eq_ediv_of_nonneg (by omega)]; omega
 refine AWP.skip (thenA_n (sr fun _ => ?_))
 refine mv ?_
 refine ARun.quoI rfl rfl rfl rfl (ep rfl) (ep rfl) (fun _ => by decide) (fun hg => i64w (by first | omega | (rw [Int.tdiv_eq_ediv_of_nonneg (by omega)]; omega))) optN ?_
 first | refine ARun.arith rfl rfl rfl rfl (ep rfl) (ep rfl) rfl (fun hg => i64w (by first | omega | (rw [Int.tdiv_eq_ediv_of_nonneg (by omega)]; omega))) optN ?_ | refine ρg ?_
 refine mz ?_
 refine AWP.ret ?_
 refine ρ9 ?_
 rw [mostP, if_neg (by rw [h0]; decide)]
theorem stbF_fn (x : Int) : FnP Tryz.prog 167 [.int .i64 x] (.bool (markBad x)) := by
 refine FnP.of Tryz.func167 rfl rfl (by simp) (by simp [AV.cells, aIn, aOut, aAt, aMg, aEv, aRc, aRn, aAk, aKn, aEn, aQu]) (fun G hG => ?_)
 have hN : NoH G.length (.bool (markBad x)) := (by simp [AV.cells, aIn, aOut, aAt, aMg, aEv, aRc, aRn, aAk, aKn, aEn, aQu])
 refine sr fun _ => ?_
 refine mz (sr fun _ => ?_)
 refine mv ?_
 refine ρ6 ?_
 refine mv ?_
 refine ρh ?_
 refine ρb ?_
 refine ρ3 ?_
 refine mz ?_
 refine AWP.ret ?_
 refine ρ9 ?_
 rfl
theorem stable_fn (l : List Int) (n : Int) (hl : l.length ≤ 1000000) : FnP Tryz.prog 147 [.sl (l.map (AV.int .i64)), .int .i64 n] (.int .i64 (stableE l n)) := by
 refine FnP.of Tryz.func147 rfl rfl (by simp) (by simp [AV.cells, aIn, aOut, aAt, aMg, aEv, aRc, aRn, aAk, aKn, aEn, aQu]) (fun G hG => ?_)
 have hN : NoH G.length (.int .i64 (stableE l n)) := (by simp [AV.cells, aIn, aOut, aAt, aMg, aEv, aRc, aRn, aAk, aKn, aEn, aQu])
 refine sr fun _ => ?_
 refine mz ?_
 refine AWP.seq (sr fun _ => ?_)
 refine mv ?_
 refine ρf cf166 (fun hg => most_fn n) ?_
 refine ρ6 ?_
 refine mv ?_
 refine ρh ?_
 refine ARun.lenSl rfl rfl rfl rfl U24 (Ev.opt rfl (fun h => h)) optS ?_
 refine ρh ?_
 refine ρm ?_
 refine ρ3 ?_
 refine ez ?_
 refine ρo (fun h0 => ?_) (fun h0 => ?_)
 · rw [List.length_map] at h0
   refine sr fun _ => ?_
   refine mz ?_
   refine AWP.ret (thenA_r ?_)
   refine ρ9 ?_
   rw [stableE, if_pos h0]; rfl
 rw [List.length_map] at h0
 refine AWP.skip (thenA_n (sr fun _ => ?_))
 refine mz ?_
 refine AWP.seq (sr fun _ => ?_)
 refine mv ?_
 refine mv ?_
 refine ARun.call rfl rfl rfl rfl cf39 (ep rfl) (.cons (ep rfl) (.cons (ep rfl) .nil)) rfl (fun hg => containsI 167 [] [] markBad l (by omega) cf167 (by simp) (fun x _ => stbF_fn x)) optN ?_
 refine ez ?_
 refine ρo (fun h1 => ?_) (fun h1 => ?_)
 · refine sr fun _ => ?_
   refine mz ?_
   refine AWP.ret (thenA_r ?_)
   refine ρ9 ?_
   rw [stableE, if_neg (by rw [h0]; decide), if_pos h1]; rfl
 refine AWP.skip (thenA_n (sr fun _ => ?_))
 refine mz ?_
 refine AWP.ret ?_
 refine ρ9 ?_
 rw [stableE, if_neg (by rw [h0]; decide), if_neg (by rw [h1]; decide)]; rfl
theorem sweep_fn (m : List (List Int)) (n : Int) (hl : m.length ≤ 1000000) (hr : ∀ l, l ∈ m → l.length ≤ 1000000) : FnP Tryz.prog 146 [.sl (m.map fun l => AV.sl (l.map (AV.int .i64))), .int .i64 n] (.int .i64 (sweepE m n)) := by
 refine FnP.of Tryz.func146 rfl rfl (by simp) (by simp [AV.cells, aIn, aOut, aAt, aMg, aEv, aRc, aRn, aAk, aKn, aEn, aQu]) (fun G hG => ?_)
 have hN : NoH G.length (.int .i64 (sweepE m n)) := (by simp [AV.cells, aIn, aOut, aAt, aMg, aEv, aRc, aRn, aAk, aKn, aEn, aQu])
 refine sr fun _ => ?_
 refine mz ?_
 refine AWP.seq (sr fun _ => ?_)
 refine mv ?_
 refine ρf cf166 (fun hg => most_fn n) ?_
 refine ρ6 ?_
 refine mv ?_
 refine ρh ?_
 refine ARun.lenSl rfl rfl rfl rfl U55 (Ev.opt rfl (fun h => h)) optS ?_
 refine ρh ?_
 refine ρm ?_
 refine ρ3 ?_
 refine ez ?_
 refine ρo (fun h0 => ?_) (fun h0 => ?_)
 · rw [List.length_map] at h0
   refine sr fun _ => ?_
   refine mz ?_
   refine AWP.ret (thenA_r ?_)
   refine ρ9 ?_
   rw [sweepE, if_pos h0]; rfl
 rw [List.length_map] at h0
 refine AWP.skip (thenA_n (AWP.seq (sr fun _ => ?_)))
 refine mv ?_
 refine ρq U55 ?_
 refine mv ?_
 refine ez ?_
 refine AWP.block ?_
 refine AWP.rounds (fun k => k ≤ m.length ∧ ∀ j, j < k → sweepBad m n j = false) (fun k => [(0, .sl (m.map fun l => AV.sl (l.map (AV.int .i64)))), (1, .int .i64 n), (17, .sl (m.map fun l => AV.sl (l.map (AV.int .i64)))), (18, .int .i64 ((m.map fun l => AV.sl (l.map (AV.int .i64))).length : Int)), (19, .int .i64 (k : Int))]) (fun k => []) (fun k => m.length - k) 0 0 ⟨by omega, fun j h => by omega⟩ (by repeat (first | exact .nil | refine .cons rfl ?_)) rfl (fun _ => rfl) (fun _ => ⟨by simp [AV.cells], by simp⟩) (fun k hI => ?_)
 obtain ⟨hk, hno⟩ := hI
 refine sr fun _ => ?_
 refine ρ6 ?_
 refine ez ?_
 refine AWP.seq ?_
 refine ρo (fun h1 => ?_) (fun h1 => ?_)
 · try simp [-List.getD_eq_getElem?_getD] at h1
   refine AWP.skip (thenA_n ?_)
   refine AWP.seq (AWP.block (sr fun _ => ?_))
   first | refine ρa U55 sz24 ?_ | refine ρ7 U55 sz24 ?_
   refine ρ2 U24 ?_
   refine mz (sr fun _ => ?_)
   refine mv ?_
   refine mv ?_
   refine ARun.call rfl rfl rfl rfl cf147 (ep rfl) (.cons (ep rfl) (.cons (ep rfl) .nil)) rfl (fun hg => stable_fn (m.getD k default) n (by rw [List.getD, List.getElem?_eq_getElem (by omega)]; exact hr _ (List.getElem_mem _))) optN ?_
   refine mz (sr fun _ => ?_)
   refine mv ?_
   refine ρ6 ?_
   refine ez ?_
   refine ρo (fun h2 => ?_) (fun h2 => ?_)
   · change sweepBad m n k = true at h2
     have h2e : stableE (m.getD k default) n = 2 := by
       unfold sweepBad at h2
       rcases stable_two (m.getD k default) n with e | e
       · rw [e] at h2; cases h2
       exact e
     refine sr fun _ => ?_
     refine mv ?_
     refine mz ?_
     refine AWP.ret (blockA_r ?_)
     refine thenA_r (thenA_r ?_)
     refine blockA_r (thenA_r ?_)
     refine ρ9 ?_
     rw [h2e, sweepE, if_neg (by rw [h0]; decide), if_pos (any_hit (by omega) h2)]
   change sweepBad m n k = false at h2
   refine AWP.skip (blockA_n (thenA_n ?_))
   refine AWP.region (fun _ => ?_)
   first | refine ρd ?_ | refine ρg ?_
   refine mv ?_
   refine ⟨_, _, rfl, hG, ?_⟩
   refine thenA_n ⟨rfl, k + 1, _, ?_, ?_, rfl, ?_⟩
   · refine ⟨by omega, fun j hj => ?_⟩
     by_cases e : j = k
     · subst e; exact h2
     exact hno j (by omega)
   · repeat (first | exact .nil | refine .cons rfl ?_)
   omega
 simp at h1
 obtain rfl : k = m.length := by omega
 refine AWP.exit ?_
 refine thenA_x ?_
 refine thenA_x ?_
 refine blockA_h ?_
 refine thenA_n (sr fun _ => ?_)
 refine mz ?_
 refine AWP.ret ?_
 refine ρ9 ?_
 rw [sweepE, if_neg (by rw [h0]; decide), if_neg (by rw [any_none (fun j hj => hno j (by omega))]; decide)]; rfl
theorem phase_fn (p : Int) : FnP Tryz.prog 189 [.int .i64 p] (.int .i64 (phaseE p)) := by
 refine FnP.of Tryz.func189 rfl rfl (by simp) (by simp [AV.cells, aIn, aOut, aAt, aMg, aEv, aRc, aRn, aAk, aKn, aEn, aQu]) (fun G hG => ?_)
 have hN : NoH G.length (.int .i64 (phaseE p)) := (by simp [AV.cells, aIn, aOut, aAt, aMg, aEv, aRc, aRn, aAk, aKn, aEn, aQu])
 refine sr fun _ => ?_
 refine mz ?_
 refine AWP.seq (sr fun _ => ?_)
 refine mv ?_
 refine ρ6 ?_
 refine mv ?_
 refine ρh ?_
 refine ρb ?_
 refine ρ3 ?_
 refine ez ?_
 refine ρo (fun h0 => ?_) (fun h0 => ?_)
 · refine sr fun _ => ?_
   refine mz ?_
   refine AWP.ret (thenA_r ?_)
   refine ρ9 ?_
   rw [phaseE, if_pos h0]; rfl
 refine AWP.skip (thenA_n (sr fun _ => ?_))
 refine mz ?_
 refine AWP.ret ?_
 refine ρ9 ?_
 rw [phaseE, if_neg (by rw [h0]; decide)]; rfl
theorem openPh_fn (p : Int) : FnP Tryz.prog 173 [.int .i64 p] (.bool (openPh p)) := by
 refine FnP.of Tryz.func173 rfl rfl (by simp) (by simp [AV.cells, aIn, aOut, aAt, aMg, aEv, aRc, aRn, aAk, aKn, aEn, aQu]) (fun G hG => ?_)
 have hN : NoH G.length (.bool (openPh p)) := (by simp [AV.cells, aIn, aOut, aAt, aMg, aEv, aRc, aRn, aAk, aKn, aEn, aQu])
 refine sr fun _ => ?_
 refine mz (sr fun _ => ?_)
 refine mv ?_
 refine ρ6 ?_
 refine mv ?_
 refine ρh ?_
 refine ρb ?_
 refine ρ1 ?_
 refine mz ?_
 refine AWP.ret ?_
 refine ρ9 ?_
 rfl
theorem propPh_fn (p : Int) : FnP Tryz.prog 183 [.int .i64 p] (.bool (propPh p)) := by
 refine FnP.of Tryz.func183 rfl rfl (by simp) (by simp [AV.cells, aIn, aOut, aAt, aMg, aEv, aRc, aRn, aAk, aKn, aEn, aQu]) (fun G hG => ?_)
 have hN : NoH G.length (.bool (propPh p)) := (by simp [AV.cells, aIn, aOut, aAt, aMg, aEv, aRc, aRn, aAk, aKn, aEn, aQu])
 refine sr fun _ => ?_
 refine mz (sr fun _ => ?_)
 refine mv ?_
 refine ρ6 ?_
 refine mv ?_
 refine ρh ?_
 refine ρb ?_
 refine ρ1 ?_
 refine mz ?_
 refine AWP.ret ?_
 refine ρ9 ?_
 rfl
theorem setlPh_fn (p : Int) : FnP Tryz.prog 174 [.int .i64 p] (.bool (setlPh p)) := by
 refine FnP.of Tryz.func174 rfl rfl (by simp) (by simp [AV.cells, aIn, aOut, aAt, aMg, aEv, aRc, aRn, aAk, aKn, aEn, aQu]) (fun G hG => ?_)
 have hN : NoH G.length (.bool (setlPh p)) := (by simp [AV.cells, aIn, aOut, aAt, aMg, aEv, aRc, aRn, aAk, aKn, aEn, aQu])
 refine sr fun _ => ?_
 refine mz (sr fun _ => ?_)
 refine mv ?_
 refine ρ6 ?_
 refine mv ?_
 refine ρh ?_
 refine ρb ?_
 refine ρ3 ?_
 refine mz ?_
 refine AWP.ret ?_
 refine ρ9 ?_
 rfl
theorem withinE_fn (n top : Int) : FnP Tryz.prog 182 [.int .i64 n, .int .i64 top] (.bool (within n top)) := by
 refine FnP.of Tryz.func182 rfl rfl (by simp) (by simp [AV.cells, aIn, aOut, aAt, aMg, aEv, aRc, aRn, aAk, aKn, aEn, aQu]) (fun G hG => ?_)
 have hN : NoH G.length (.bool (within n top)) := (by simp [AV.cells, aIn, aOut, aAt, aMg, aEv, aRc, aRn, aAk, aKn, aEn, aQu])
 refine sr fun _ => ?_
 refine mz (sr fun _ => ?_)
 refine mv ?_
 refine ρ6 ?_
 refine mv ?_
 refine ρh ?_
 refine ρh ?_
 refine ρm ?_
 refine ρ1 ?_
 refine mz ?_
 refine AWP.ret ?_
 refine ρ9 ?_
 rfl
theorem answer_fn (a : Ak) : FnP Tryz.prog 186 [aAk a] (.bool (answerP a)) := by
 refine FnP.of Tryz.func186 rfl rfl (by simp) (by simp [AV.cells, aIn, aOut, aAt, aMg, aEv, aRc, aRn, aAk, aKn, aEn, aQu]) (fun G hG => ?_)
 have hN : NoH G.length (.bool (answerP a)) := (by simp [AV.cells, aIn, aOut, aAt, aMg, aEv, aRc, aRn, aAk, aKn, aEn, aQu])
 refine sr fun _ => ?_
 refine ρt ?_
 refine mz (sr fun _ => ?_)
 refine ρ0 U181 sz3 ?_
 refine ρ2 U3 ?_
 refine ρ6 ?_
 refine mv ?_
 refine ρ5 U181 sz3 ?_
 refine ρ4 U3 ?_
 refine ρb ?_
 refine ρ1 ?_
 refine mv ?_
 refine ρ5 U181 sz3 ?_
 refine ρ4 U3 ?_
 refine ρb ?_
 refine ρ1 ?_
 refine mv ?_
 refine ρ5 U181 sz3 ?_
 refine ρ4 U3 ?_
 refine ρb ?_
 refine ρ1 ?_
 refine mv ?_
 refine ρ5 U181 sz3 ?_
 refine ρ4 U3 ?_
 refine ARun.call rfl rfl rfl rfl cf182 (ep rfl) (.cons (Ev.opt rfl (fun h => h)) (.cons (ep rfl) .nil)) rfl (fun hg => withinE_fn a.t 1000000) optS ?_
 refine ρ1 ?_
 refine mv ?_
 refine ρ5 U181 sz3 ?_
 refine ρ4 U3 ?_
 refine ARun.call rfl rfl rfl rfl cf182 (ep rfl) (.cons (Ev.opt rfl (fun h => h)) (.cons (ep rfl) .nil)) rfl (fun hg => withinE_fn a.bal 1000000) optS ?_
 refine ρ1 ?_
 refine mv ?_
 refine ρ5 U181 sz3 ?_
 refine ρ4 U3 ?_
 refine ARun.call rfl rfl rfl rfl cf182 (ep rfl) (.cons (Ev.opt rfl (fun h => h)) (.cons (ep rfl) .nil)) rfl (fun hg => withinE_fn a.abal 1000000) optS ?_
 refine ρ1 ?_
 refine mv ?_
 refine ρ5 U181 sz3 ?_
 refine ρ4 U3 ?_
 refine ρi cf189 (fun hg => phase_fn a.phase) ?_
 refine ρb ?_
 refine ρ1 ?_
 refine mz ?_
 refine AWP.ret ?_
 refine ρ9 ?_
 rfl
theorem ofA_fn (a : Ak) : FnP Tryz.prog 184 [aAk a] (aQu a) := by
 refine FnP.of Tryz.func184 rfl rfl (by simp) (by simp [AV.cells, aIn, aOut, aAt, aMg, aEv, aRc, aRn, aAk, aKn, aEn, aQu]) (fun G hG => ?_)
 have hN : NoH G.length (aQu a) := (by simp [AV.cells, aIn, aOut, aAt, aMg, aEv, aRc, aRn, aAk, aKn, aEn, aQu])
 refine sr fun _ => ?_
 refine ρt ?_
 refine ρp (j := 0) zv273 ?_
 refine ez (sr fun _ => ?_)
 refine ρ0 U181 sz3 ?_
 refine ρ2 U3 ?_
 refine ρ0 U181 sz3 ?_
 refine ρ2 U3 ?_
 refine ρ0 U181 sz3 ?_
 refine ρ2 U3 ?_
 refine ARun.build rfl rfl rfl rfl so273 (.cons (ep rfl) (.cons (ep rfl) (.cons (ep rfl) .nil))) rfl rfl optN ?_
 refine ρ8 sz273 ?_
 refine ez ?_
 refine AWP.ret ?_
 refine endF.one (.inr rfl) rfl (.cellA rfl ((hG.at _ _).trans rfl) U273 rfl sz273 rfl rfl) ?_ hN
 rfl
theorem is_fnA (q a : Ak) : FnP Tryz.prog 185 [aQu q, aAk a] (.bool (askedP q a)) := by
 refine FnP.of Tryz.func185 rfl rfl (by simp) (by simp [AV.cells, aIn, aOut, aAt, aMg, aEv, aRc, aRn, aAk, aKn, aEn, aQu]) (fun G hG => ?_)
 have hN : NoH G.length (.bool (askedP q a)) := (by simp [AV.cells, aIn, aOut, aAt, aMg, aEv, aRc, aRn, aAk, aKn, aEn, aQu])
 refine sr fun _ => ?_
 refine ρt ?_
 refine ρt ?_
 refine mz ?_
 refine AWP.seq ?_
 refine AWP.draw mixed (by kernel_rfl) (fun _ => ?_)
 refine ρl U181 sz181 ?_
 refine ρf cf184 (fun hg => ofA_fn a) ?_
 refine ρl U273 sz273 ?_
 refine ARun.eqAgg rfl rfl rfl rfl eq273 (ep rfl) (ep rfl) rfl (.inl ⟨rfl, rfl⟩) optN ?_
 refine ma ?_
 refine ⟨by kernel_rfl, _, _, rfl, hG, ?_⟩
 refine thenA_n (AWP.ret ?_)
 refine ρ9 ?_
 rfl
theorem indexAk (F : Nat) (fs cs : List AV) (p : Ak → Bool) (l : List Ak) (hl : l.length ≤ 9223372036854775807) (hcf : ∀ (vs : Array Value) (W : World), (callFunc F vs).run Tryz.prog W = .ok (.enter F vs) W) (hn : (∀ x, x ∈ fs → NoH 0 x) ∧ ∀ x, x ∈ cs → NoH 0 x) (hp : ∀ x, x ∈ l → FnP Tryz.prog F (fs ++ [aAk x] ++ cs) (.bool (p x))) : FnP Tryz.prog 190 [.sl (l.map aAk), .fn (.func F) fs cs] (.int .i64 (idxOf p l)) := by
 refine FnP.of Tryz.func190 rfl rfl (by simp) (by simp [AV.cells, aIn, aOut, aAt, aMg, aEv, aRc, aRn, aAk, aKn, aEn, aQu]) (fun G hG => ?_)
 have hN : NoH G.length (.int .i64 (idxOf p l)) := (by simp [AV.cells, aIn, aOut, aAt, aMg, aEv, aRc, aRn, aAk, aKn, aEn, aQu])
 refine sr fun _ => ?_
 refine mz ?_
 refine AWP.seq (sr fun _ => ?_)
 refine mv ?_
 refine ρq U176 ?_
 refine mv ?_
 refine ez ?_
 refine AWP.block ?_
 refine AWP.rounds (fun k => k ≤ l.length ∧ ∀ j, j < k → p (l.getD j default) = false) (fun k => [(0, .sl (l.map aAk)), (1, .fn (.func F) fs cs), (7, .int .i64 ((l.map aAk).length : Int)), (8, .int .i64 (k : Int))]) (fun k => []) (fun k => l.length - k) 0 0 ⟨by omega, fun j h => by omega⟩ (by repeat (first | exact .nil | refine .cons rfl ?_)) rfl (fun _ => rfl) (fun _ => ⟨by simp [AV.cells, aIn, aOut, aAt, aMg, aEv, aRc, aRn, aAk, aKn, aEn, aQu]; exact ⟨fun x hx => (hn.1 x hx).mono (by omega), fun x hx => (hn.2 x hx).mono (by omega)⟩, by simp⟩) (fun k hI => ?_)
 obtain ⟨hk, hno⟩ := hI
 refine sr fun _ => ?_
 refine ρ6 ?_
 refine ez ?_
 refine AWP.seq ?_
 refine ρo (fun h0 => ?_) (fun h0 => ?_)
 · try simp [-List.getD_eq_getElem?_getD] at h0
   refine AWP.skip (thenA_n ?_)
   refine AWP.seq (AWP.block (sr fun _ => ?_))
   refine mv ?_
   refine mz (sr fun _ => ?_)
   refine mv ?_
   refine mv ?_
   refine mv ?_
   first | refine ρa U176 sz181 ?_ | refine ρ7 U176 sz181 ?_
   refine ρl U181 sz181 ?_
   refine ARun.call rfl rfl rfl rfl hcf (ep rfl) (.cons (ep rfl) .nil) rfl (fun hg => hp _ (by rw [List.getD, List.getElem?_eq_getElem h0]; exact List.getElem_mem h0)) optN ?_
   refine ez ?_
   refine ρo (fun h1 => ?_) (fun h1 => ?_)
   · try simp [-List.getD_eq_getElem?_getD] at h1
     refine sr fun _ => ?_
     refine mv ?_
     refine mz ?_
     refine AWP.ret (blockA_r ?_)
     refine thenA_r (thenA_r ?_)
     refine blockA_r (thenA_r ?_)
     refine ρ9 ?_
     rw [idx_hit h0 hno h1]
   try simp [-List.getD_eq_getElem?_getD] at h1
   refine AWP.skip (blockA_n (thenA_n ?_))
   refine AWP.region (fun _ => ?_)
   first | refine ρd ?_ | refine ρg ?_
   refine mv ?_
   refine ⟨_, _, rfl, hG, ?_⟩
   refine thenA_n ⟨rfl, k + 1, _, ?_, ?_, rfl, ?_⟩
   · refine ⟨by omega, fun j hj => ?_⟩
     by_cases e : j = k
     · subst e; exact h1
     exact hno j (by omega)
   · repeat (first | exact .nil | refine .cons rfl ?_)
   omega
 try simp [-List.getD_eq_getElem?_getD] at h0
 refine AWP.exit ?_
 refine thenA_x ?_
 refine thenA_x ?_
 refine blockA_h ?_
 refine thenA_n (sr fun _ => ?_)
 refine mz ?_
 refine AWP.ret ?_
 refine ρ9 ?_
 rw [idx_none (fun j hj => hno j (by omega))]; rfl
theorem containsAk (F : Nat) (fs cs : List AV) (p : Ak → Bool) (l : List Ak) (hl : l.length ≤ 9223372036854775807) (hcf : ∀ (vs : Array Value) (W : World), (callFunc F vs).run Tryz.prog W = .ok (.enter F vs) W) (hn : (∀ x, x ∈ fs → NoH 0 x) ∧ ∀ x, x ∈ cs → NoH 0 x) (hp : ∀ x, x ∈ l → FnP Tryz.prog F (fs ++ [aAk x] ++ cs) (.bool (p x))) : FnP Tryz.prog 187 [.sl (l.map aAk), .fn (.func F) fs cs] (.bool (l.any p)) := by
 refine FnP.of Tryz.func187 rfl rfl (by simp) (by simp [AV.cells, aIn, aOut, aAt, aMg, aEv, aRc, aRn, aAk, aKn, aEn, aQu]) (fun G hG => ?_)
 have hN : NoH G.length (.bool (l.any p)) := (by simp [AV.cells, aIn, aOut, aAt, aMg, aEv, aRc, aRn, aAk, aKn, aEn, aQu])
 refine sr fun _ => ?_
 refine mz (sr fun _ => ?_)
 refine mv ?_
 refine mv ?_
 refine ρk cf190 (fun hg => indexAk F fs cs p l hl hcf hn hp) ?_
 refine ρ6 ?_
 refine mz ?_
 refine AWP.ret ?_
 refine ρ9 ?_
 rw [← any_idx]
theorem containsAk_at {v : List AV} {l : List Ak} (hv : l.map aAk = v) (F : Nat) (fs cs : List AV) (p : Ak → Bool) (l2 : List Ak) (hl : l2.length ≤ 9223372036854775807) (hcf : ∀ (vs : Array Value) (W : World), (callFunc F vs).run Tryz.prog W = .ok (.enter F vs) W) (hn : (∀ x, x ∈ fs → NoH 0 x) ∧ ∀ x, x ∈ cs → NoH 0 x) (hp : ∀ x, x ∈ l2 → FnP Tryz.prog F (fs ++ [aAk x] ++ cs) (.bool (p x))) (e : l2 = l := by rfl) : FnP Tryz.prog 187 [.sl v, .fn (.func F) fs cs] (.bool (l2.any p)) := by subst e; exact hv ▸ containsAk F fs cs p l2 hl hcf hn hp
theorem acks_fn (l : List Ak) (hl : l.length ≤ 1000000) : FnP Tryz.prog 177 [.sl (l.map aAk)] (.bool (acksP l)) := by
 refine FnP.of Tryz.func177 rfl rfl (by simp) (by simp [AV.cells, aIn, aOut, aAt, aMg, aEv, aRc, aRn, aAk, aKn, aEn, aQu]) (fun G hG => ?_)
 have hN : NoH G.length (.bool (acksP l)) := (by simp [AV.cells, aIn, aOut, aAt, aMg, aEv, aRc, aRn, aAk, aKn, aEn, aQu])
 refine sr fun _ => ?_
 refine mz ?_
 refine AWP.seq (sr fun _ => ?_)
 refine mv ?_
 refine ρq U176 ?_
 refine mv ?_
 refine ez ?_
 refine AWP.block ?_
 refine AWP.rounds (fun k => k ≤ l.length ∧ ∀ j, j < k → ackBad l j = false) (fun k => [(0, .sl (l.map aAk)), (6, .sl (l.map aAk)), (7, .int .i64 ((l.map aAk).length : Int)), (8, .int .i64 (k : Int))]) (fun k => []) (fun k => l.length - k) 0 0 ⟨by omega, fun j h => by omega⟩ (by repeat (first | exact .nil | refine .cons rfl ?_)) rfl (fun _ => rfl) (fun _ => ⟨by simp [AV.cells, aAk], by simp⟩) (fun k hI => ?_)
 obtain ⟨hk, hno⟩ := hI
 refine sr fun _ => ?_
 refine ρ6 ?_
 refine ez ?_
 refine AWP.seq ?_
 refine ρo (fun h0 => ?_) (fun h0 => ?_)
 · try simp [-List.getD_eq_getElem?_getD] at h0
   refine AWP.skip (thenA_n ?_)
   refine AWP.seq (AWP.block (sr fun _ => ?_))
   refine mv ?_
   first | refine ρa U176 sz181 ?_ | refine ρ7 U176 sz181 ?_
   refine ρl U181 sz181 ?_
   refine ρp (j := 0) zv181 ?_
   refine ma ?_
   refine ρ8 sz181 ?_
   refine ez ?_
   refine AWP.seq ?_
   refine AWP.frzBox 4 hG rfl rfl rfl ?_
   refine AWP.region (fun _ => ?_)
   refine ρl U181 sz181 ?_
   refine ρf cf184 (fun hg => ofA_fn (l.getD k default)) ?_
   refine ARun.makeFunc rfl rfl rfl rfl (.cons (ep rfl) .nil) .nil optN ?_
   refine mz (sr fun _ => ?_)
   refine ρl U181 sz181 ?_
   refine ρf cf186 (fun hg => answer_fn (l.getD k default)) ?_
   refine ARun.not rfl rfl rfl rfl (ep rfl) optN ?_
   refine mv ?_
   refine ρh ?_
   refine ρh ?_
   refine ARun.cutSl (a := 0) (b := k) rfl rfl rfl rfl U176 sz181 (Ev.opt rfl (fun h => h)) (fun _ => (by simp [AV.cells, aAk])) (fun _ => rfl) ⟨_, _, (Ev.opt rfl (fun h => h)), fun hg => (by (try simp at hg); omega)⟩ (fun hg => (by rw [List.length_map]; omega)) rfl optS ?_
   refine ρh ?_
   refine ARun.call rfl rfl rfl rfl cf187 (ep rfl) (.cons (Ev.opt rfl (fun h => h)) (.cons (Ev.opt rfl (fun h => h)) .nil)) rfl (fun hg => containsAk_at List.map_take 185 [aQu (l.getD k default)] [] (fun a => askedP (l.getD k default) a) (l.take k) (by rw [List.length_take]; omega) cf185 (by simp [aQu]) (fun x _ => is_fnA (l.getD k default) x)) optS ?_
   refine ρ3 ?_
   refine ez ?_
   refine ρo (fun h1 => ?_) (fun h1 => ?_)
   · change ackBad l k = true at h1
     refine sr fun _ => ?_
     refine mz ?_
     refine AWP.ret (blockA_r ?_)
     refine thenA_r (thenA_r ?_)
     refine blockA_r (thenA_r ?_)
     refine ρ9 ?_
     rw [acksP, if_pos (any_hit (by omega) h1)]; rfl
   change ackBad l k = false at h1
   refine AWP.skip (blockA_n (thenA_n ?_))
   refine AWP.region (fun _ => ?_)
   first | refine ρd ?_ | refine ρg ?_
   refine mv ?_
   refine ⟨_, _, rfl, hG, ?_⟩
   refine thenA_n ⟨rfl, k + 1, _, ?_, ?_, rfl, ?_⟩
   · refine ⟨by omega, fun j hj => ?_⟩
     by_cases e : j = k
     · subst e; exact h1
     exact hno j (by omega)
   · repeat (first | exact .nil | refine .cons rfl ?_)
   omega
 simp at h0
 obtain rfl : k = l.length := by omega
 refine AWP.exit ?_
 refine thenA_x ?_
 refine thenA_x ?_
 refine blockA_h ?_
 refine thenA_n (sr fun _ => ?_)
 refine mv ?_
 refine ρq U176 ?_
 refine ρ6 ?_
 refine mz ?_
 refine AWP.ret ?_
 refine ρ9 ?_
 rw [acksP, if_neg (by rw [any_none (fun j hj => hno j (by omega))]; decide), List.length_map]
theorem numbersE_fn (e : En) : FnP Tryz.prog 175 [aEn e] (.bool (numbersP e)) := by
 refine FnP.of Tryz.func175 rfl rfl (by simp) (by simp [AV.cells, aIn, aOut, aAt, aMg, aEv, aRc, aRn, aAk, aKn, aEn, aQu]) (fun G hG => ?_)
 have hN : NoH G.length (.bool (numbersP e)) := (by simp [AV.cells, aIn, aOut, aAt, aMg, aEv, aRc, aRn, aAk, aKn, aEn, aQu])
 refine sr fun _ => ?_
 refine ρt ?_
 refine mz (sr fun _ => ?_)
 refine ρ0 U178 sz3 ?_
 refine ρ2 U3 ?_
 refine ρk cf182 (fun hg => withinE_fn e.t 1000000) ?_
 refine mv ?_
 refine ρ5 U178 sz3 ?_
 refine ρ4 U3 ?_
 refine ARun.call rfl rfl rfl rfl cf182 (ep rfl) (.cons (Ev.opt rfl (fun h => h)) (.cons (ep rfl) .nil)) rfl (fun hg => withinE_fn e.bal 1000000) optS ?_
 refine ρ1 ?_
 refine mv ?_
 refine ρ5 U178 sz3 ?_
 refine ρ4 U3 ?_
 refine ρ5 U178 sz3 ?_
 refine ρ4 U3 ?_
 refine ARun.call rfl rfl rfl rfl cf182 (ep rfl) (.cons (Ev.opt rfl (fun h => h)) (.cons (Ev.opt rfl (fun h => h)) .nil)) rfl (fun hg => withinE_fn e.abal e.bal) optS ?_
 refine ρ1 ?_
 refine mv ?_
 refine ρ5 U178 sz3 ?_
 refine ρ4 U3 ?_
 refine ARun.call rfl rfl rfl rfl cf182 (ep rfl) (.cons (Ev.opt rfl (fun h => h)) (.cons (ep rfl) .nil)) rfl (fun hg => withinE_fn e.seen 1000000) optS ?_
 refine ρ1 ?_
 refine mv ?_
 refine ρ5 U178 sz3 ?_
 refine ρ4 U3 ?_
 refine ARun.call rfl rfl rfl rfl cf182 (ep rfl) (.cons (Ev.opt rfl (fun h => h)) (.cons (ep rfl) .nil)) rfl (fun hg => withinE_fn e.age 1000000) optS ?_
 refine ρ1 ?_
 refine mz ?_
 refine AWP.ret ?_
 refine ρ9 ?_
 rfl
theorem toldE_fn (e : En) : FnP Tryz.prog 176 [aEn e] (.bool (toldE e)) := by
 refine FnP.of Tryz.func176 rfl rfl (by simp) (by simp [AV.cells, aIn, aOut, aAt, aMg, aEv, aRc, aRn, aAk, aKn, aEn, aQu]) (fun G hG => ?_)
 have hN : NoH G.length (.bool (toldE e)) := (by simp [AV.cells, aIn, aOut, aAt, aMg, aEv, aRc, aRn, aAk, aKn, aEn, aQu])
 refine sr fun _ => ?_
 refine ρt ?_
 refine mz (sr fun _ => ?_)
 refine ρ0 U178 sz3 ?_
 refine ρ2 U3 ?_
 refine ρf cf183 (fun hg => propPh_fn e.phase) ?_
 refine mv ?_
 refine ρ5 U178 sz3 ?_
 refine ρ4 U3 ?_
 refine ρi cf174 (fun hg => setlPh_fn e.phase) ?_
 refine ρ3 ?_
 refine mv ?_
 refine ρ5 U178 sz3 ?_
 refine ρ4 U3 ?_
 refine ρb ?_
 refine ρ3 ?_
 refine mz ?_
 refine AWP.seq (sr fun _ => ?_)
 refine mv ?_
 refine ρ0 U178 sz3 ?_
 refine ρ2 U3 ?_
 refine ρ6 ?_
 refine ARun.cmpB rfl rfl rfl rfl U4 (ep rfl) (ep rfl) rfl optN ?_
 refine ez ?_
 refine ρo (fun h0 => ?_) (fun h0 => ?_)
 · refine sr fun _ => ?_
   refine mz ?_
   refine AWP.ret (thenA_r ?_)
   refine ρ9 ?_
   rw [toldE, if_pos h0]; rfl
 refine AWP.skip (thenA_n (AWP.seq (sr fun _ => ?_)))
 refine ρ0 U178 sz3 ?_
 refine ρ2 U3 ?_
 refine ρ6 ?_
 refine mv ?_
 refine ρ5 U178 sz3 ?_
 refine ρ4 U3 ?_
 refine ρi cf174 (fun hg => setlPh_fn e.phase) ?_
 refine ρ3 ?_
 refine ez ?_
 refine ρo (fun h1 => ?_) (fun h1 => ?_)
 · refine sr fun _ => ?_
   refine mz ?_
   refine AWP.ret (thenA_r ?_)
   refine ρ9 ?_
   rw [toldE, if_neg (by rw [h0]; decide), if_pos h1]; rfl
 refine AWP.skip (thenA_n (sr fun _ => ?_))
 refine ρ0 U178 sz3 ?_
 refine ρ2 U3 ?_
 refine ρ6 ?_
 refine ρ0 U178 sz3 ?_
 refine ρ2 U3 ?_
 refine ρ6 ?_
 refine mv ?_
 refine ρ5 U178 sz3 ?_
 refine ρ4 U3 ?_
 refine ρb ?_
 refine ρ3 ?_
 refine ARun.cmpB rfl rfl rfl rfl U4 (ep rfl) (ep rfl) rfl optN ?_
 refine mz ?_
 refine AWP.ret ?_
 refine ρ9 ?_
 rw [toldE, if_neg (by rw [h0]; decide), if_neg (by rw [h1]; decide)]
theorem entry_fn (e : En) (hl : e.acks.length ≤ 1000000) : FnP Tryz.prog 159 [aEn e] (.int .i64 (entryE e)) := by
 refine FnP.of Tryz.func159 rfl rfl (by simp) (by simp [AV.cells, aIn, aOut, aAt, aMg, aEv, aRc, aRn, aAk, aKn, aEn, aQu]) (fun G hG => ?_)
 have hN : NoH G.length (.int .i64 (entryE e)) := (by simp [AV.cells, aIn, aOut, aAt, aMg, aEv, aRc, aRn, aAk, aKn, aEn, aQu])
 refine sr fun _ => ?_
 refine ρt ?_
 refine mz (sr fun _ => ?_)
 refine ρ0 U178 sz3 ?_
 refine ρ2 U3 ?_
 refine ρf cf173 (fun hg => openPh_fn e.phase) ?_
 refine mv ?_
 refine ρ5 U178 sz3 ?_
 refine ρ4 U3 ?_
 refine ρi cf174 (fun hg => setlPh_fn e.phase) ?_
 refine ρ3 ?_
 refine mz ?_
 refine AWP.seq (sr fun _ => ?_)
 refine ρ0 U178 sz3 ?_
 refine ρ2 U3 ?_
 refine ρf cf100 (fun hg => ident_fn e.id) ?_
 refine ρ6 ?_
 refine mv ?_
 refine ρh ?_
 refine ARun.not rfl rfl rfl rfl (Ev.opt rfl (fun h => h)) optS ?_
 refine ρ3 ?_
 refine mv ?_
 refine ρ5 U178 sz3 ?_
 refine ρ4 U3 ?_
 refine ρi cf134 (fun hg => count_fn e.quorum) ?_
 refine ρb ?_
 refine ρ3 ?_
 refine mv ?_
 refine ρ5 U178 sz9 ?_
 refine ρ4 U9 ?_
 refine ARun.lenStr rfl rfl rfl rfl U9 (Ev.opt rfl (fun h => h)) optS ?_
 refine ρb ?_
 refine ρ3 ?_
 refine ez ?_
 refine ρo (fun h0 => ?_) (fun h0 => ?_)
 · refine sr fun _ => ?_
   refine mz ?_
   refine AWP.ret (thenA_r ?_)
   refine ρ9 ?_
   rw [entryE, if_pos h0]; rfl
 refine AWP.skip (thenA_n (AWP.seq (sr fun _ => ?_)))
 refine ρl U178 sz178 ?_
 refine ρf cf175 (fun hg => numbersE_fn e) ?_
 refine ARun.not rfl rfl rfl rfl (ep rfl) optN ?_
 refine mv ?_
 refine ARun.loadPeA rfl rfl rfl rfl U178 rfl sz178 (ep rfl) rfl optS ?_
 refine ρi cf176 (fun hg => toldE_fn e) ?_
 refine ARun.not rfl rfl rfl rfl (Ev.opt rfl (fun h => h)) optS ?_
 refine ρ3 ?_
 refine mv ?_
 refine ρ5 U178 sz176 ?_
 refine ρ4 U176 ?_
 refine ρi cf177 (fun hg => acks_fn e.acks hl) ?_
 refine ARun.not rfl rfl rfl rfl (Ev.opt rfl (fun h => h)) optS ?_
 refine ρ3 ?_
 refine mv ?_
 refine ρ5 U178 sz3 ?_
 refine ρ4 U3 ?_
 refine ρi cf174 (fun hg => setlPh_fn e.phase) ?_
 refine ARun.move (.inl rfl) rfl rfl rfl (Ev.opt rfl (fun h => h)) optS ?_
 refine ρ5 U178 sz176 ?_
 refine ρ4 U176 ?_
 refine ARun.lenSl rfl rfl rfl rfl U176 (Ev.opt rfl (fun h => h)) optS ?_
 refine ρb ?_
 refine ARun.pick rfl rfl rfl rfl (Ev.opt rfl (fun h => h)) (Ev.opt rfl (by first | exact pkT | exact pkT2 | simp +contextual)) (ep rfl) (andB _ _) optS ?_
 refine ρ3 ?_
 refine ez ?_
 refine ρo (fun h1 => ?_) (fun h1 => ?_)
 · rw [List.length_map] at h1
   refine sr fun _ => ?_
   refine mz ?_
   refine AWP.ret (thenA_r ?_)
   refine ρ9 ?_
   rw [entryE, if_neg (by rw [h0]; decide), if_pos h1]; rfl
 rw [List.length_map] at h1
 refine AWP.skip (thenA_n (sr fun _ => ?_))
 refine mz ?_
 refine AWP.ret ?_
 refine ρ9 ?_
 rw [entryE, if_neg (by rw [h0]; decide), if_neg (by rw [h1]; decide)]; rfl
theorem table_fn (l : List En) (hl : l.length ≤ 1000000) (hr : ∀ e, e ∈ l → e.acks.length ≤ 1000000) : FnP Tryz.prog 141 [.sl (l.map aEn)] (.int .i64 (tableE l)) := by
 refine FnP.of Tryz.func141 rfl rfl (by simp) (by simp [AV.cells, aIn, aOut, aAt, aMg, aEv, aRc, aRn, aAk, aKn, aEn, aQu]) (fun G hG => ?_)
 have hN : NoH G.length (.int .i64 (tableE l)) := (by simp [AV.cells, aIn, aOut, aAt, aMg, aEv, aRc, aRn, aAk, aKn, aEn, aQu])
 refine sr fun _ => ?_
 refine mz ?_
 refine AWP.seq (sr fun _ => ?_)
 refine mv ?_
 refine ρq U53 ?_
 refine ρ6 ?_
 refine ez ?_
 refine ρo (fun h0 => ?_) (fun h0 => ?_)
 · rw [List.length_map] at h0
   refine sr fun _ => ?_
   refine mz ?_
   refine AWP.ret (thenA_r ?_)
   refine ρ9 ?_
   rw [tableE, if_pos h0]; rfl
 rw [List.length_map] at h0
 refine AWP.skip (thenA_n (AWP.seq (sr fun _ => ?_)))
 refine mv ?_
 refine ρq U53 ?_
 refine mv ?_
 refine ez ?_
 refine AWP.block ?_
 refine AWP.rounds (fun k => k ≤ l.length ∧ ∀ j, j < k → tabBad l j = false) (fun k => [(0, .sl (l.map aEn)), (8, .sl (l.map aEn)), (9, .int .i64 ((l.map aEn).length : Int)), (10, .int .i64 (k : Int))]) (fun k => []) (fun k => l.length - k) 0 0 ⟨by omega, fun j h => by omega⟩ (by repeat (first | exact .nil | refine .cons rfl ?_)) rfl (fun _ => rfl) (fun _ => ⟨by simp [AV.cells, aEn, aAk], by simp⟩) (fun k hI => ?_)
 obtain ⟨hk, hno⟩ := hI
 refine sr fun _ => ?_
 refine ρ6 ?_
 refine ez ?_
 refine AWP.seq ?_
 refine ρo (fun h1 => ?_) (fun h1 => ?_)
 · try simp [-List.getD_eq_getElem?_getD] at h1
   refine AWP.skip (thenA_n ?_)
   refine AWP.seq (AWP.block (sr fun _ => ?_))
   refine mv ?_
   first | refine ρa U53 sz178 ?_ | refine ρ7 U53 sz178 ?_
   refine ρl U178 sz178 ?_
   refine ρp (j := 0) zv178 ?_
   refine ma ?_
   refine ρ8 sz178 ?_
   refine ez ?_
   refine AWP.seq ?_
   refine AWP.frzBox 4 hG rfl rfl rfl ?_
   refine AWP.draw mixed (by kernel_rfl) (fun _ => ?_)
   refine ρl U178 sz178 ?_
   refine ARun.call rfl rfl rfl rfl cf159 (ep rfl) (.cons (ep rfl) .nil) rfl (fun hg => entry_fn (l.getD k default) (by rw [List.getD, List.getElem?_eq_getElem (by omega)]; exact hr _ (List.getElem_mem _))) optN ?_
   refine ρ6 ?_
   refine mv ?_
   refine ρh ?_
   refine ρb ?_
   refine ARun.move (.inl rfl) rfl rfl rfl (Ev.opt rfl (fun h => h)) optS ?_
   refine ρ5 U178 sz3 ?_
   refine ρ4 U3 ?_
   refine ρh ?_
   refine ρh ?_
   first | refine ARun.arith rfl rfl rfl rfl (Ev.opt rfl (fun h => h)) (ep rfl) rfl (fun hg => i64w (by (try simp at hg); omega)) optS ?_ | refine ARun.arith rfl rfl rfl rfl (Ev.opt rfl (fun h => h)) (ep rfl) rfl (fun _ => rfl) optS ?_
   first | refine ARun.indexSl rfl rfl rfl rfl U53 sz178 (Ev.opt rfl (fun h => h)) (Ev.opt rfl (fun h => h)) (fun _ => rfl) (fun hg => getMap _ _ _ (by (try simp at hg); omega)) rfl rfl optS ?_ | refine ARun.indexSl rfl rfl rfl rfl U53 sz178 (Ev.opt rfl (fun h => h)) (Ev.opt rfl (fun h => h)) (fun hg => ofNonneg (by (try simp at hg); omega)) (fun hg => getMap _ _ _ (by (try simp at hg); omega)) rfl rfl optS ?_
   refine ρu U178 sz3 ?_
   refine ρ4 U3 ?_
   refine ρm ?_
   refine ARun.pick rfl rfl rfl rfl (Ev.opt rfl (fun h => h)) (Ev.opt rfl (by first | exact pkT | exact pkT2 | simp +contextual)) (ep rfl) (andB _ _) optS ?_
   refine ρ3 ?_
   refine ⟨by kernel_rfl, _, _, rfl, hG, ?_⟩
   refine thenA_n ?_
   refine ρo (fun h2 => ?_) (fun h2 => ?_)
   · rw [show (((k : Int) - 1).toNat) = k - 1 by omega] at h2
     change tabBad l k = true at h2
     refine sr fun _ => ?_
     refine mz ?_
     refine AWP.ret (blockA_r ?_)
     refine thenA_r (thenA_r ?_)
     refine blockA_r (thenA_r ?_)
     refine ρ9 ?_
     rw [tableE, if_neg (by rw [h0]; decide), if_pos (any_hit (by omega) h2)]; rfl
   rw [show (((k : Int) - 1).toNat) = k - 1 by omega] at h2
   change tabBad l k = false at h2
   refine AWP.skip (blockA_n (thenA_n ?_))
   refine AWP.region (fun _ => ?_)
   first | refine ρd ?_ | refine ρg ?_
   refine mv ?_
   refine ⟨_, _, rfl, hG, ?_⟩
   refine thenA_n ⟨rfl, k + 1, _, ?_, ?_, rfl, ?_⟩
   · refine ⟨by omega, fun j hj => ?_⟩
     by_cases e : j = k
     · subst e; exact h2
     exact hno j (by omega)
   · repeat (first | exact .nil | refine .cons rfl ?_)
   omega
 simp at h1
 obtain rfl : k = l.length := by omega
 refine AWP.exit ?_
 refine thenA_x ?_
 refine thenA_x ?_
 refine blockA_h ?_
 refine thenA_n (sr fun _ => ?_)
 refine mz ?_
 refine AWP.ret ?_
 refine ρ9 ?_
 rw [tableE, if_neg (by rw [h0]; decide), if_neg (by rw [any_none (fun j hj => hno j (by omega))]; decide)]; rfl
end Go.Proofs.YtnlpojjfkgnhhaaGreatDoor
namespace Go.Proofs.YtnlpojjfkgnhhaaGreatDoor
open NumP
structure Im where
 id : Int
 free : Int
 held : Int
 gone : Int
deriving DecidableEq
instance : Inhabited Im := ⟨⟨0, 0, 0, 0⟩⟩
structure Ss where
 client : Int
 seq : Int
 reply : ByteArray
deriving DecidableEq
instance : Inhabited Ss := ⟨⟨0, 0, ⟨#[]⟩⟩⟩
structure Rep where
 n : Int
 f : Int
 self : Int
 clock : Int
 seq : Int
 floor : Int
 ticks : Int
 entries : List En
 own : List At
 known : List Kn
 marks : List (List Int)
 fronts : List Int
 done : List (List Rn)
 last : At
 count : Int
 items : List Im
 sess : List Ss
def Rep.zero : Rep := ⟨0, 0, 0, 0, 0, 0, 0, [], [], [], [], [], [], ⟨0, 0⟩, 0, [], []⟩
def itMay (x : Im) : Bool := if (decide (x.id < 1) || decide (99999 < x.id) || decide (min (min x.free x.held) x.gone < 0) || decide (1000000 < max (max x.free x.held) x.gone)) = true then false else decide (x.free + x.held + x.gone ≤ 1000000)
def itBad (l : List Im) (k : Nat) : Bool := !itMay (l.getD k default) || decide (0 < (k : Int)) && decide ((l.getD k default).id ≤ (l.getD (k - 1) default).id)
def stockE (l : List Im) : Int := if (decide (20 < (l.length : Int))) = true then 2 else if ((List.range l.length).any (itBad l)) = true then 2 else 0
def sNum (n : Int) : Bool := decide (1 ≤ n) && decide (n ≤ 99999)
def seMay (x : Ss) : Bool := sNum x.client && sNum x.seq && decide ((x.reply.size : Int) ≤ 300)
def seBad (l : List Ss) (k : Nat) : Bool := !seMay (l.getD k default) || decide (0 < (k : Int)) && decide ((l.getD k default).client ≤ (l.getD (k - 1) default).client)
def sessE (l : List Ss) : Int := if (decide (20 < (l.length : Int))) = true then 2 else if ((List.range l.length).any (seBad l)) = true then 2 else 0
def servE (r : Rep) : Int := if (!decide (stockE r.items = 0) || !decide (sessE r.sess = 0)) = true then 2 else 0
def sizeE (n f : Int) : Int := if (!(decide (3 ≤ n) && decide (n ≤ 9)) || decide (f < 1) || decide ((n - 1).tdiv 2 < f)) = true then 2 else 0
/-! ### clocks -/
def idsK (l : List At) (k : Nat) : List Int := (l.take k).map (·.id)
def clkBad (l : List At) (floor now : Int) (k : Nat) : Bool := decide ((l.getD k default).t ≤ lastT l floor k) || decide (now < (l.getD k default).t) || !decide (identE (l.getD k default).id = 0) || (idsK l k).contains (l.getD k default).id
def clockE (now floor : Int) (own : List At) : Int := if (decide (floor < 0) || decide (now < floor) || decide (1000000 < now)) = true then 2 else if ((List.range own.length).any (clkBad own floor now)) = true then 2 else 0
theorem idsK_succ {l : List At} {k : Nat} (h : k < l.length) : idsK l k ++ [(l.getD k default).id] = idsK l (k + 1) := by
 unfold idsK; rw [List.take_succ_eq_append_getElem h, List.map_append]; simp [List.getD, h]
/-! ### the whole -/
def countsP (r : Rep) : Bool :=
 if (!decide (sizeE r.n r.f = 0) || decide (r.self < 1) || decide (r.n < r.self)) = true then false else
 within r.seq 99999 && within r.ticks 1000000 && within r.count 1000000 && decide (clockE r.clock r.floor r.own = 0)
def farP (n : Int) (e : En) : Bool := decide (n < selfP e.id)
def commandsP (r : Rep) : Bool := decide (tableE r.entries = 0) && !r.entries.any (farP r.n)
def knWrong (k : Kn) : Bool := !decide (knownE k = 0)
def hearsP (r : Rep) : Bool := decide ((r.known.length : Int) = r.n) && !r.known.any knWrong && decide (sweepE r.marks r.n = 0) && decide (stableE r.fronts r.n = 0)
def dnWrong (l : List Rn) : Bool := !decide (rangesE l = 0) || decide (0 < (l.length : Int)) && decide (99999 < (l.getD (l.length - 1) default).hi)
def finishedP (r : Rep) : Bool :=
 if (!decide ((r.done.length : Int) = r.n) || r.done.any dnWrong) = true then false else
 decide (r.last.t = 0) && (decide (r.last.id = 0) && true) || decide (identE r.last.id = 0) && decide (1 ≤ r.last.t) && decide (r.last.t ≤ 1000000)
def askP (r : Rep) (k : Nat) : Bool := if k = 0 then countsP r else if k = 1 then commandsP r else if k = 2 then hearsP r else finishedP r
def stateE (r : Rep) : Int := if ((List.range 4).any fun k => !askP r k) = true then 2 else 0
def replicaE (r : Rep) : Int := if (!decide (stateE r = 0) || !decide (servE r = 0)) = true then 2 else 0
end Go.Proofs.YtnlpojjfkgnhhaaGreatDoor
namespace Go.Proofs.YtnlpojjfkgnhhaaGreatDoor
open Go.RowKit
def mset (s : Int) (v : Value) : List (Int × Value) → List (Int × Value)
 | [] => [(s, v)]
 | (k, u) :: es => bif s == k then (s, v) :: es else (k, u) :: mset s v es
theorem ba_beq (s k : Int) : (s == k) = decide (s = k) := rfl
theorem find_now (s : Int) (v : Value) : ∀ (ents : List MapEntry) (es : List (Int × Value)) (i : Nat), ents.map (fun e => (e.key, e.val)) = es.map (fun p => (Value.int .i64 p.1, p.2)) →
   (es.lookup s = none ∧ Instr.findNow (.int .i64) (.int .i64 s) ents i = some none ∧ mset s v es = es ++ [(s, v)]) ∨
   ∃ j e, ents[j]? = some e ∧ e.key = .int .i64 s ∧ es.lookup s = some e.val ∧ Instr.findNow (.int .i64) (.int .i64 s) ents i = some (some (i + j, e.val)) ∧
     (ents.set j { e with val := v }).map (fun e => (e.key, e.val)) = (mset s v es).map (fun p => (Value.int .i64 p.1, p.2)) := by
 intro ents
 induction ents with
 | nil => intro es i h; cases es with | nil => exact .inl ⟨rfl, rfl, rfl⟩ | cons p es => cases h
 | cons e ents ih =>
   intro es i h
   cases es with
   | nil => cases h
   | cons p es =>
     obtain ⟨k, u⟩ := p
     simp only [List.map_cons, List.cons.injEq, Prod.mk.injEq] at h
     obtain ⟨⟨hk, hu⟩, h2⟩ := h
     have hs : Instr.sameNow (.int .i64) (.int .i64 s) e.key = some (s == k) := by rw [hk]; rfl
     cases hb : s == k with
     | true =>
       have hsk : s = k := by rw [ba_beq] at hb; exact of_decide_eq_true hb
       refine .inr ⟨0, e, rfl, by rw [hk, hsk], by rw [List.lookup_cons, hb]; exact congrArg some hu.symm, ?_, ?_⟩
       · rw [Instr.findNow, hs, hb]; rfl
       rw [mset, hb]; simp [hk, hsk, h2]
     | false =>
       have e1 : Instr.findNow (.int .i64) (.int .i64 s) (e :: ents) i = Instr.findNow (.int .i64) (.int .i64 s) ents (i + 1) := by rw [Instr.findNow, hs, hb]
       rcases ih es (i + 1) h2 with ⟨a, b, c⟩ | ⟨j, e', a, b, c, d, f⟩
       · refine .inl ⟨by rw [List.lookup_cons, hb]; exact a, e1.trans b, ?_⟩
         rw [mset, hb, c]; rfl
       refine .inr ⟨j + 1, e', a, b, by rw [List.lookup_cons, hb]; exact c, by rw [e1, d]; congr 3; omega, ?_⟩
       rw [mset, hb]
       simp only [List.set_cons_succ, List.map_cons, f, cond_false, hk, hu]
theorem run_checkS {P : Program} {k : TypeId} (hk : P.underlying k = some (.int .i64)) (e : Bool) (s : Int) (w : World) : (Instr.checkKey e 10000 k (.int .i64 s)).run P w = .ok () w := by
 unfold Instr.checkKey; simp [run_underlying hk]
theorem run_findS {P : Program} {k : TypeId} (hk : P.underlying k = some (.int .i64)) {s : Int} {ents : List MapEntry} {r : Option (Nat × Value)} (h : Instr.findNow (.int .i64) (.int .i64 s) ents 0 = some r) (w : World) : (Instr.findKey k (.int .i64 s) ents).run P w = .ok r w := by
 simp [Instr.findKey, run_underlying hk, h]
def lookV (ok : Bool) (z : Value) (r : Option Value) : AV := bif ok then .tup [cAV (r.getD z), .bool r.isSome] else cAV (r.getD z)
theorem lookV_rep (β : List Hd) (W : World) (ok : Bool) (z : Value) (r : Option Value) : VRep β W (if ok then .tuple #[r.getD z, .bool r.isSome] else r.getD z) (lookV ok z r) := by
 cases ok
 · exact cAV_rep _ _ _
 refine .tup _ _ rfl fun j u x h1 h2 => ?_
 match j with
 | 0 => cases h1; cases h2; exact cAV_rep _ _ _
 | 1 => cases h1; cases h2; exact .bool _
 | j + 2 => simp at h1
theorem lookB (m : List Int) (s : Int) : lookV false (.bool false) ((m.map fun p => (p, Value.bool true)).lookup s) = .bool (m.contains s) := by
 have : (m.map fun p => (p, Value.bool true)).lookup s = bif m.contains s then some (.bool true) else none := by
   induction m with
   | nil => rfl
   | cons k m ih => rw [List.map_cons, List.lookup_cons, List.contains_cons]; cases s == k <;> simp [ih]
 rw [this]; cases m.contains s <;> rfl
def plainVal : AV → Option Value
 | .int k n => some (.int k n)
 | .bool b => some (.bool b)
 | _ => none
theorem plainVal_rep {X : AV} {v u : Value} (h : plainVal X = some v) {β : List Hd} {W : World} (hr : VRep β W u X) : u = v := by
 cases hr <;> simp [plainVal] at h <;> exact h
theorem VRep.mh_at {β : List Hd} {H : List AO} {W : World} {v : Value} {i : Nat} {es : List (Int × Value)} (h : VRep β W v (.mh i)) (hH : HRel β H W) (hi : H[i]? = some (.map es)) : ∃ b, β[i]? = some (.map b) ∧ v = .map (some b) ∧ MapAt W b es := by
 cases h with
 | mh b0 _ hi2 h =>
   have hg : β[i]? = some β[i] := List.getElem?_eq_getElem hi2
   have ho := hH.ob i _ _ hi hg
   cases hb : β[i] with
   | box b => rw [hb] at ho; exact ho.elim
   | row v g => rw [hb] at ho; exact ho.elim
   | dead => rw [hb] at ho; exact ho.elim
   | guard b => rw [hb] at ho; exact ho.elim
   | bld b v => rw [hb] at ho; exact ho.elim
   | map b => rw [hb] at ho hg; exact ⟨b, hg, by rw [h _ b hg rfl], ho⟩
theorem run_lookS {P : Program} {t k e : TypeId} (hu : P.underlying t = some (.map k e)) (hk : P.underlying k = some (.int .i64)) {z : Value} (hz : Zv P e z) {W : World} {b : Nat} {es : List (Int × Value)} (hm : MapAt W b es) (s : Int) (ok : Bool) :
   (Instr.lookup t (.map (some b)) (.int .i64 s) ok).run P W = .ok (if ok then .tuple #[(es.lookup s).getD z, .bool (es.lookup s).isSome] else (es.lookup s).getD z) W := by
 obtain ⟨ents, clock, h1, h2⟩ := hm
 rcases find_now s undef ents.toList es 0 h2 with ⟨a, c, _⟩ | ⟨j, e', _, _, a, c, _⟩
 · rw [a]
   simp [Instr.lookup, run_underlying hu, MapKept.run_getObj_map h1, run_checkS hk, run_findS hk c, hz.run]
 rw [a]
 simp [Instr.lookup, run_underlying hu, MapKept.run_getObj_map h1, run_checkS hk, run_findS hk c]
section
variable {P : Program} {ops : Array Oper} {n m : Nat} {QQ : List Kd → Sl → List AO → Prop} {l : List Oper} {ks : List Kd} {σ : Sl} {G L H : List AO} {o : Oper} {gd : Bool}
theorem ARun.makeMap {t : TypeId} {j : Nat} {Y : AV} {d : Option Tmp} (hm : GOK m G) (hj : L.length = j) (ho : o.op = .makeMap t none) (hd : o.dst = d) (hn : dstLt n d = true) (hg : gdS ops σ o.guard = some true)
   (hY : optA o.guard true (.mh (m + j)) = Y)
   (hr : ARun P ops n QQ l (ks ++ [.new]) (putS σ d Y) (G ++ (L ++ [.map []]))) : ARun P ops n QQ (o :: l) ks σ (G ++ L) := by
 refine ARun.new (E := [.map []]) hd hn hg hY (fun H0 hl0 a W β hHr hl => ?_) (by rw [List.append_assoc]; exact hr)
 have hb : Below W.heap.size W (W.alloc (.map #[] 0)) := (Below.refl _ _).alloc (Nat.le_refl _) _
 have hsn := hHr.snoc (w' := W.alloc (.map #[] 0)) hb (x := .map W.heap.size) (o := .map []) ⟨#[], 0, heap_alloc_new W _, rfl⟩ (fun b hb => by simp [Hd.blks] at hb; omega)
 have hlen : β.length = m + j := by rw [hHr.len, hl0, List.length_append, hm.1, hj]
 refine ⟨.map (some W.heap.size), _, β ++ [.map W.heap.size], ?_, hsn.1, hsn.2, .mh _ _ (by rw [List.length_append, hlen]; simp) fun x b hb hcb => ?_⟩
 · simp [execOp, ho, Instr.makeMap, newObj, Sem.run]
 rw [List.getElem?_append_right (by omega), hlen, Nat.sub_self] at hb
 cases hb; cases hcb; rfl
theorem ARun.lookMh {x y : Operand} {t k e : TypeId} {ok : Bool} {i : Nat} {es : List (Int × Value)} {s : Int} {z : Value} {X Y : AV} {d : Option Tmp} (ho : o.op = .lookup t x y ok) (hd : o.dst = d) (hn : dstLt n d = true) (hG : gdS ops σ o.guard = some gd)
   (hu : P.underlying t = some (.map k e)) (hk : P.underlying k = some (.int .i64)) (hz : Zv P e z)
   (hx : Ev gd σ x (.mh i)) (hH : H[i]? = some (.map es)) (hy : Ev gd σ y (.int .i64 s)) (hX : lookV ok z (es.lookup s) = X) (hY : optA o.guard gd X = Y)
   (hr : ARun P ops n QQ l (ks ++ [.rd]) (putS σ d Y) H) : ARun P ops n QQ (o :: l) ks σ H := by
 subst hX
 refine ARun.rd hd hn hG hY (fun hg E a W β hHr hl => ⟨_, ?_, lookV_rep _ _ _ _ _⟩) hr
 obtain ⟨b, _, h1, hm⟩ := (hx.rep hg hl (by simp [ho, Op.operands])).mh_at hHr (at_ext hH E)
 have h2 := hy.rep hg hl (by simp [ho, Op.operands])
 generalize hv2 : a.eval y = v2 at h2
 cases h2
 simp [execOp, ho, h1, hv2, run_lookS hu hk hz hm s ok]
theorem ARun.mapSet {x y v : Operand} {t k e : TypeId} {j : Nat} {es : List (Int × Value)} {s : Int} {V : AV} {u : Value} {L' : List AO} (hm : GOK m G) (ho : o.op = .mapUpdate t x y v) (hd : o.dst = none) (hg : gdS ops σ o.guard = some true)
   (hu : P.underlying t = some (.map k e)) (hk : P.underlying k = some (.int .i64))
   (hx : Ev true σ x (.mh (m + j))) (hH : L[j]? = some (.map es)) (hy : Ev true σ y (.int .i64 s)) (hv : Ev true σ v V) (hV : plainVal V = some u) {es' : List (Int × Value)} (he : mset s u es = es') (hL : L.set j (.map es') = L')
   (hr : ARun P ops n QQ l (ks ++ [.write]) σ (G ++ L')) : ARun P ops n QQ (o :: l) ks σ (G ++ L) := by
 subst he
 refine ⟨.write, .raw undef, G ++ L', by rw [hd]; rfl, OpStep.skip (gd := true) hg rfl (fun a W β hHr hl => ?_), by rw [hd]; exact hr⟩
 have hiH : (G ++ L)[m + j]? = some (.map es) := by rw [hm.at]; exact hH
 obtain ⟨b, hβ, h1, ents, clock, hhp, hes⟩ := (hx.rep rfl hl (by simp [ho, Op.operands])).mh_at hHr hiH
 have h2 := hy.rep rfl hl (by simp [ho, Op.operands])
 have h3 := plainVal_rep hV (hv.rep rfl hl (by simp [ho, Op.operands]))
 generalize hv2 : a.eval y = v2 at h2
 cases h2
 have hlt : b < W.heap.size := (Array.getElem?_eq_some_iff.1 hhp).1
 have key : ∀ (ents' : Array MapEntry) (c' : Nat), ents'.toList.map (fun e => (e.key, e.val)) = (mset s u es).map (fun p => (Value.int .i64 p.1, p.2)) →
     Ext β W β (ChangeMaps.setBlock W b (.map ents' c')) ∧ HRel β (G ++ L') (ChangeMaps.setBlock W b (.map ents' c')) := by
   intro ents' c' he
   rw [← hL, ← hm.set]
   refine hHr.set hβ rfl (by simp [ChangeMaps.setBlock]) rfl rfl rfl (fun q hq => ?_) (fun _ => ⟨ents', c', ?_, he⟩)
   · simp [ChangeMaps.setBlock, Array.getElem?_setIfInBounds, Ne.symm hq]
   simp [ChangeMaps.setBlock, Array.getElem?_setIfInBounds, hlt]
 rcases find_now s u ents.toList es 0 hes with ⟨_, c, d⟩ | ⟨q, e', a1, a2, _, c, d⟩
 · have hk2 := key (ents.push { key := .int .i64 s, val := u, born := clock }) (clock + 1) (by rw [d]; simp [hes])
   refine ⟨_, β, ?_, hk2.1, hk2.2⟩
   simp [execOp, ho, h1, h3, hv2, Instr.mapUpdate, run_underlying hu, MapKept.run_getObj_map hhp, run_checkS hk, run_findS hk c, MapKept.run_setObj_map _ hhp, ChangeMaps.setBlock, Result.andThen]
 have hq : ents[q]? = some e' := by simpa using a1
 have hmod : (ents.modify (0 + q) fun e => { e with key := .int .i64 s, val := u }).toList = ents.toList.set q { e' with val := u } := by
   rw [Nat.zero_add, Array.toList_modify, ChangeMaps.modify_eq_set _ _ _ _ a1, ← a2]
 have hk2 := key (ents.modify (0 + q) fun e => { e with key := .int .i64 s, val := u }) clock (by rw [hmod]; exact d)
 refine ⟨_, β, ?_, hk2.1, hk2.2⟩
 have hss : (s == s) = true := by rw [ba_beq]; simp
 simp [execOp, ho, h1, h3, hv2, Instr.mapUpdate, run_underlying hu, MapKept.run_getObj_map hhp, run_checkS hk, run_findS hk c, hq, a2, Instr.keyThatStays, Instr.sameBits, hss, MapKept.run_setObj_map _ hhp, ChangeMaps.setBlock, Result.andThen]
end
end Go.Proofs.YtnlpojjfkgnhhaaGreatDoor
namespace Go.Proofs.YtnlpojjfkgnhhaaGreatDoor
open Go.RowKit
theorem ti22 : Ti Tryz.prog 22 (.nilFunc) 1 8 := by unfold Ti; kernel_rfl
theorem sz22 : Sz Tryz.prog 22 1 := ti22.sz
theorem zv22 : Zv Tryz.prog 22 (.nilFunc) := ti22.zv
theorem ti53 : Ti Tryz.prog 53 (.slice none 0 0) 1 24 := by unfold Ti; kernel_rfl
theorem sz53 : Sz Tryz.prog 53 1 := ti53.sz
theorem ti54 : Ti Tryz.prog 54 (.slice none 0 0) 1 24 := by unfold Ti; kernel_rfl
theorem sz54 : Sz Tryz.prog 54 1 := ti54.sz
theorem ti55 : Ti Tryz.prog 55 (.slice none 0 0) 1 24 := by unfold Ti; kernel_rfl
theorem sz55 : Sz Tryz.prog 55 1 := ti55.sz
theorem ti56 : Ti Tryz.prog 56 (.slice none 0 0) 1 24 := by unfold Ti; kernel_rfl
theorem sz56 : Sz Tryz.prog 56 1 := ti56.sz
theorem ti59 : Ti Tryz.prog 59 (.slice none 0 0) 1 24 := by unfold Ti; kernel_rfl
theorem sz59 : Sz Tryz.prog 59 1 := ti59.sz
theorem ti60 : Ti Tryz.prog 60 (.slice none 0 0) 1 24 := by unfold Ti; kernel_rfl
theorem sz60 : Sz Tryz.prog 60 1 := ti60.sz
theorem ti62 : Ti Tryz.prog 62 (.agg #[.slice none 0 0, .slice none 0 0]) 2 48 := by unfold Ti; kernel_rfl
theorem sz62 : Sz Tryz.prog 62 2 := ti62.sz
theorem zv62 : Zv Tryz.prog 62 (.agg #[.slice none 0 0, .slice none 0 0]) := ti62.zv
theorem ti64 : Ti Tryz.prog 64 (.agg #[.int .i64 0, .int .i64 0, .int .i64 0, .int .i64 0, .int .i64 0, .int .i64 0, .int .i64 0, .slice none 0 0, .slice none 0 0, .slice none 0 0, .slice none 0 0, .slice none 0 0, .slice none 0 0, .int .i64 0, .int .i64 0, .int .i64 0, .slice none 0 0, .slice none 0 0]) 18 272 := by unfold Ti; kernel_rfl
theorem sz64 : Sz Tryz.prog 64 18 := ti64.sz
theorem zv64 : Zv Tryz.prog 64 (.agg #[.int .i64 0, .int .i64 0, .int .i64 0, .int .i64 0, .int .i64 0, .int .i64 0, .int .i64 0, .slice none 0 0, .slice none 0 0, .slice none 0 0, .slice none 0 0, .slice none 0 0, .slice none 0 0, .int .i64 0, .int .i64 0, .int .i64 0, .slice none 0 0, .slice none 0 0]) := ti64.zv
theorem ti164 : Ti Tryz.prog 164 (.agg #[.int .i64 0, .slice none 0 0, .slice none 0 0]) 3 56 := by unfold Ti; kernel_rfl
theorem sz164 : Sz Tryz.prog 164 3 := ti164.sz
theorem zv164 : Zv Tryz.prog 164 (.agg #[.int .i64 0, .slice none 0 0, .slice none 0 0]) := ti164.zv
theorem ti186 : Ti Tryz.prog 186 (.agg #[.int .i64 0, .int .i64 0, .int .i64 0, .int .i64 0]) 4 32 := by unfold Ti; kernel_rfl
theorem sz186 : Sz Tryz.prog 186 4 := ti186.sz
theorem zv186 : Zv Tryz.prog 186 (.agg #[.int .i64 0, .int .i64 0, .int .i64 0, .int .i64 0]) := ti186.zv
theorem ti188 : Ti Tryz.prog 188 (.agg #[.int .i64 0, .int .i64 0, .string ⟨#[]⟩]) 3 32 := by unfold Ti; kernel_rfl
theorem sz188 : Sz Tryz.prog 188 3 := ti188.sz
theorem zv188 : Zv Tryz.prog 188 (.agg #[.int .i64 0, .int .i64 0, .string ⟨#[]⟩]) := ti188.zv
theorem ti227 : Ti Tryz.prog 227 (.agg #[.int .i64 0, .int .i64 0, .int .i64 0, .int .i64 0, .int .i64 0, .int .i64 0, .int .i64 0, .slice none 0 0, .slice none 0 0, .slice none 0 0, .slice none 0 0, .slice none 0 0, .slice none 0 0, .int .i64 0, .int .i64 0, .int .i64 0, .slice none 0 0, .slice none 0 0]) 18 272 := by unfold Ti; kernel_rfl
theorem sz227 : Sz Tryz.prog 227 18 := ti227.sz
theorem zv227 : Zv Tryz.prog 227 (.agg #[.int .i64 0, .int .i64 0, .int .i64 0, .int .i64 0, .int .i64 0, .int .i64 0, .int .i64 0, .slice none 0 0, .slice none 0 0, .slice none 0 0, .slice none 0 0, .slice none 0 0, .slice none 0 0, .int .i64 0, .int .i64 0, .int .i64 0, .slice none 0 0, .slice none 0 0]) := ti227.zv
theorem cf87 : ∀ (vs : Array Value) (W : World), (callFunc 87 vs).run Tryz.prog W = .ok (.enter 87 vs) W := fun _ _ => by rfl
theorem cf88 : ∀ (vs : Array Value) (W : World), (callFunc 88 vs).run Tryz.prog W = .ok (.enter 88 vs) W := fun _ _ => by rfl
theorem cf121 : ∀ (vs : Array Value) (W : World), (callFunc 121 vs).run Tryz.prog W = .ok (.enter 121 vs) W := fun _ _ => by rfl
theorem cf122 : ∀ (vs : Array Value) (W : World), (callFunc 122 vs).run Tryz.prog W = .ok (.enter 122 vs) W := fun _ _ => by rfl
theorem cf123 : ∀ (vs : Array Value) (W : World), (callFunc 123 vs).run Tryz.prog W = .ok (.enter 123 vs) W := fun _ _ => by rfl
theorem cf124 : ∀ (vs : Array Value) (W : World), (callFunc 124 vs).run Tryz.prog W = .ok (.enter 124 vs) W := fun _ _ => by rfl
theorem cf125 : ∀ (vs : Array Value) (W : World), (callFunc 125 vs).run Tryz.prog W = .ok (.enter 125 vs) W := fun _ _ => by rfl
theorem cf126 : ∀ (vs : Array Value) (W : World), (callFunc 126 vs).run Tryz.prog W = .ok (.enter 126 vs) W := fun _ _ => by rfl
theorem cf136 : ∀ (vs : Array Value) (W : World), (callFunc 136 vs).run Tryz.prog W = .ok (.enter 136 vs) W := fun _ _ => by rfl
theorem cf137 : ∀ (vs : Array Value) (W : World), (callFunc 137 vs).run Tryz.prog W = .ok (.enter 137 vs) W := fun _ _ => by rfl
theorem cf138 : ∀ (vs : Array Value) (W : World), (callFunc 138 vs).run Tryz.prog W = .ok (.enter 138 vs) W := fun _ _ => by rfl
theorem cf139 : ∀ (vs : Array Value) (W : World), (callFunc 139 vs).run Tryz.prog W = .ok (.enter 139 vs) W := fun _ _ => by rfl
theorem cf140 : ∀ (vs : Array Value) (W : World), (callFunc 140 vs).run Tryz.prog W = .ok (.enter 140 vs) W := fun _ _ => by rfl
theorem cf141 : ∀ (vs : Array Value) (W : World), (callFunc 141 vs).run Tryz.prog W = .ok (.enter 141 vs) W := fun _ _ => by rfl
theorem cf142 : ∀ (vs : Array Value) (W : World), (callFunc 142 vs).run Tryz.prog W = .ok (.enter 142 vs) W := fun _ _ => by rfl
theorem cf143 : ∀ (vs : Array Value) (W : World), (callFunc 143 vs).run Tryz.prog W = .ok (.enter 143 vs) W := fun _ _ => by rfl
theorem cf144 : ∀ (vs : Array Value) (W : World), (callFunc 144 vs).run Tryz.prog W = .ok (.enter 144 vs) W := fun _ _ => by rfl
theorem cf145 : ∀ (vs : Array Value) (W : World), (callFunc 145 vs).run Tryz.prog W = .ok (.enter 145 vs) W := fun _ _ => by rfl
theorem cf146 : ∀ (vs : Array Value) (W : World), (callFunc 146 vs).run Tryz.prog W = .ok (.enter 146 vs) W := fun _ _ => by rfl
theorem cf148 : ∀ (vs : Array Value) (W : World), (callFunc 148 vs).run Tryz.prog W = .ok (.enter 148 vs) W := fun _ _ => by rfl
theorem cf150 : ∀ (vs : Array Value) (W : World), (callFunc 150 vs).run Tryz.prog W = .ok (.enter 150 vs) W := fun _ _ => by rfl
theorem cf151 : ∀ (vs : Array Value) (W : World), (callFunc 151 vs).run Tryz.prog W = .ok (.enter 151 vs) W := fun _ _ => by rfl
theorem cf152 : ∀ (vs : Array Value) (W : World), (callFunc 152 vs).run Tryz.prog W = .ok (.enter 152 vs) W := fun _ _ => by rfl
theorem cf160 : ∀ (vs : Array Value) (W : World), (callFunc 160 vs).run Tryz.prog W = .ok (.enter 160 vs) W := fun _ _ => by rfl
theorem cf165 : ∀ (vs : Array Value) (W : World), (callFunc 165 vs).run Tryz.prog W = .ok (.enter 165 vs) W := fun _ _ => by rfl
theorem cf168 : ∀ (vs : Array Value) (W : World), (callFunc 168 vs).run Tryz.prog W = .ok (.enter 168 vs) W := fun _ _ => by rfl
theorem cf169 : ∀ (vs : Array Value) (W : World), (callFunc 169 vs).run Tryz.prog W = .ok (.enter 169 vs) W := fun _ _ => by rfl
theorem so227 : StOk Tryz.prog 227 (.agg #[.int .i64 0, .int .i64 0, .int .i64 0, .int .i64 0, .int .i64 0, .int .i64 0, .int .i64 0, .slice none 0 0, .slice none 0 0, .slice none 0 0, .slice none 0 0, .slice none 0 0, .slice none 0 0, .int .i64 0, .int .i64 0, .int .i64 0, .slice none 0 0, .slice none 0 0]) [(0, 18)] := ⟨_, U227, zv227, by kernel_rfl, by kernel_rfl⟩
end Go.Proofs.YtnlpojjfkgnhhaaGreatDoor
namespace Go.Proofs.YtnlpojjfkgnhhaaGreatDoor
open Go.RowKit
open NumP
def aIm (s : Im) : AV := .agg [.int .i64 s.id, .int .i64 s.free, .int .i64 s.held, .int .i64 s.gone]
def aSs (s : Ss) : AV := .agg [.int .i64 s.client, .int .i64 s.seq, .str s.reply]
def aRep (r : Rep) : AV := .agg [.int .i64 r.n, .int .i64 r.f, .int .i64 r.self, .int .i64 r.clock, .int .i64 r.seq, .int .i64 r.floor, .int .i64 r.ticks, .sl (r.entries.map aEn), .sl (r.own.map aAt), .sl (r.known.map aKn), .sl (r.marks.map fun l => AV.sl (l.map (AV.int .i64))), .sl (r.fronts.map (AV.int .i64)), .sl (r.done.map fun l => AV.sl (l.map aRn)), .int .i64 r.last.t, .int .i64 r.last.id, .int .i64 r.count, .sl (r.items.map aIm), .sl (r.sess.map aSs)]
theorem mset_trueI (s : Int) : ∀ (ks : List Int), mset s (.bool true) (ks.map fun p => (p, Value.bool true)) = (if ks.contains s = true then ks else ks ++ [s]).map fun p => (p, Value.bool true) := by
 intro ks
 induction ks with
 | nil => rfl
 | cons k ks ih =>
   rw [List.map_cons, List.contains_cons]
   cases hb : s == k with
   | true => rw [mset, hb]; rw [ba_beq] at hb; rw [of_decide_eq_true hb]; simp
   | false =>
     rw [mset, hb]; show _ :: mset s _ _ = _
     rw [ih, Bool.false_or]
     by_cases h : ks.contains s = true
     · rw [if_pos h, if_pos h]; rfl
     rw [if_neg h, if_neg h]; rfl
theorem ids_set {l : List At} {k : Nat} {floor now : Int} (hk : k < l.length) (h : clkBad l floor now k = false) : mset (l.getD k default).id (.bool true) ((idsK l k).map fun p => (p, Value.bool true)) = (idsK l (k + 1)).map fun p => (p, Value.bool true) := by
 unfold clkBad at h
 simp only [Bool.or_eq_false_iff] at h
 rw [mset_trueI, if_neg (by rw [h.2]; decide), idsK_succ hk]
def smallK (k : Kn) : Prop := k.ranges.length ≤ 1000000 ∧ k.atts.length ≤ 1000000
structure SmallR (r : Rep) : Prop where
 own : r.own.length ≤ 1000000
 entries : r.entries.length ≤ 1000000
 acks : ∀ e, e ∈ r.entries → e.acks.length ≤ 1000000
 known : r.known.length ≤ 1000000
 kn : ∀ k, k ∈ r.known → smallK k
 marks : r.marks.length ≤ 1000000
 mkl : ∀ l, l ∈ r.marks → l.length ≤ 1000000
 fronts : r.fronts.length ≤ 1000000
 done : r.done.length ≤ 1000000
 dn : ∀ l, l ∈ r.done → l.length ≤ 1000000
 items : r.items.length ≤ 1000000
 sess : r.sess.length ≤ 1000000
theorem itMay_fn (x : Im) : FnP Tryz.prog 151 [aIm x] (.bool (itMay x)) := by
 refine FnP.of Tryz.func151 rfl rfl (by simp) (by simp [AV.cells, aIn, aOut, aAt, aMg, aEv, aRc, aRn, aAk, aKn, aEn, aQu, aIm, aSs, aRep]) (fun G hG => ?_)
 have hN : NoH G.length (.bool (itMay x)) := (by simp [AV.cells, aIn, aOut, aAt, aMg, aEv, aRc, aRn, aAk, aKn, aEn, aQu, aIm, aSs, aRep])
 refine sr fun _ => ?_
 refine ρt ?_
 refine mz ?_
 refine AWP.seq (sr fun _ => ?_)
 refine ρ0 U186 sz3 ?_
 refine ρ2 U3 ?_
 refine ρ6 ?_
 refine mv ?_
 refine ρ5 U186 sz3 ?_
 refine ρ4 U3 ?_
 refine ρb ?_
 refine ρ3 ?_
 refine mv ?_
 refine ρ5 U186 sz3 ?_
 refine ρ4 U3 ?_
 refine ρ5 U186 sz3 ?_
 refine ρ4 U3 ?_
 refine ρ5 U186 sz3 ?_
 refine ρ4 U3 ?_
 refine ARun.minmax3 rfl rfl rfl rfl (Ev.opt rfl (fun h => h)) (Ev.opt rfl (fun h => h)) (Ev.opt rfl (fun h => h)) (.inl ⟨rfl, rfl⟩) optS ?_
 refine ρb ?_
 refine ρ3 ?_
 refine mv ?_
 refine ρ5 U186 sz3 ?_
 refine ρ4 U3 ?_
 refine ρ5 U186 sz3 ?_
 refine ρ4 U3 ?_
 refine ρ5 U186 sz3 ?_
 refine ρ4 U3 ?_
 refine ARun.minmax3 rfl rfl rfl rfl (Ev.opt rfl (fun h => h)) (Ev.opt rfl (fun h => h)) (Ev.opt rfl (fun h => h)) (.inr ⟨rfl, rfl⟩) optS ?_
 refine ρb ?_
 refine ρ3 ?_
 refine ez ?_
 refine ρo (fun h0 => ?_) (fun h0 => ?_)
 · refine sr fun _ => ?_
   refine mz ?_
   refine AWP.ret (thenA_r ?_)
   refine ρ9 ?_
   rw [itMay, if_pos h0]; rfl
 have hx : 0 ≤ min (min x.free x.held) x.gone ∧ max (max x.free x.held) x.gone ≤ 1000000 := by simp only [Bool.or_eq_false_iff, decide_eq_false_iff_not] at h0; omega
 refine AWP.skip (thenA_n (sr fun _ => ?_))
 refine ρ0 U186 sz3 ?_
 refine ρ2 U3 ?_
 refine ρ0 U186 sz3 ?_
 refine ρ2 U3 ?_
 first | refine ARun.arith rfl rfl rfl rfl (ep rfl) (ep rfl) rfl (fun hg => i64w (by omega)) optN ?_ | refine ρg ?_
 refine ρ0 U186 sz3 ?_
 refine ρ2 U3 ?_
 first | refine ARun.arith rfl rfl rfl rfl (ep rfl) (ep rfl) rfl (fun hg => i64w (by omega)) optN ?_ | refine ρg ?_
 refine ρ6 ?_
 refine mz ?_
 refine AWP.ret ?_
 refine ρ9 ?_
 rw [itMay, if_neg (by rw [h0]; decide)]
theorem stock_fn (l : List Im) (hl : l.length ≤ 1000000) : FnP Tryz.prog 125 [.sl (l.map aIm)] (.int .i64 (stockE l)) := by
 refine FnP.of Tryz.func125 rfl rfl (by simp) (by simp [AV.cells, aIn, aOut, aAt, aMg, aEv, aRc, aRn, aAk, aKn, aEn, aQu, aIm, aSs, aRep]) (fun G hG => ?_)
 have hN : NoH G.length (.int .i64 (stockE l)) := (by simp [AV.cells, aIn, aOut, aAt, aMg, aEv, aRc, aRn, aAk, aKn, aEn, aQu, aIm, aSs, aRep])
 refine sr fun _ => ?_
 refine mz ?_
 refine AWP.seq (sr fun _ => ?_)
 refine mv ?_
 refine ρq U59 ?_
 refine ρ6 ?_
 refine ez ?_
 refine ρo (fun h0 => ?_) (fun h0 => ?_)
 · rw [List.length_map] at h0
   refine sr fun _ => ?_
   refine mz ?_
   refine AWP.ret (thenA_r ?_)
   refine ρ9 ?_
   rw [stockE, if_pos h0]; rfl
 rw [List.length_map] at h0
 refine AWP.skip (thenA_n (AWP.seq (sr fun _ => ?_)))
 refine mv ?_
 refine ρq U59 ?_
 refine mv ?_
 refine ez ?_
 refine AWP.block ?_
 refine AWP.rounds (fun k => k ≤ l.length ∧ ∀ j, j < k → itBad l j = false) (fun k => [(0, .sl (l.map aIm)), (8, .sl (l.map aIm)), (9, .int .i64 ((l.map aIm).length : Int)), (10, .int .i64 (k : Int))]) (fun k => []) (fun k => l.length - k) 0 0 ⟨by omega, fun j h => by omega⟩ (by repeat (first | exact .nil | refine .cons rfl ?_)) rfl (fun _ => rfl) (fun _ => ⟨by simp [AV.cells, aIm], by simp⟩) (fun k hI => ?_)
 obtain ⟨hk, hno⟩ := hI
 refine sr fun _ => ?_
 refine ρ6 ?_
 refine ez ?_
 refine AWP.seq ?_
 refine ρo (fun h1 => ?_) (fun h1 => ?_)
 · try simp [-List.getD_eq_getElem?_getD] at h1
   refine AWP.skip (thenA_n ?_)
   refine AWP.seq (AWP.block (sr fun _ => ?_))
   refine mv ?_
   first | refine ρa U59 sz186 ?_ | refine ρ7 U59 sz186 ?_
   refine ρl U186 sz186 ?_
   refine ρp (j := 0) zv186 ?_
   refine ma ?_
   refine ρ8 sz186 ?_
   refine ez ?_
   refine AWP.seq ?_
   refine AWP.frzBox 4 hG rfl rfl rfl ?_
   refine AWP.draw mixed (by kernel_rfl) (fun _ => ?_)
   refine ρl U186 sz186 ?_
   refine ρf cf151 (fun hg => itMay_fn (l.getD k default)) ?_
   refine ARun.not rfl rfl rfl rfl (ep rfl) optN ?_
   refine mv ?_
   refine ρh ?_
   refine ρb ?_
   refine ARun.move (.inl rfl) rfl rfl rfl (Ev.opt rfl (fun h => h)) optS ?_
   refine ρ5 U186 sz3 ?_
   refine ρ4 U3 ?_
   refine ρh ?_
   refine ρh ?_
   first | refine ARun.arith rfl rfl rfl rfl (Ev.opt rfl (fun h => h)) (ep rfl) rfl (fun hg => i64w (by (try simp at hg); omega)) optS ?_ | refine ARun.arith rfl rfl rfl rfl (Ev.opt rfl (fun h => h)) (ep rfl) rfl (fun _ => rfl) optS ?_
   first | refine ARun.indexSl rfl rfl rfl rfl U59 sz186 (Ev.opt rfl (fun h => h)) (Ev.opt rfl (fun h => h)) (fun _ => rfl) (fun hg => getMap _ _ _ (by (try simp at hg); omega)) rfl rfl optS ?_ | refine ARun.indexSl rfl rfl rfl rfl U59 sz186 (Ev.opt rfl (fun h => h)) (Ev.opt rfl (fun h => h)) (fun hg => ofNonneg (by (try simp at hg); omega)) (fun hg => getMap _ _ _ (by (try simp at hg); omega)) rfl rfl optS ?_
   refine ρu U186 sz3 ?_
   refine ρ4 U3 ?_
   refine ρm ?_
   refine ARun.pick rfl rfl rfl rfl (Ev.opt rfl (fun h => h)) (Ev.opt rfl (by first | exact pkT | exact pkT2 | simp +contextual)) (ep rfl) (andB _ _) optS ?_
   refine ρ3 ?_
   refine ⟨by kernel_rfl, _, _, rfl, hG, ?_⟩
   refine thenA_n ?_
   refine ρo (fun h2 => ?_) (fun h2 => ?_)
   · rw [show (((k : Int) - 1).toNat) = k - 1 by omega] at h2
     change itBad l k = true at h2
     refine sr fun _ => ?_
     refine mz ?_
     refine AWP.ret (blockA_r ?_)
     refine thenA_r (thenA_r ?_)
     refine blockA_r (thenA_r ?_)
     refine ρ9 ?_
     rw [stockE, if_neg (by rw [h0]; decide), if_pos (any_hit (by omega) h2)]; rfl
   rw [show (((k : Int) - 1).toNat) = k - 1 by omega] at h2
   change itBad l k = false at h2
   refine AWP.skip (blockA_n (thenA_n ?_))
   refine AWP.region (fun _ => ?_)
   first | refine ρd ?_ | refine ρg ?_
   refine mv ?_
   refine ⟨_, _, rfl, hG, ?_⟩
   refine thenA_n ⟨rfl, k + 1, _, ?_, ?_, rfl, ?_⟩
   · refine ⟨by omega, fun j hj => ?_⟩
     by_cases e : j = k
     · subst e; exact h2
     exact hno j (by omega)
   · repeat (first | exact .nil | refine .cons rfl ?_)
   omega
 simp at h1
 obtain rfl : k = l.length := by omega
 refine AWP.exit ?_
 refine thenA_x ?_
 refine thenA_x ?_
 refine blockA_h ?_
 refine thenA_n (sr fun _ => ?_)
 refine mz ?_
 refine AWP.ret ?_
 refine ρ9 ?_
 rw [stockE, if_neg (by rw [h0]; decide), if_neg (by rw [any_none (fun j hj => hno j (by omega))]; decide)]; rfl
theorem sNum_fn (n : Int) : FnP Tryz.prog 169 [.int .i64 n] (.bool (sNum n)) := by
 refine FnP.of Tryz.func169 rfl rfl (by simp) (by simp [AV.cells, aIn, aOut, aAt, aMg, aEv, aRc, aRn, aAk, aKn, aEn, aQu, aIm, aSs, aRep]) (fun G hG => ?_)
 have hN : NoH G.length (.bool (sNum n)) := (by simp [AV.cells, aIn, aOut, aAt, aMg, aEv, aRc, aRn, aAk, aKn, aEn, aQu, aIm, aSs, aRep])
 refine sr fun _ => ?_
 refine mz (sr fun _ => ?_)
 refine mv ?_
 refine ρ6 ?_
 refine mv ?_
 refine ρh ?_
 refine ρb ?_
 refine ρ1 ?_
 refine mz ?_
 refine AWP.ret ?_
 refine ρ9 ?_
 rfl
theorem seMay_fn (x : Ss) : FnP Tryz.prog 152 [aSs x] (.bool (seMay x)) := by
 refine FnP.of Tryz.func152 rfl rfl (by simp) (by simp [AV.cells, aIn, aOut, aAt, aMg, aEv, aRc, aRn, aAk, aKn, aEn, aQu, aIm, aSs, aRep]) (fun G hG => ?_)
 have hN : NoH G.length (.bool (seMay x)) := (by simp [AV.cells, aIn, aOut, aAt, aMg, aEv, aRc, aRn, aAk, aKn, aEn, aQu, aIm, aSs, aRep])
 refine sr fun _ => ?_
 refine ρt ?_
 refine mz (sr fun _ => ?_)
 refine ρ0 U188 sz3 ?_
 refine ρ2 U3 ?_
 refine ρf cf169 (fun hg => sNum_fn x.client) ?_
 refine mv ?_
 refine ρ5 U188 sz3 ?_
 refine ρ4 U3 ?_
 refine ρi cf169 (fun hg => sNum_fn x.seq) ?_
 refine ρ1 ?_
 refine mv ?_
 refine ρ5 U188 sz9 ?_
 refine ρ4 U9 ?_
 refine ARun.lenStr rfl rfl rfl rfl U9 (Ev.opt rfl (fun h => h)) optS ?_
 refine ρb ?_
 refine ρ1 ?_
 refine mz ?_
 refine AWP.ret ?_
 refine ρ9 ?_
 rfl
theorem sess_fn (l : List Ss) (hl : l.length ≤ 1000000) : FnP Tryz.prog 126 [.sl (l.map aSs)] (.int .i64 (sessE l)) := by
 refine FnP.of Tryz.func126 rfl rfl (by simp) (by simp [AV.cells, aIn, aOut, aAt, aMg, aEv, aRc, aRn, aAk, aKn, aEn, aQu, aIm, aSs, aRep]) (fun G hG => ?_)
 have hN : NoH G.length (.int .i64 (sessE l)) := (by simp [AV.cells, aIn, aOut, aAt, aMg, aEv, aRc, aRn, aAk, aKn, aEn, aQu, aIm, aSs, aRep])
 refine sr fun _ => ?_
 refine mz ?_
 refine AWP.seq (sr fun _ => ?_)
 refine mv ?_
 refine ρq U60 ?_
 refine ρ6 ?_
 refine ez ?_
 refine ρo (fun h0 => ?_) (fun h0 => ?_)
 · rw [List.length_map] at h0
   refine sr fun _ => ?_
   refine mz ?_
   refine AWP.ret (thenA_r ?_)
   refine ρ9 ?_
   rw [sessE, if_pos h0]; rfl
 rw [List.length_map] at h0
 refine AWP.skip (thenA_n (AWP.seq (sr fun _ => ?_)))
 refine mv ?_
 refine ρq U60 ?_
 refine mv ?_
 refine ez ?_
 refine AWP.block ?_
 refine AWP.rounds (fun k => k ≤ l.length ∧ ∀ j, j < k → seBad l j = false) (fun k => [(0, .sl (l.map aSs)), (8, .sl (l.map aSs)), (9, .int .i64 ((l.map aSs).length : Int)), (10, .int .i64 (k : Int))]) (fun k => []) (fun k => l.length - k) 0 0 ⟨by omega, fun j h => by omega⟩ (by repeat (first | exact .nil | refine .cons rfl ?_)) rfl (fun _ => rfl) (fun _ => ⟨by simp [AV.cells, aSs], by simp⟩) (fun k hI => ?_)
 obtain ⟨hk, hno⟩ := hI
 refine sr fun _ => ?_
 refine ρ6 ?_
 refine ez ?_
 refine AWP.seq ?_
 refine ρo (fun h1 => ?_) (fun h1 => ?_)
 · try simp [-List.getD_eq_getElem?_getD] at h1
   refine AWP.skip (thenA_n ?_)
   refine AWP.seq (AWP.block (sr fun _ => ?_))
   refine mv ?_
   first | refine ρa U60 sz188 ?_ | refine ρ7 U60 sz188 ?_
   refine ρl U188 sz188 ?_
   refine ρp (j := 0) zv188 ?_
   refine ma ?_
   refine ρ8 sz188 ?_
   refine ez ?_
   refine AWP.seq ?_
   refine AWP.frzBox 4 hG rfl rfl rfl ?_
   refine AWP.draw mixed (by kernel_rfl) (fun _ => ?_)
   refine ρl U188 sz188 ?_
   refine ρf cf152 (fun hg => seMay_fn (l.getD k default)) ?_
   refine ARun.not rfl rfl rfl rfl (ep rfl) optN ?_
   refine mv ?_
   refine ρh ?_
   refine ρb ?_
   refine ARun.move (.inl rfl) rfl rfl rfl (Ev.opt rfl (fun h => h)) optS ?_
   refine ρ5 U188 sz3 ?_
   refine ρ4 U3 ?_
   refine ρh ?_
   refine ρh ?_
   first | refine ARun.arith rfl rfl rfl rfl (Ev.opt rfl (fun h => h)) (ep rfl) rfl (fun hg => i64w (by (try simp at hg); omega)) optS ?_ | refine ARun.arith rfl rfl rfl rfl (Ev.opt rfl (fun h => h)) (ep rfl) rfl (fun _ => rfl) optS ?_
   first | refine ARun.indexSl rfl rfl rfl rfl U60 sz188 (Ev.opt rfl (fun h => h)) (Ev.opt rfl (fun h => h)) (fun _ => rfl) (fun hg => getMap _ _ _ (by (try simp at hg); omega)) rfl rfl optS ?_ | refine ARun.indexSl rfl rfl rfl rfl U60 sz188 (Ev.opt rfl (fun h => h)) (Ev.opt rfl (fun h => h)) (fun hg => ofNonneg (by (try simp at hg); omega)) (fun hg => getMap _ _ _ (by (try simp at hg); omega)) rfl rfl optS ?_
   refine ρu U188 sz3 ?_
   refine ρ4 U3 ?_
   refine ρm ?_
   refine ARun.pick rfl rfl rfl rfl (Ev.opt rfl (fun h => h)) (Ev.opt rfl (by first | exact pkT | exact pkT2 | simp +contextual)) (ep rfl) (andB _ _) optS ?_
   refine ρ3 ?_
   refine ⟨by kernel_rfl, _, _, rfl, hG, ?_⟩
   refine thenA_n ?_
   refine ρo (fun h2 => ?_) (fun h2 => ?_)
   · rw [show (((k : Int) - 1).toNat) = k - 1 by omega] at h2
     change seBad l k = true at h2
     refine sr fun _ => ?_
     refine mz ?_
     refine AWP.ret (blockA_r ?_)
     refine thenA_r (thenA_r ?_)
     refine blockA_r (thenA_r ?_)
     refine ρ9 ?_
     rw [sessE, if_neg (by rw [h0]; decide), if_pos (any_hit (by omega) h2)]; rfl
   rw [show (((k : Int) - 1).toNat) = k - 1 by omega] at h2
   change seBad l k = false at h2
   refine AWP.skip (blockA_n (thenA_n ?_))
   refine AWP.region (fun _ => ?_)
   first | refine ρd ?_ | refine ρg ?_
   refine mv ?_
   refine ⟨_, _, rfl, hG, ?_⟩
   refine thenA_n ⟨rfl, k + 1, _, ?_, ?_, rfl, ?_⟩
   · refine ⟨by omega, fun j hj => ?_⟩
     by_cases e : j = k
     · subst e; exact h2
     exact hno j (by omega)
   · repeat (first | exact .nil | refine .cons rfl ?_)
   omega
 simp at h1
 obtain rfl : k = l.length := by omega
 refine AWP.exit ?_
 refine thenA_x ?_
 refine thenA_x ?_
 refine blockA_h ?_
 refine thenA_n (sr fun _ => ?_)
 refine mz ?_
 refine AWP.ret ?_
 refine ρ9 ?_
 rw [sessE, if_neg (by rw [h0]; decide), if_neg (by rw [any_none (fun j hj => hno j (by omega))]; decide)]; rfl
theorem serv_fn (r : Rep) (h1l : r.items.length ≤ 1000000) (h2l : r.sess.length ≤ 1000000) : FnP Tryz.prog 88 [.agg [.sl (r.items.map aIm), .sl (r.sess.map aSs)]] (.int .i64 (servE r)) := by
 refine FnP.of Tryz.func88 rfl rfl (by simp) (by simp [AV.cells, aIn, aOut, aAt, aMg, aEv, aRc, aRn, aAk, aKn, aEn, aQu, aIm, aSs, aRep]) (fun G hG => ?_)
 have hN : NoH G.length (.int .i64 (servE r)) := (by simp [AV.cells, aIn, aOut, aAt, aMg, aEv, aRc, aRn, aAk, aKn, aEn, aQu, aIm, aSs, aRep])
 refine sr fun _ => ?_
 refine ρt ?_
 refine mz ?_
 refine AWP.seq (sr fun _ => ?_)
 refine ρ0 U62 sz59 ?_
 refine ρ2 U59 ?_
 refine ρf cf125 (fun hg => stock_fn r.items h1l) ?_
 refine ρ6 ?_
 refine mv ?_
 refine ρ5 U62 sz60 ?_
 refine ρ4 U60 ?_
 refine ρi cf126 (fun hg => sess_fn r.sess h2l) ?_
 refine ρb ?_
 refine ρ3 ?_
 refine ez ?_
 refine ρo (fun h0 => ?_) (fun h0 => ?_)
 · refine sr fun _ => ?_
   refine mz ?_
   refine AWP.ret (thenA_r ?_)
   refine ρ9 ?_
   rw [servE, if_pos h0]; rfl
 refine AWP.skip (thenA_n (sr fun _ => ?_))
 refine mz ?_
 refine AWP.ret ?_
 refine ρ9 ?_
 rw [servE, if_neg (by rw [h0]; decide)]; rfl
theorem size_fnC (n f : Int) : FnP Tryz.prog 136 [.int .i64 n, .int .i64 f] (.int .i64 (sizeE n f)) := by
 refine FnP.of Tryz.func136 rfl rfl (by simp) (by simp [AV.cells, aIn, aOut, aAt, aMg, aEv, aRc, aRn, aAk, aKn, aEn, aQu, aIm, aSs, aRep]) (fun G hG => ?_)
 have hN : NoH G.length (.int .i64 (sizeE n f)) := (by simp [AV.cells, aIn, aOut, aAt, aMg, aEv, aRc, aRn, aAk, aKn, aEn, aQu, aIm, aSs, aRep])
 refine sr fun _ => ?_
 refine mz ?_
 refine AWP.seq (sr fun _ => ?_)
 refine mv ?_
 refine ρf cf158 (fun hg => many_fn n) ?_
 refine ARun.not rfl rfl rfl rfl (ep rfl) optN ?_
 refine mv ?_
 refine ρh ?_
 refine ρb ?_
 refine ρ3 ?_
 refine mv ?_
 refine ρh ?_
 refine ρh ?_
 first | refine ARun.arith rfl rfl rfl rfl (Ev.opt rfl (fun h => h)) (ep rfl) rfl (fun hg => i64w (by (try simp at hg); first | omega | (rw [Int.tdiv_eq_ediv_of_nonneg (by omega)]; omega))) optS ?_ | refine ARun.arith rfl rfl rfl rfl (Ev.opt rfl (fun h => h)) (ep rfl) rfl (fun _ => rfl) optS ?_
 refine ARun.quoI rfl rfl rfl rfl (Ev.opt rfl (fun h => h)) (ep rfl) (fun _ => by decide) (fun hg => i64w (by (try simp at hg); first | omega | (rw [Int.tdiv_eq_ediv_of_nonneg (by omega)]; omega))) optS ?_
 refine ρm ?_
 refine ρ3 ?_
 refine ez ?_
 refine ρo (fun h0 => ?_) (fun h0 => ?_)
 · refine sr fun _ => ?_
   refine mz ?_
   refine AWP.ret (thenA_r ?_)
   refine ρ9 ?_
   rw [sizeE, if_pos h0]; rfl
 refine AWP.skip (thenA_n (sr fun _ => ?_))
 refine mz ?_
 refine AWP.ret ?_
 refine ρ9 ?_
 rw [sizeE, if_neg (by rw [h0]; decide)]; rfl
theorem clock_fn (now floor : Int) (own : List At) (hl : own.length ≤ 1000000) : FnP Tryz.prog 138 [.int .i64 now, .int .i64 floor, .sl (own.map aAt)] (.int .i64 (clockE now floor own)) := by
 refine FnP.of Tryz.func138 rfl rfl (by simp) (by simp [AV.cells, aIn, aOut, aAt, aMg, aEv, aRc, aRn, aAk, aKn, aEn, aQu, aIm, aSs, aRep]) (fun G hG => ?_)
 have hN : NoH G.length (.int .i64 (clockE now floor own)) := (by simp [AV.cells, aIn, aOut, aAt, aMg, aEv, aRc, aRn, aAk, aKn, aEn, aQu, aIm, aSs, aRep])
 refine sr fun _ => ?_
 refine mz ?_
 refine AWP.seq (sr fun _ => ?_)
 refine mv ?_
 refine ρ6 ?_
 refine mv ?_
 refine ρh ?_
 refine ρh ?_
 refine ρm ?_
 refine ρ3 ?_
 refine mv ?_
 refine ρh ?_
 refine ρb ?_
 refine ρ3 ?_
 refine ez ?_
 refine ρo (fun h0 => ?_) (fun h0 => ?_)
 · refine sr fun _ => ?_
   refine mz ?_
   refine AWP.ret (thenA_r ?_)
   refine ρ9 ?_
   rw [clockE, if_pos h0]; rfl
 refine AWP.skip (thenA_n (sr fun _ => ?_))
 refine mv ?_
 refine mz (sr fun _ => ?_)
 refine ARun.makeMap (j := 0) hG rfl rfl rfl rfl rfl optN ?_
 refine mz ?_
 refine AWP.seq (sr fun _ => ?_)
 refine mv ?_
 refine ρq U23 ?_
 refine mv ?_
 refine ez ?_
 refine AWP.block ?_
 refine AWP.rounds (fun k => k ≤ own.length ∧ ∀ j, j < k → clkBad own floor now j = false) (fun k => [(0, .int .i64 now), (7, .int .i64 (lastT own floor k)), (8, .mh (G.length + 0)), (24, .sl (own.map aAt)), (25, .int .i64 ((own.map aAt).length : Int)), (26, .int .i64 (k : Int))]) (fun k => [.map ((idsK own k).map fun p => (p, Value.bool true))]) (fun k => own.length - k) 1 0 ⟨by omega, fun j h => by omega⟩ (by repeat (first | exact .nil | refine .cons rfl ?_)) rfl (fun _ => rfl) (fun _ => ⟨by simp [AV.cells, aAt], by simp [AO.conts]⟩) (fun k hI => ?_)
 obtain ⟨hk, hno⟩ := hI
 refine sr fun _ => ?_
 refine ρ6 ?_
 refine ez ?_
 refine AWP.seq ?_
 refine ρo (fun h1 => ?_) (fun h1 => ?_)
 · try simp [-List.getD_eq_getElem?_getD] at h1
   refine AWP.skip (thenA_n ?_)
   refine AWP.seq (AWP.block (sr fun _ => ?_))
   first | refine ρa U23 sz58 ?_ | refine ρ7 U23 sz58 ?_
   refine ρl U58 sz58 ?_
   refine ρp (j := 1) zv58 ?_
   refine ρ8 sz58 ?_
   refine ez ?_
   refine AWP.seq (AWP.seq ?_)
   refine AWP.frzBox 10 hG rfl rfl rfl ?_
   refine AWP.region (fun _ => ?_)
   refine ρ0 U58 sz3 ?_
   refine ρ2 U3 ?_
   refine mv ?_
   refine ρ6 ?_
   refine mv ?_
   refine ρ5 U58 sz3 ?_
   refine ρ4 U3 ?_
   refine ρh ?_
   refine ρm ?_
   refine ρ3 ?_
   refine mv ?_
   refine ρ5 U58 sz3 ?_
   refine ρ4 U3 ?_
   refine ρi cf100 (fun hg => ident_fn (own.getD k default).id) ?_
   refine ρb ?_
   refine ρ3 ?_
   refine mv ?_
   refine ρh ?_
   refine ρ5 U58 sz3 ?_
   refine ρ4 U3 ?_
   refine ARun.lookMh rfl rfl rfl rfl U257 U3 zv4 (Ev.opt rfl (fun h => h)) ((hG.at _ _).trans rfl) (Ev.opt rfl (fun h => h)) (lookB _ _) optS ?_
   refine ρ3 ?_
   refine ez ?_
   refine ρo (fun h2 => ?_) (fun h2 => ?_)
   · change clkBad own floor now k = true at h2
     refine sr fun _ => ?_
     refine mz ?_
     refine AWP.ret (thenA_r ?_)
     refine blockA_r (thenA_r ?_)
     refine thenA_r (blockA_r (thenA_r ?_))
     refine ρ9 ?_
     rw [clockE, if_neg (by rw [h0]; decide), if_pos (any_hit (by omega) h2)]; rfl
   change clkBad own floor now k = false at h2
   refine AWP.skip (thenA_n (sr fun _ => ?_))
   refine ρ0 U58 sz3 ?_
   refine ρ2 U3 ?_
   refine mz ?_
   refine AWP.region (fun _ => ?_)
   refine mv ?_
   refine ρ0 U58 sz3 ?_
   refine ρ2 U3 ?_
   refine ARun.mapSet hG rfl rfl rfl U257 U3 (ep rfl) rfl (ep rfl) (ep rfl) rfl (ids_set (by omega) h2) rfl ?_
   refine ⟨_, _, rfl, hG, ?_⟩
   refine blockA_n (thenA_n ?_)
   refine AWP.region (fun _ => ?_)
   first | refine ρd ?_ | refine ρg ?_
   refine mv ?_
   refine ⟨_, _, rfl, hG, ?_⟩
   refine thenA_n ⟨rfl, k + 1, _, ?_, ?_, rfl, ?_⟩
   · refine ⟨by omega, fun j hj => ?_⟩
     by_cases e : j = k
     · subst e; exact h2
     exact hno j (by omega)
   · rw [lastT_succ]
     repeat (first | exact .nil | refine .cons rfl ?_)
   omega
 simp at h1
 obtain rfl : k = own.length := by omega
 refine AWP.exit ?_
 refine thenA_x ?_
 refine thenA_x ?_
 refine blockA_h ?_
 refine thenA_n (sr fun _ => ?_)
 refine mz ?_
 refine AWP.ret ?_
 refine ρ9 ?_
 rw [clockE, if_neg (by rw [h0]; decide), if_neg (by rw [any_none (fun j hj => hno j (by omega))]; decide)]; rfl
theorem withinS_fn (n top : Int) : FnP Tryz.prog 137 [.int .i64 n, .int .i64 top] (.bool (within n top)) := by
 refine FnP.of Tryz.func137 rfl rfl (by simp) (by simp [AV.cells, aIn, aOut, aAt, aMg, aEv, aRc, aRn, aAk, aKn, aEn, aQu, aIm, aSs, aRep]) (fun G hG => ?_)
 have hN : NoH G.length (.bool (within n top)) := (by simp [AV.cells, aIn, aOut, aAt, aMg, aEv, aRc, aRn, aAk, aKn, aEn, aQu, aIm, aSs, aRep])
 refine sr fun _ => ?_
 refine mz (sr fun _ => ?_)
 refine mv ?_
 refine ρ6 ?_
 refine mv ?_
 refine ρh ?_
 refine ρh ?_
 refine ρm ?_
 refine ρ1 ?_
 refine mz ?_
 refine AWP.ret ?_
 refine ρ9 ?_
 rfl
theorem counts_fn (r : Rep) (hr : SmallR r) : FnP Tryz.prog 121 [aRep r] (.bool (countsP r)) := by
 refine FnP.of Tryz.func121 rfl rfl (by simp) (by simp [AV.cells, aIn, aOut, aAt, aMg, aEv, aRc, aRn, aAk, aKn, aEn, aQu, aIm, aSs, aRep]) (fun G hG => ?_)
 have hN : NoH G.length (.bool (countsP r)) := (by simp [AV.cells, aIn, aOut, aAt, aMg, aEv, aRc, aRn, aAk, aKn, aEn, aQu, aIm, aSs, aRep])
 refine sr fun _ => ?_
 refine ρt ?_
 refine mz ?_
 refine AWP.seq (sr fun _ => ?_)
 refine ρ0 U227 sz64 ?_
 refine ρ0 U64 sz3 ?_
 refine ρ2 U3 ?_
 refine ρ0 U227 sz64 ?_
 refine ρ0 U64 sz3 ?_
 refine ρ2 U3 ?_
 refine ρk cf136 (fun hg => size_fnC r.n r.f) ?_
 refine ρ6 ?_
 refine mv ?_
 refine ρ5 U227 sz64 ?_
 refine ρu U64 sz3 ?_
 refine ρ4 U3 ?_
 refine ρb ?_
 refine ρ3 ?_
 refine mv ?_
 refine ρ5 U227 sz64 ?_
 refine ρu U64 sz3 ?_
 refine ρ4 U3 ?_
 refine ρ5 U227 sz64 ?_
 refine ρu U64 sz3 ?_
 refine ρ4 U3 ?_
 refine ρm ?_
 refine ρ3 ?_
 refine ez ?_
 refine ρo (fun h0 => ?_) (fun h0 => ?_)
 · refine sr fun _ => ?_
   refine mz ?_
   refine AWP.ret (thenA_r ?_)
   refine ρ9 ?_
   rw [countsP, if_pos h0]; rfl
 refine AWP.skip (thenA_n (sr fun _ => ?_))
 refine ρ0 U227 sz64 ?_
 refine ρ0 U64 sz3 ?_
 refine ρ2 U3 ?_
 refine ρk cf137 (fun hg => withinS_fn r.seq 99999) ?_
 refine mv ?_
 refine ρ5 U227 sz64 ?_
 refine ρu U64 sz3 ?_
 refine ρ4 U3 ?_
 refine ARun.call rfl rfl rfl rfl cf137 (ep rfl) (.cons (Ev.opt rfl (fun h => h)) (.cons (ep rfl) .nil)) rfl (fun hg => withinS_fn r.ticks 1000000) optS ?_
 refine ρ1 ?_
 refine mv ?_
 refine ρ5 U227 sz64 ?_
 refine ρu U64 sz3 ?_
 refine ρ4 U3 ?_
 refine ARun.call rfl rfl rfl rfl cf137 (ep rfl) (.cons (Ev.opt rfl (fun h => h)) (.cons (ep rfl) .nil)) rfl (fun hg => withinS_fn r.count 1000000) optS ?_
 refine ρ1 ?_
 refine mv ?_
 refine ρ5 U227 sz64 ?_
 refine ρu U64 sz3 ?_
 refine ρ4 U3 ?_
 refine ρ5 U227 sz64 ?_
 refine ρu U64 sz3 ?_
 refine ρ4 U3 ?_
 refine ρ5 U227 sz64 ?_
 refine ρu U64 sz23 ?_
 refine ρ4 U23 ?_
 refine ARun.call rfl rfl rfl rfl cf138 (ep rfl) (.cons (Ev.opt rfl (fun h => h)) (.cons (Ev.opt rfl (fun h => h)) (.cons (Ev.opt rfl (fun h => h)) .nil))) rfl (fun hg => clock_fn r.clock r.floor r.own hr.own) optS ?_
 refine ρb ?_
 refine ρ1 ?_
 refine mz ?_
 refine AWP.ret ?_
 refine ρ9 ?_
 rw [countsP, if_neg (by rw [h0]; decide)]
theorem indexEn (F : Nat) (fs cs : List AV) (p : En → Bool) (l : List En) (hl : l.length ≤ 9223372036854775807) (hcf : ∀ (vs : Array Value) (W : World), (callFunc F vs).run Tryz.prog W = .ok (.enter F vs) W) (hn : (∀ x, x ∈ fs → NoH 0 x) ∧ ∀ x, x ∈ cs → NoH 0 x) (hp : ∀ x, x ∈ l → FnP Tryz.prog F (fs ++ [aEn x] ++ cs) (.bool (p x))) : FnP Tryz.prog 160 [.sl (l.map aEn), .fn (.func F) fs cs] (.int .i64 (idxOf p l)) := by
 refine FnP.of Tryz.func160 rfl rfl (by simp) (by simp [AV.cells, aIn, aOut, aAt, aMg, aEv, aRc, aRn, aAk, aKn, aEn, aQu, aIm, aSs, aRep]) (fun G hG => ?_)
 have hN : NoH G.length (.int .i64 (idxOf p l)) := (by simp [AV.cells, aIn, aOut, aAt, aMg, aEv, aRc, aRn, aAk, aKn, aEn, aQu, aIm, aSs, aRep])
 refine sr fun _ => ?_
 refine mz ?_
 refine AWP.seq (sr fun _ => ?_)
 refine mv ?_
 refine ρq U53 ?_
 refine mv ?_
 refine ez ?_
 refine AWP.block ?_
 refine AWP.rounds (fun k => k ≤ l.length ∧ ∀ j, j < k → p (l.getD j default) = false) (fun k => [(0, .sl (l.map aEn)), (1, .fn (.func F) fs cs), (7, .int .i64 ((l.map aEn).length : Int)), (8, .int .i64 (k : Int))]) (fun k => []) (fun k => l.length - k) 0 0 ⟨by omega, fun j h => by omega⟩ (by repeat (first | exact .nil | refine .cons rfl ?_)) rfl (fun _ => rfl) (fun _ => ⟨by simp [AV.cells, aIn, aOut, aAt, aMg, aEv, aRc, aRn, aAk, aKn, aEn, aQu, aIm, aSs, aRep]; exact ⟨fun x hx => (hn.1 x hx).mono (by omega), fun x hx => (hn.2 x hx).mono (by omega)⟩, by simp⟩) (fun k hI => ?_)
 obtain ⟨hk, hno⟩ := hI
 refine sr fun _ => ?_
 refine ρ6 ?_
 refine ez ?_
 refine AWP.seq ?_
 refine ρo (fun h0 => ?_) (fun h0 => ?_)
 · try simp [-List.getD_eq_getElem?_getD] at h0
   refine AWP.skip (thenA_n ?_)
   refine AWP.seq (AWP.block (sr fun _ => ?_))
   refine mv ?_
   refine mz (sr fun _ => ?_)
   refine mv ?_
   refine mv ?_
   refine mv ?_
   first | refine ρa U53 sz178 ?_ | refine ρ7 U53 sz178 ?_
   refine ρl U178 sz178 ?_
   refine ARun.call rfl rfl rfl rfl hcf (ep rfl) (.cons (ep rfl) .nil) rfl (fun hg => hp _ (by rw [List.getD, List.getElem?_eq_getElem h0]; exact List.getElem_mem h0)) optN ?_
   refine ez ?_
   refine ρo (fun h1 => ?_) (fun h1 => ?_)
   · try simp [-List.getD_eq_getElem?_getD] at h1
     refine sr fun _ => ?_
     refine mv ?_
     refine mz ?_
     refine AWP.ret (blockA_r ?_)
     refine thenA_r (thenA_r ?_)
     refine blockA_r (thenA_r ?_)
     refine ρ9 ?_
     rw [idx_hit h0 hno h1]
   try simp [-List.getD_eq_getElem?_getD] at h1
   refine AWP.skip (blockA_n (thenA_n ?_))
   refine AWP.region (fun _ => ?_)
   first | refine ρd ?_ | refine ρg ?_
   refine mv ?_
   refine ⟨_, _, rfl, hG, ?_⟩
   refine thenA_n ⟨rfl, k + 1, _, ?_, ?_, rfl, ?_⟩
   · refine ⟨by omega, fun j hj => ?_⟩
     by_cases e : j = k
     · subst e; exact h1
     exact hno j (by omega)
   · repeat (first | exact .nil | refine .cons rfl ?_)
   omega
 try simp [-List.getD_eq_getElem?_getD] at h0
 refine AWP.exit ?_
 refine thenA_x ?_
 refine thenA_x ?_
 refine blockA_h ?_
 refine thenA_n (sr fun _ => ?_)
 refine mz ?_
 refine AWP.ret ?_
 refine ρ9 ?_
 rw [idx_none (fun j hj => hno j (by omega))]; rfl
theorem containsEn (F : Nat) (fs cs : List AV) (p : En → Bool) (l : List En) (hl : l.length ≤ 9223372036854775807) (hcf : ∀ (vs : Array Value) (W : World), (callFunc F vs).run Tryz.prog W = .ok (.enter F vs) W) (hn : (∀ x, x ∈ fs → NoH 0 x) ∧ ∀ x, x ∈ cs → NoH 0 x) (hp : ∀ x, x ∈ l → FnP Tryz.prog F (fs ++ [aEn x] ++ cs) (.bool (p x))) : FnP Tryz.prog 142 [.sl (l.map aEn), .fn (.func F) fs cs] (.bool (l.any p)) := by
 refine FnP.of Tryz.func142 rfl rfl (by simp) (by simp [AV.cells, aIn, aOut, aAt, aMg, aEv, aRc, aRn, aAk, aKn, aEn, aQu, aIm, aSs, aRep]) (fun G hG => ?_)
 have hN : NoH G.length (.bool (l.any p)) := (by simp [AV.cells, aIn, aOut, aAt, aMg, aEv, aRc, aRn, aAk, aKn, aEn, aQu, aIm, aSs, aRep])
 refine sr fun _ => ?_
 refine mz (sr fun _ => ?_)
 refine mv ?_
 refine mv ?_
 refine ρk cf160 (fun hg => indexEn F fs cs p l hl hcf hn hp) ?_
 refine ρ6 ?_
 refine mz ?_
 refine AWP.ret ?_
 refine ρ9 ?_
 rw [← any_idx]
theorem indexKn (F : Nat) (fs cs : List AV) (p : Kn → Bool) (l : List Kn) (hl : l.length ≤ 9223372036854775807) (hcf : ∀ (vs : Array Value) (W : World), (callFunc F vs).run Tryz.prog W = .ok (.enter F vs) W) (hn : (∀ x, x ∈ fs → NoH 0 x) ∧ ∀ x, x ∈ cs → NoH 0 x) (hp : ∀ x, x ∈ l → FnP Tryz.prog F (fs ++ [aKn x] ++ cs) (.bool (p x))) : FnP Tryz.prog 165 [.sl (l.map aKn), .fn (.func F) fs cs] (.int .i64 (idxOf p l)) := by
 refine FnP.of Tryz.func165 rfl rfl (by simp) (by simp [AV.cells, aIn, aOut, aAt, aMg, aEv, aRc, aRn, aAk, aKn, aEn, aQu, aIm, aSs, aRep]) (fun G hG => ?_)
 have hN : NoH G.length (.int .i64 (idxOf p l)) := (by simp [AV.cells, aIn, aOut, aAt, aMg, aEv, aRc, aRn, aAk, aKn, aEn, aQu, aIm, aSs, aRep])
 refine sr fun _ => ?_
 refine mz ?_
 refine AWP.seq (sr fun _ => ?_)
 refine mv ?_
 refine ρq U54 ?_
 refine mv ?_
 refine ez ?_
 refine AWP.block ?_
 refine AWP.rounds (fun k => k ≤ l.length ∧ ∀ j, j < k → p (l.getD j default) = false) (fun k => [(0, .sl (l.map aKn)), (1, .fn (.func F) fs cs), (7, .int .i64 ((l.map aKn).length : Int)), (8, .int .i64 (k : Int))]) (fun k => []) (fun k => l.length - k) 0 0 ⟨by omega, fun j h => by omega⟩ (by repeat (first | exact .nil | refine .cons rfl ?_)) rfl (fun _ => rfl) (fun _ => ⟨by simp [AV.cells, aIn, aOut, aAt, aMg, aEv, aRc, aRn, aAk, aKn, aEn, aQu, aIm, aSs, aRep]; exact ⟨fun x hx => (hn.1 x hx).mono (by omega), fun x hx => (hn.2 x hx).mono (by omega)⟩, by simp⟩) (fun k hI => ?_)
 obtain ⟨hk, hno⟩ := hI
 refine sr fun _ => ?_
 refine ρ6 ?_
 refine ez ?_
 refine AWP.seq ?_
 refine ρo (fun h0 => ?_) (fun h0 => ?_)
 · try simp [-List.getD_eq_getElem?_getD] at h0
   refine AWP.skip (thenA_n ?_)
   refine AWP.seq (AWP.block (sr fun _ => ?_))
   refine mv ?_
   refine mz (sr fun _ => ?_)
   refine mv ?_
   refine mv ?_
   refine mv ?_
   first | refine ρa U54 sz164 ?_ | refine ρ7 U54 sz164 ?_
   refine ρl U164 sz164 ?_
   refine ARun.call rfl rfl rfl rfl hcf (ep rfl) (.cons (ep rfl) .nil) rfl (fun hg => hp _ (by rw [List.getD, List.getElem?_eq_getElem h0]; exact List.getElem_mem h0)) optN ?_
   refine ez ?_
   refine ρo (fun h1 => ?_) (fun h1 => ?_)
   · try simp [-List.getD_eq_getElem?_getD] at h1
     refine sr fun _ => ?_
     refine mv ?_
     refine mz ?_
     refine AWP.ret (blockA_r ?_)
     refine thenA_r (thenA_r ?_)
     refine blockA_r (thenA_r ?_)
     refine ρ9 ?_
     rw [idx_hit h0 hno h1]
   try simp [-List.getD_eq_getElem?_getD] at h1
   refine AWP.skip (blockA_n (thenA_n ?_))
   refine AWP.region (fun _ => ?_)
   first | refine ρd ?_ | refine ρg ?_
   refine mv ?_
   refine ⟨_, _, rfl, hG, ?_⟩
   refine thenA_n ⟨rfl, k + 1, _, ?_, ?_, rfl, ?_⟩
   · refine ⟨by omega, fun j hj => ?_⟩
     by_cases e : j = k
     · subst e; exact h1
     exact hno j (by omega)
   · repeat (first | exact .nil | refine .cons rfl ?_)
   omega
 try simp [-List.getD_eq_getElem?_getD] at h0
 refine AWP.exit ?_
 refine thenA_x ?_
 refine thenA_x ?_
 refine blockA_h ?_
 refine thenA_n (sr fun _ => ?_)
 refine mz ?_
 refine AWP.ret ?_
 refine ρ9 ?_
 rw [idx_none (fun j hj => hno j (by omega))]; rfl
theorem containsKn (F : Nat) (fs cs : List AV) (p : Kn → Bool) (l : List Kn) (hl : l.length ≤ 9223372036854775807) (hcf : ∀ (vs : Array Value) (W : World), (callFunc F vs).run Tryz.prog W = .ok (.enter F vs) W) (hn : (∀ x, x ∈ fs → NoH 0 x) ∧ ∀ x, x ∈ cs → NoH 0 x) (hp : ∀ x, x ∈ l → FnP Tryz.prog F (fs ++ [aKn x] ++ cs) (.bool (p x))) : FnP Tryz.prog 145 [.sl (l.map aKn), .fn (.func F) fs cs] (.bool (l.any p)) := by
 refine FnP.of Tryz.func145 rfl rfl (by simp) (by simp [AV.cells, aIn, aOut, aAt, aMg, aEv, aRc, aRn, aAk, aKn, aEn, aQu, aIm, aSs, aRep]) (fun G hG => ?_)
 have hN : NoH G.length (.bool (l.any p)) := (by simp [AV.cells, aIn, aOut, aAt, aMg, aEv, aRc, aRn, aAk, aKn, aEn, aQu, aIm, aSs, aRep])
 refine sr fun _ => ?_
 refine mz (sr fun _ => ?_)
 refine mv ?_
 refine mv ?_
 refine ρk cf165 (fun hg => indexKn F fs cs p l hl hcf hn hp) ?_
 refine ρ6 ?_
 refine mz ?_
 refine AWP.ret ?_
 refine ρ9 ?_
 rw [← any_idx]
theorem indexRs (F : Nat) (fs cs : List AV) (p : (List Rn) → Bool) (l : List (List Rn)) (hl : l.length ≤ 9223372036854775807) (hcf : ∀ (vs : Array Value) (W : World), (callFunc F vs).run Tryz.prog W = .ok (.enter F vs) W) (hn : (∀ x, x ∈ fs → NoH 0 x) ∧ ∀ x, x ∈ cs → NoH 0 x) (hp : ∀ x, x ∈ l → FnP Tryz.prog F (fs ++ [(fun l => AV.sl (l.map aRn)) x] ++ cs) (.bool (p x))) : FnP Tryz.prog 168 [.sl (l.map (fun l => AV.sl (l.map aRn))), .fn (.func F) fs cs] (.int .i64 (idxOf p l)) := by
 refine FnP.of Tryz.func168 rfl rfl (by simp) (by simp [AV.cells, aIn, aOut, aAt, aMg, aEv, aRc, aRn, aAk, aKn, aEn, aQu, aIm, aSs, aRep]) (fun G hG => ?_)
 have hN : NoH G.length (.int .i64 (idxOf p l)) := (by simp [AV.cells, aIn, aOut, aAt, aMg, aEv, aRc, aRn, aAk, aKn, aEn, aQu, aIm, aSs, aRep])
 refine sr fun _ => ?_
 refine mz ?_
 refine AWP.seq (sr fun _ => ?_)
 refine mv ?_
 refine ρq U56 ?_
 refine mv ?_
 refine ez ?_
 refine AWP.block ?_
 refine AWP.rounds (fun k => k ≤ l.length ∧ ∀ j, j < k → p (l.getD j default) = false) (fun k => [(0, .sl (l.map (fun l => AV.sl (l.map aRn)))), (1, .fn (.func F) fs cs), (7, .int .i64 ((l.map (fun l => AV.sl (l.map aRn))).length : Int)), (8, .int .i64 (k : Int))]) (fun k => []) (fun k => l.length - k) 0 0 ⟨by omega, fun j h => by omega⟩ (by repeat (first | exact .nil | refine .cons rfl ?_)) rfl (fun _ => rfl) (fun _ => ⟨by simp [AV.cells, aIn, aOut, aAt, aMg, aEv, aRc, aRn, aAk, aKn, aEn, aQu, aIm, aSs, aRep]; exact ⟨fun x hx => (hn.1 x hx).mono (by omega), fun x hx => (hn.2 x hx).mono (by omega)⟩, by simp⟩) (fun k hI => ?_)
 obtain ⟨hk, hno⟩ := hI
 refine sr fun _ => ?_
 refine ρ6 ?_
 refine ez ?_
 refine AWP.seq ?_
 refine ρo (fun h0 => ?_) (fun h0 => ?_)
 · try simp [-List.getD_eq_getElem?_getD] at h0
   refine AWP.skip (thenA_n ?_)
   refine AWP.seq (AWP.block (sr fun _ => ?_))
   refine mv ?_
   refine mz (sr fun _ => ?_)
   refine mv ?_
   refine mv ?_
   refine mv ?_
   first | refine ρa U56 sz162 ?_ | refine ρ7 U56 sz162 ?_
   refine ρ2 U162 ?_
   refine ARun.call rfl rfl rfl rfl hcf (ep rfl) (.cons (ep rfl) .nil) rfl (fun hg => hp _ (by rw [List.getD, List.getElem?_eq_getElem h0]; exact List.getElem_mem h0)) optN ?_
   refine ez ?_
   refine ρo (fun h1 => ?_) (fun h1 => ?_)
   · try simp [-List.getD_eq_getElem?_getD] at h1
     refine sr fun _ => ?_
     refine mv ?_
     refine mz ?_
     refine AWP.ret (blockA_r ?_)
     refine thenA_r (thenA_r ?_)
     refine blockA_r (thenA_r ?_)
     refine ρ9 ?_
     rw [idx_hit h0 hno h1]
   try simp [-List.getD_eq_getElem?_getD] at h1
   refine AWP.skip (blockA_n (thenA_n ?_))
   refine AWP.region (fun _ => ?_)
   first | refine ρd ?_ | refine ρg ?_
   refine mv ?_
   refine ⟨_, _, rfl, hG, ?_⟩
   refine thenA_n ⟨rfl, k + 1, _, ?_, ?_, rfl, ?_⟩
   · refine ⟨by omega, fun j hj => ?_⟩
     by_cases e : j = k
     · subst e; exact h1
     exact hno j (by omega)
   · repeat (first | exact .nil | refine .cons rfl ?_)
   omega
 try simp [-List.getD_eq_getElem?_getD] at h0
 refine AWP.exit ?_
 refine thenA_x ?_
 refine thenA_x ?_
 refine blockA_h ?_
 refine thenA_n (sr fun _ => ?_)
 refine mz ?_
 refine AWP.ret ?_
 refine ρ9 ?_
 rw [idx_none (fun j hj => hno j (by omega))]; rfl
theorem containsRs (F : Nat) (fs cs : List AV) (p : (List Rn) → Bool) (l : List (List Rn)) (hl : l.length ≤ 9223372036854775807) (hcf : ∀ (vs : Array Value) (W : World), (callFunc F vs).run Tryz.prog W = .ok (.enter F vs) W) (hn : (∀ x, x ∈ fs → NoH 0 x) ∧ ∀ x, x ∈ cs → NoH 0 x) (hp : ∀ x, x ∈ l → FnP Tryz.prog F (fs ++ [(fun l => AV.sl (l.map aRn)) x] ++ cs) (.bool (p x))) : FnP Tryz.prog 150 [.sl (l.map (fun l => AV.sl (l.map aRn))), .fn (.func F) fs cs] (.bool (l.any p)) := by
 refine FnP.of Tryz.func150 rfl rfl (by simp) (by simp [AV.cells, aIn, aOut, aAt, aMg, aEv, aRc, aRn, aAk, aKn, aEn, aQu, aIm, aSs, aRep]) (fun G hG => ?_)
 have hN : NoH G.length (.bool (l.any p)) := (by simp [AV.cells, aIn, aOut, aAt, aMg, aEv, aRc, aRn, aAk, aKn, aEn, aQu, aIm, aSs, aRep])
 refine sr fun _ => ?_
 refine mz (sr fun _ => ?_)
 refine mv ?_
 refine mv ?_
 refine ρk cf168 (fun hg => indexRs F fs cs p l hl hcf hn hp) ?_
 refine ρ6 ?_
 refine mz ?_
 refine AWP.ret ?_
 refine ρ9 ?_
 rw [← any_idx]
theorem far_fn (e : En) (r : Rep) : FnP Tryz.prog 139 [aEn e, .pe (aRep r).cells] (.bool (farP r.n e)) := by
 refine FnP.of Tryz.func139 rfl rfl (by simp) (by simp [AV.cells, aIn, aOut, aAt, aMg, aEv, aRc, aRn, aAk, aKn, aEn, aQu, aIm, aSs, aRep]) (fun G hG => ?_)
 have hN : NoH G.length (.bool (farP r.n e)) := (by simp [AV.cells, aIn, aOut, aAt, aMg, aEv, aRc, aRn, aAk, aKn, aEn, aQu, aIm, aSs, aRep])
 refine sr fun _ => ?_
 refine ρt ?_
 refine mz ?_
 refine AWP.seq ?_
 refine AWP.draw mixed (by kernel_rfl) (fun _ => ?_)
 refine ρ0 U178 sz3 ?_
 refine ρ2 U3 ?_
 refine ρf cf140 (fun hg => self_fn e.id) ?_
 refine ρ0 U227 sz64 ?_
 refine ρ0 U64 sz3 ?_
 refine ρ2 U3 ?_
 refine ρ6 ?_
 refine ma ?_
 refine ⟨by kernel_rfl, _, _, rfl, hG, ?_⟩
 refine thenA_n (AWP.ret ?_)
 refine ρ9 ?_
 rfl
theorem commands_fn (r : Rep) (hr : SmallR r) : FnP Tryz.prog 122 [aRep r] (.bool (commandsP r)) := by
 refine FnP.of Tryz.func122 rfl rfl (by simp) (by simp [AV.cells, aIn, aOut, aAt, aMg, aEv, aRc, aRn, aAk, aKn, aEn, aQu, aIm, aSs, aRep]) (fun G hG => ?_)
 have hN : NoH G.length (.bool (commandsP r)) := (by simp [AV.cells, aIn, aOut, aAt, aMg, aEv, aRc, aRn, aAk, aKn, aEn, aQu, aIm, aSs, aRep])
 refine sr fun _ => ?_
 refine ρt ?_
 refine mz (sr fun _ => ?_)
 refine ARun.makeFunc rfl rfl rfl rfl .nil (.cons (ep rfl) .nil) optN ?_
 refine mz (sr fun _ => ?_)
 refine ρ0 U227 sz64 ?_
 refine ρ0 U64 sz53 ?_
 refine ρ2 U53 ?_
 refine ρf cf141 (fun hg => table_fn r.entries hr.entries hr.acks) ?_
 refine ρ6 ?_
 refine mv ?_
 refine ρ5 U227 sz64 ?_
 refine ρu U64 sz53 ?_
 refine ρ4 U53 ?_
 refine ρh ?_
 refine ARun.call rfl rfl rfl rfl cf142 (ep rfl) (.cons (Ev.opt rfl (fun h => h)) (.cons (Ev.opt rfl (fun h => h)) .nil)) rfl (fun hg => containsEn 139 [] [.pe (aRep r).cells] (farP r.n) r.entries (by have := hr.entries; omega) cf139 (by simp [AV.cells, aRep, aEn, aAk, aAt, aKn, aRn, aIm, aSs]) (fun x _ => far_fn x r)) optS ?_
 refine ARun.not rfl rfl rfl rfl (Ev.opt rfl (fun h => h)) optS ?_
 refine ρ1 ?_
 refine mz ?_
 refine AWP.ret ?_
 refine ρ9 ?_
 rfl
theorem knW_fn (k : Kn) (hk : smallK k) : FnP Tryz.prog 143 [aKn k] (.bool (knWrong k)) := by
 refine FnP.of Tryz.func143 rfl rfl (by simp) (by simp [AV.cells, aIn, aOut, aAt, aMg, aEv, aRc, aRn, aAk, aKn, aEn, aQu, aIm, aSs, aRep]) (fun G hG => ?_)
 have hN : NoH G.length (.bool (knWrong k)) := (by simp [AV.cells, aIn, aOut, aAt, aMg, aEv, aRc, aRn, aAk, aKn, aEn, aQu, aIm, aSs, aRep])
 refine sr fun _ => ?_
 refine ρt ?_
 refine mz (sr fun _ => ?_)
 refine ρl U164 sz164 ?_
 refine ρf cf144 (fun hg => known_fn k hk.1 hk.2) ?_
 refine ρ6 ?_
 refine mz ?_
 refine AWP.ret ?_
 refine ρ9 ?_
 rfl
theorem hears_fn (r : Rep) (hr : SmallR r) : FnP Tryz.prog 123 [aRep r] (.bool (hearsP r)) := by
 refine FnP.of Tryz.func123 rfl rfl (by simp) (by simp [AV.cells, aIn, aOut, aAt, aMg, aEv, aRc, aRn, aAk, aKn, aEn, aQu, aIm, aSs, aRep]) (fun G hG => ?_)
 have hN : NoH G.length (.bool (hearsP r)) := (by simp [AV.cells, aIn, aOut, aAt, aMg, aEv, aRc, aRn, aAk, aKn, aEn, aQu, aIm, aSs, aRep])
 refine sr fun _ => ?_
 refine ρt ?_
 refine mz (sr fun _ => ?_)
 refine mz (sr fun _ => ?_)
 refine ρ0 U227 sz64 ?_
 refine ρ0 U64 sz54 ?_
 refine ρ2 U54 ?_
 refine ρq U54 ?_
 refine ρ0 U227 sz64 ?_
 refine ρ0 U64 sz3 ?_
 refine ρ2 U3 ?_
 refine ρ6 ?_
 refine mv ?_
 refine ρ5 U227 sz64 ?_
 refine ρu U64 sz54 ?_
 refine ρ4 U54 ?_
 refine ρh ?_
 refine ARun.call rfl rfl rfl rfl cf145 (ep rfl) (.cons (Ev.opt rfl (fun h => h)) (.cons (Ev.opt rfl (fun h => h)) .nil)) rfl (fun hg => containsKn 143 [] [] knWrong r.known (by have := hr.known; omega) cf143 (by simp) (fun x hx => knW_fn x (hr.kn x hx))) optS ?_
 refine ARun.not rfl rfl rfl rfl (Ev.opt rfl (fun h => h)) optS ?_
 refine ρ1 ?_
 refine mv ?_
 refine ρ5 U227 sz64 ?_
 refine ρu U64 sz55 ?_
 refine ρ4 U55 ?_
 refine ρ5 U227 sz64 ?_
 refine ρu U64 sz3 ?_
 refine ρ4 U3 ?_
 refine ARun.call rfl rfl rfl rfl cf146 (ep rfl) (.cons (Ev.opt rfl (fun h => h)) (.cons (Ev.opt rfl (fun h => h)) .nil)) rfl (fun hg => sweep_fn r.marks r.n hr.marks hr.mkl) optS ?_
 refine ρb ?_
 refine ρ1 ?_
 refine mv ?_
 refine ρ5 U227 sz64 ?_
 refine ρu U64 sz24 ?_
 refine ρ4 U24 ?_
 refine ρ5 U227 sz64 ?_
 refine ρu U64 sz3 ?_
 refine ρ4 U3 ?_
 refine ARun.call rfl rfl rfl rfl cf147 (ep rfl) (.cons (Ev.opt rfl (fun h => h)) (.cons (Ev.opt rfl (fun h => h)) .nil)) rfl (fun hg => stable_fn r.fronts r.n hr.fronts) optS ?_
 refine ρb ?_
 refine ρ1 ?_
 refine mz ?_
 refine AWP.ret ?_
 refine ρ9 ?_
 rw [List.length_map]; rfl
theorem dnW_fn (l : List Rn) (hl : l.length ≤ 1000000) : FnP Tryz.prog 148 [.sl (l.map aRn)] (.bool (dnWrong l)) := by
 have hlm : (l.map aRn).length = l.length := List.length_map ..
 refine FnP.of Tryz.func148 rfl rfl (by simp) (by simp [AV.cells, aIn, aOut, aAt, aMg, aEv, aRc, aRn, aAk, aKn, aEn, aQu, aIm, aSs, aRep]) (fun G hG => ?_)
 have hN : NoH G.length (.bool (dnWrong l)) := (by simp [AV.cells, aIn, aOut, aAt, aMg, aEv, aRc, aRn, aAk, aKn, aEn, aQu, aIm, aSs, aRep])
 refine sr fun _ => ?_
 refine mz (sr fun _ => ?_)
 refine mv ?_
 refine ρf cf149 (fun hg => ranges_fn l hl) ?_
 refine ρ6 ?_
 refine mv ?_
 refine ρh ?_
 refine ARun.lenSl rfl rfl rfl rfl U162 (Ev.opt rfl (fun h => h)) optS ?_
 refine ρb ?_
 refine ARun.move (.inl rfl) rfl rfl rfl (Ev.opt rfl (fun h => h)) optS ?_
 refine ρh ?_
 refine ρh ?_
 refine ARun.lenSl rfl rfl rfl rfl U162 (Ev.opt rfl (fun h => h)) optS ?_
 first | refine ARun.arith rfl rfl rfl rfl (Ev.opt rfl (fun h => h)) (ep rfl) rfl (fun hg => i64w (by (try simp at hg); omega)) optS ?_ | refine ARun.arith rfl rfl rfl rfl (Ev.opt rfl (fun h => h)) (ep rfl) rfl (fun _ => rfl) optS ?_
 first | refine ARun.indexSl rfl rfl rfl rfl U162 sz167 (Ev.opt rfl (fun h => h)) (Ev.opt rfl (fun h => h)) (fun _ => rfl) (fun hg => getMap _ _ _ (by (try simp at hg); omega)) rfl rfl optS ?_ | refine ARun.indexSl rfl rfl rfl rfl U162 sz167 (Ev.opt rfl (fun h => h)) (Ev.opt rfl (fun h => h)) (fun hg => ofNonneg (by (try simp at hg); omega)) (fun hg => getMap _ _ _ (by (try simp at hg); omega)) rfl rfl optS ?_
 refine ρu U167 sz3 ?_
 refine ρ4 U3 ?_
 refine ρb ?_
 refine ARun.pick rfl rfl rfl rfl (Ev.opt rfl (fun h => h)) (Ev.opt rfl (by first | exact pkT | exact pkT2 | simp +contextual)) (ep rfl) (andB _ _) optS ?_
 refine ρ3 ?_
 refine mz ?_
 refine AWP.ret ?_
 refine ρ9 ?_
 rw [List.length_map, show (((l.length : Int) - 1).toNat) = l.length - 1 by omega]; rfl
theorem finished_fn (r : Rep) (hr : SmallR r) : FnP Tryz.prog 124 [aRep r] (.bool (finishedP r)) := by
 refine FnP.of Tryz.func124 rfl rfl (by simp) (by simp [AV.cells, aIn, aOut, aAt, aMg, aEv, aRc, aRn, aAk, aKn, aEn, aQu, aIm, aSs, aRep]) (fun G hG => ?_)
 have hN : NoH G.length (.bool (finishedP r)) := (by simp [AV.cells, aIn, aOut, aAt, aMg, aEv, aRc, aRn, aAk, aKn, aEn, aQu, aIm, aSs, aRep])
 refine sr fun _ => ?_
 refine ρt ?_
 refine mz (sr fun _ => ?_)
 refine mz ?_
 refine AWP.seq (sr fun _ => ?_)
 refine ρ0 U227 sz64 ?_
 refine ρ0 U64 sz56 ?_
 refine ρ2 U56 ?_
 refine ρq U56 ?_
 refine ρ0 U227 sz64 ?_
 refine ρ0 U64 sz3 ?_
 refine ρ2 U3 ?_
 refine ρ6 ?_
 refine mv ?_
 refine ρ5 U227 sz64 ?_
 refine ρu U64 sz56 ?_
 refine ρ4 U56 ?_
 refine ρh ?_
 refine ARun.call rfl rfl rfl rfl cf150 (ep rfl) (.cons (Ev.opt rfl (fun h => h)) (.cons (Ev.opt rfl (fun h => h)) .nil)) rfl (fun hg => containsRs 148 [] [] dnWrong r.done (by have := hr.done; omega) cf148 (by simp) (fun x hx => dnW_fn x (hr.dn x hx))) optS ?_
 refine ρ3 ?_
 refine ez ?_
 refine ρo (fun h0 => ?_) (fun h0 => ?_)
 · rw [List.length_map] at h0
   refine sr fun _ => ?_
   refine mz ?_
   refine AWP.ret (thenA_r ?_)
   refine ρ9 ?_
   rw [finishedP, if_pos h0]; rfl
 rw [List.length_map] at h0
 refine AWP.skip (thenA_n (sr fun _ => ?_))
 refine ρ0 U227 sz64 ?_
 refine ρ0 U64 sz58 ?_
 refine ρl U58 sz58 ?_
 refine ARun.build rfl rfl rfl rfl so58 .nil rfl rfl optN ?_
 refine ARun.eqAgg rfl rfl rfl rfl eq58 (ep rfl) (ep rfl) rfl (.inl ⟨rfl, rfl⟩) optN ?_
 refine mv ?_
 refine ρ5 U227 sz64 ?_
 refine ρu U64 sz58 ?_
 refine ρu U58 sz3 ?_
 refine ρ4 U3 ?_
 refine ρi cf100 (fun hg => ident_fn r.last.id) ?_
 refine ρb ?_
 refine ARun.move (.inl rfl) rfl rfl rfl (Ev.opt rfl (fun h => h)) optS ?_
 refine ρ5 U227 sz64 ?_
 refine ρu U64 sz58 ?_
 refine ρu U58 sz3 ?_
 refine ρ4 U3 ?_
 refine ρb ?_
 refine ARun.pick rfl rfl rfl rfl (Ev.opt rfl (fun h => h)) (Ev.opt rfl (by first | exact pkT | exact pkT2 | simp +contextual)) (ep rfl) (andB _ _) optS ?_
 refine ARun.move (.inl rfl) rfl rfl rfl (Ev.opt rfl (fun h => h)) optS ?_
 refine ρ5 U227 sz64 ?_
 refine ρu U64 sz58 ?_
 refine ρu U58 sz3 ?_
 refine ρ4 U3 ?_
 refine ρb ?_
 refine ARun.pick rfl rfl rfl rfl (Ev.opt rfl (fun h => h)) (Ev.opt rfl (by first | exact pkT | exact pkT2 | simp +contextual)) (ep rfl) (andB _ _) optS ?_
 refine ρ3 ?_
 refine mz ?_
 refine AWP.ret ?_
 refine ρ9 ?_
 rw [finishedP, if_neg (by rw [h0]; decide)]
abbrev asksF : List Nat := [121, 122, 123, 124]
theorem ask_cf (k : Nat) (hk : k < 4) : ∀ (vs : Array Value) (W : World), (callFunc (asksF.getD k default) vs).run Tryz.prog W = .ok (.enter (asksF.getD k default) vs) W :=
 match k, hk with
 | 0, _ => cf121
 | 1, _ => cf122
 | 2, _ => cf123
 | 3, _ => cf124
theorem ask_fn (r : Rep) (hr : SmallR r) (k : Nat) (hk : k < 4) : FnP Tryz.prog (asksF.getD k default) [aRep r] (.bool (askP r k)) :=
 match k, hk with
 | 0, _ => counts_fn r hr
 | 1, _ => commands_fn r hr
 | 2, _ => hears_fn r hr
 | 3, _ => finished_fn r hr
theorem state_fn (r : Rep) (hr : SmallR r) : FnP Tryz.prog 87 [aRep r] (.int .i64 (stateE r)) := by
 refine FnP.of Tryz.func87 rfl rfl (by simp) (by simp [AV.cells, aIn, aOut, aAt, aMg, aEv, aRc, aRn, aAk, aKn, aEn, aQu, aIm, aSs, aRep]) (fun G hG => ?_)
 have hN : NoH G.length (.int .i64 (stateE r)) := (by simp [AV.cells, aIn, aOut, aAt, aMg, aEv, aRc, aRn, aAk, aKn, aEn, aQu, aIm, aSs, aRep])
 refine sr fun _ => ?_
 refine ρt ?_
 refine mz (sr fun _ => ?_)
 refine ρl U64 sz64 ?_
 refine ARun.build rfl rfl rfl rfl so227 (.cons (ep rfl) .nil) rfl rfl optN ?_
 refine ρp (j := 0) zv227 ?_
 refine ρ8 sz227 ?_
 refine ez ?_
 refine AWP.seq (AWP.seq ?_)
 refine AWP.frzBox 3 hG rfl rfl rfl ?_
 refine AWP.region (fun _ => ?_)
 refine ρl U227 sz227 ?_
 refine ARun.makeFunc rfl rfl rfl rfl (.cons (ep rfl) .nil) .nil optN ?_
 refine ρl U227 sz227 ?_
 refine ARun.makeFunc rfl rfl rfl rfl (.cons (ep rfl) .nil) .nil optN ?_
 refine ρl U227 sz227 ?_
 refine ARun.makeFunc rfl rfl rfl rfl (.cons (ep rfl) .nil) .nil optN ?_
 refine ρl U227 sz227 ?_
 refine ARun.makeFunc rfl rfl rfl rfl (.cons (ep rfl) .nil) .nil optN ?_
 refine ARun.buildSl rfl rfl rfl rfl U228 sz22 zv22 rfl (by decide) (.cons (ep rfl) (.cons (ep rfl) (.cons (ep rfl) (.cons (ep rfl) .nil)))) rfl rfl rfl rfl (by decide) rfl rfl optN ?_
 refine ρq U228 ?_
 refine mv ?_
 refine ez ?_
 refine AWP.block ?_
 refine AWP.rounds (fun k => k ≤ 4 ∧ ∀ j, j < k → (!askP r j) = false) (fun k => [(16, .sl (asksF.map fun F => AV.fn (.func F) [aRep r] [])), (17, .int .i64 ((asksF.map fun F => AV.fn (.func F) [aRep r] []).length : Int)), (18, .int .i64 (k : Int))]) (fun k => [.dead]) (fun k => 4 - k) 1 0 ⟨by omega, fun j h => by omega⟩ (by repeat (first | exact .nil | refine .cons rfl ?_)) rfl (fun _ => rfl) (fun _ => ⟨by simp [AV.cells, aRep, aEn, aAk, aAt, aKn, aRn, aIm, aSs], by simp [AO.conts]⟩) (fun k hI => ?_)
 obtain ⟨hk, hno⟩ := hI
 refine sr fun _ => ?_
 refine ρ6 ?_
 refine ez ?_
 refine AWP.seq ?_
 refine ρo (fun h0 => ?_) (fun h0 => ?_)
 · replace h0 : k < 4 := by simp at h0; omega
   refine AWP.skip (thenA_n ?_)
   refine AWP.seq (AWP.block (sr fun _ => ?_))
   first | refine ρa U228 sz22 ?_ | refine ρ7 U228 sz22 ?_
   refine ρ2 U22 ?_
   refine mz (sr fun _ => ?_)
   refine mv ?_
   refine ARun.call rfl rfl rfl rfl (ask_cf k h0) (ep rfl) .nil rfl (fun hg => ask_fn r hr k h0) optN ?_
   refine ARun.not rfl rfl rfl rfl (ep rfl) optN ?_
   refine ez ?_
   refine ρo (fun h1 => ?_) (fun h1 => ?_)
   · change (!askP r k) = true at h1
     refine sr fun _ => ?_
     refine mz ?_
     refine AWP.ret (blockA_r ?_)
     refine thenA_r (thenA_r ?_)
     refine blockA_r (thenA_r ?_)
     refine ρ9 ?_
     rw [stateE, if_pos (any_hit h0 h1)]; rfl
   change (!askP r k) = false at h1
   refine AWP.skip (blockA_n (thenA_n ?_))
   refine AWP.region (fun _ => ?_)
   first | refine ρd ?_ | refine ρg ?_
   refine mv ?_
   refine ⟨_, _, rfl, hG, ?_⟩
   refine thenA_n ⟨rfl, k + 1, _, ?_, ?_, rfl, ?_⟩
   · refine ⟨by omega, fun j hj => ?_⟩
     by_cases e : j = k
     · subst e; exact h1
     exact hno j (by omega)
   · repeat (first | exact .nil | refine .cons rfl ?_)
   omega
 obtain rfl : k = 4 := by simp at h0; omega
 refine AWP.exit ?_
 refine thenA_x ?_
 refine thenA_x ?_
 refine blockA_h ?_
 refine thenA_n (sr fun _ => ?_)
 refine mz ?_
 refine AWP.ret ?_
 refine ρ9 ?_
 rw [stateE, if_neg (by rw [any_none hno]; decide)]; rfl
theorem replica_fn (r : Rep) (hr : SmallR r) : FnP Tryz.prog 41 [aRep r] (.int .i64 (replicaE r)) := by
 refine FnP.of Tryz.func41 rfl rfl (by simp) (by simp [AV.cells, aIn, aOut, aAt, aMg, aEv, aRc, aRn, aAk, aKn, aEn, aQu, aIm, aSs, aRep]) (fun G hG => ?_)
 have hN : NoH G.length (.int .i64 (replicaE r)) := (by simp [AV.cells, aIn, aOut, aAt, aMg, aEv, aRc, aRn, aAk, aKn, aEn, aQu, aIm, aSs, aRep])
 refine sr fun _ => ?_
 refine ρt ?_
 refine mz ?_
 refine AWP.seq (sr fun _ => ?_)
 refine ρl U64 sz64 ?_
 refine ρf cf87 (fun hg => state_fn r hr) ?_
 refine ρ6 ?_
 refine mv ?_
 refine ρ5 U64 sz62 ?_
 refine ARun.loadPeA rfl rfl rfl rfl U62 rfl sz62 (Ev.opt rfl (fun h => h)) rfl optS ?_
 refine ρi cf88 (fun hg => serv_fn r hr.items hr.sess) ?_
 refine ρb ?_
 refine ρ3 ?_
 refine ez ?_
 refine ρo (fun h0 => ?_) (fun h0 => ?_)
 · refine sr fun _ => ?_
   refine mz ?_
   refine AWP.ret (thenA_r ?_)
   refine ρ9 ?_
   rw [replicaE, if_pos h0]; rfl
 refine AWP.skip (thenA_n (sr fun _ => ?_))
 refine mz ?_
 refine AWP.ret ?_
 refine ρ9 ?_
 rw [replicaE, if_neg (by rw [h0]; decide)]; rfl
end Go.Proofs.YtnlpojjfkgnhhaaGreatDoor
namespace Go.Proofs.YtnlpojjfkgnhhaaGreatDoor
open NumP
abbrev Qs := RdS × Bool
def qNumM (st : Qs) (most : Int) : Int × Qs := ((rdNum st.1 most).2, ((rdNum st.1 most).1, st.2))
def qNum (st : Qs) : Int × Qs := qNumM st 1000000
def numsQ (st : Qs) : Nat → Qs
 | 0 => st
 | k + 1 => (qNum (numsQ st k)).2
def valQ (st : Qs) (k : Nat) : Int := (qNum (numsQ st k)).1
def qText (st : Qs) : ByteArray × Qs := ((rdText st.1 300).2, ((rdText st.1 300).1, st.2))
def qRow (st : Qs) : List Int × Qs := ((rdRow st.1 1000).2, ((rdRow st.1 1000).1, st.2))
def cutN (l : List Int) (n k : Nat) : List Int := (l.take (n * k + n)).drop (n * k)
def groupsL {α : Type} (n : Nat) (of : List Int → α) (l : List Int) : List α := (List.range (l.length / n)).map fun k => of (cutN l n k)
def qGroups {α : Type} (n : Nat) (of : List Int → α) (st : Qs) : List α × Qs :=
 (groupsL n of (rdRow st.1 1000).2, ((rdRow st.1 1000).1, st.2 || !decide (((rdRow st.1 1000).2.length : Int).tmod (n : Int) = 0)))
def qTimes {α : Type} (pf : Qs → α × Qs) : Nat → Qs → List α → List α × Qs
 | 0, st, acc => (acc, st)
 | n + 1, st, acc => if st.1.e ≠ 0 then ([], st) else qTimes pf n (pf st).2 (acc ++ [(pf st).1])
def qMany {α : Type} (pf : Qs → α × Qs) (st : Qs) : List α × Qs := qTimes pf (qNumM st 1000).1.toNat (qNumM st 1000).2 []
def mkAt (l : List Int) : At := ⟨l.getD 0 default, l.getD 1 default⟩
def unAt (a : At) : List Int := [a.t, a.id]
def mkRn (l : List Int) : Rn := ⟨l.getD 0 default, l.getD 1 default⟩
def unRn (a : Rn) : List Int := [a.lo, a.hi]
def mkAk (l : List Int) : Ak := ⟨l.getD 0 default, l.getD 1 default, l.getD 2 default, l.getD 3 default, l.getD 4 default, l.getD 5 default⟩
def unAk (a : Ak) : List Int := [a.kind, a.from_, a.bal, a.t, a.abal, a.phase]
def qEntry (st : Qs) : En × Qs :=
 (⟨valQ st 0, valQ st 1, valQ st 2, valQ st 3, valQ st 4, valQ st 5, valQ st 6, valQ st 7, (qText (numsQ st 8)).1, (qGroups 6 mkAk (qText (numsQ st 8)).2).1⟩, (qGroups 6 mkAk (qText (numsQ st 8)).2).2)
def qKnown (st : Qs) : Kn × Qs :=
 (⟨valQ st 0, (qGroups 2 mkRn (numsQ st 1)).1, (qGroups 2 mkAt (qGroups 2 mkRn (numsQ st 1)).2).1⟩, (qGroups 2 mkAt (qGroups 2 mkRn (numsQ st 1)).2).2)
def qItem (st : Qs) : Im × Qs := (⟨valQ st 0, valQ st 1, valQ st 2, valQ st 3⟩, numsQ st 4)
def qSess (st : Qs) : Ss × Qs := (⟨valQ st 0, valQ st 1, (qText (numsQ st 2)).1⟩, (qText (numsQ st 2)).2)
def imN (st : Qs) : Int × Qs := qNumM st 9
def im9 (st : Qs) : Qs := numsQ (imN st).2 9
def imE (st : Qs) : List En × Qs := qMany qEntry (im9 st)
def imO (st : Qs) : List At × Qs := qGroups 2 mkAt (imE st).2
def imK (st : Qs) : List Kn × Qs := qTimes qKnown (imN st).1.toNat (imO st).2 []
def imM (st : Qs) : List (List Int) × Qs := qTimes qRow (imN st).1.toNat (imK st).2 []
def imF (st : Qs) : List Int × Qs := qRow (imM st).2
def imD (st : Qs) : List (List Rn) × Qs := qTimes (qGroups 2 mkRn) (imN st).1.toNat (imF st).2 []
def imI (st : Qs) : List Im × Qs := qMany qItem (imD st).2
def imS (st : Qs) : List Ss × Qs := qMany qSess (imI st).2
def allQ (st : Qs) : Rep :=
 ⟨(imN st).1, valQ (imN st).2 0, valQ (imN st).2 1, valQ (imN st).2 2, valQ (imN st).2 3, valQ (imN st).2 4, valQ (imN st).2 5, (imE st).1, (imO st).1, (imK st).1, (imM st).1, (imF st).1, (imD st).1,
   ⟨valQ (imN st).2 6, valQ (imN st).2 7⟩, valQ (imN st).2 8, (imI st).1, (imS st).1⟩
/-! ### laid -/
def wGroups {α : Type} (un : α → List Int) (w : WrS) (l : List α) : WrS := wrRow w (l.flatMap un)
def wEntry (w : WrS) (e : En) : WrS := wGroups unAk (wrText (wrNums w [e.id, e.phase, e.quorum, e.t, e.bal, e.abal, e.seen, e.age]) e.payload) e.acks
def wKnown (w : WrS) (k : Kn) : WrS := wGroups unAt (wGroups unRn (wrNums w [k.base]) k.ranges) k.atts
def wItem (w : WrS) (x : Im) : WrS := wrNums w [x.id, x.free, x.held, x.gone]
def wSess (w : WrS) (x : Ss) : WrS := wrText (wrNums w [x.client, x.seq]) x.reply
def w1 (r : Rep) : WrS := wrNums WrS.new [r.n, r.f, r.self, r.clock, r.seq, r.floor, r.ticks, r.last.t, r.last.id, r.count]
def w2 (r : Rep) : WrS := r.entries.foldl wEntry (wrNums (w1 r) [(r.entries.length : Int)])
def w3 (r : Rep) : WrS := wGroups unAt (w2 r) r.own
def w4 (r : Rep) : WrS := r.known.foldl wKnown (w3 r)
def w5 (r : Rep) : WrS := r.marks.foldl wrRow (w4 r)
def w6 (r : Rep) : WrS := wrRow (w5 r) r.fronts
def w7 (r : Rep) : WrS := r.done.foldl (wGroups unRn) (w6 r)
def w8 (r : Rep) : WrS := r.items.foldl wItem (wrNums (w7 r) [(r.items.length : Int)])
def layI (r : Rep) : WrS := r.sess.foldl wSess (wrNums (w8 r) [(r.sess.length : Int)])
/-! ### what is read, laid again -/
def UpQ (st : Qs) (w : WrS) : Prop := st.2 = false → Upto st.1 w
def okQ (st : Qs) : Prop := st.1.ok
theorem upQ_num {st : Qs} {w : WrS} (hr : okQ st) (most : Int) (h : UpQ st w) : UpQ (qNumM st most).2 (wrNum w (qNumM st most).1) := fun o => first_num hr w most (h o)
theorem okQ_num {st : Qs} (hr : okQ st) (most : Int) : okQ (qNumM st most).2 := rdNum_ok hr most
theorem okQ_nums {st : Qs} (hr : okQ st) : ∀ k, okQ (numsQ st k)
 | 0 => hr
 | k + 1 => okQ_num (okQ_nums hr k) _
theorem upQ_nums {st : Qs} {w : WrS} (hr : okQ st) (h : UpQ st w) : ∀ k, UpQ (numsQ st k) (wrNums w ((List.range k).map (valQ st))) := by
 intro k
 induction k with
 | zero => exact h
 | succ k ih =>
   rw [List.range_succ, List.map_append]
   unfold wrNums
   rw [List.foldl_append]
   exact upQ_num (okQ_nums hr k) _ ih
theorem upQ_text {st : Qs} {w : WrS} (hr : okQ st) (h : UpQ st w) : UpQ (qText st).2 (wrText w (qText st).1) := fun o => first_text hr w 300 (h o)
theorem okQ_text {st : Qs} (hr : okQ st) : okQ (qText st).2 := rdText_ok hr 300
theorem upQ_row {st : Qs} {w : WrS} (hr : okQ st) (h : UpQ st w) : UpQ (qRow st).2 (wrRow w (qRow st).1) := fun o => first_row hr w 1000 (h o)
theorem okQ_row {st : Qs} (hr : okQ st) : okQ (qRow st).2 := rdRow_ok hr 1000
theorem okQ_groups {α : Type} {n : Nat} {of : List Int → α} {st : Qs} (hr : okQ st) : okQ (qGroups n of st).2 := rdRow_ok hr 1000
theorem cut_len {l : List Int} {n k m : Nat} (h : n * m ≤ l.length) (hk : k < m) : (cutN l n k).length = n := by
 have h1 : n * (k + 1) ≤ n * m := Nat.mul_le_mul_left _ hk
 rw [Nat.mul_add, Nat.mul_one] at h1
 unfold cutN
 rw [List.length_drop, List.length_take]; omega
theorem groups_flat {α : Type} {n : Nat} {of : List Int → α} {un : α → List Int} (hu : ∀ l : List Int, l.length = n → un (of l) = l) (l : List Int) : ∀ m, n * m ≤ l.length → ((List.range m).map fun k => of (cutN l n k)).flatMap un = l.take (n * m) := by
 intro m
 induction m with
 | zero => intro _; simp
 | succ m ih =>
   intro h
   have h1 : n * (m + 1) = n * m + n := by rw [Nat.mul_add, Nat.mul_one]
   rw [List.range_succ, List.map_append, List.flatMap_append, ih (by omega), h1]
   have h2 : ([m].map fun k => of (cutN l n k)).flatMap un = cutN l n m := by
     simp only [List.map_cons, List.map_nil, List.flatMap_cons, List.flatMap_nil, List.append_nil]
     exact hu _ (cut_len h (Nat.lt_succ_self m))
   rw [h2]
   unfold cutN
   have h3 : l.take (n * m) = (l.take (n * m + n)).take (n * m) := by rw [List.take_take, Nat.min_eq_left (by omega)]
   rw [h3, List.take_append_drop]
theorem upQ_groups {α : Type} {n : Nat} {of : List Int → α} {un : α → List Int} {st : Qs} {w : WrS} (hu : ∀ l : List Int, l.length = n → un (of l) = l) (hr : okQ st) (h : UpQ st w) : UpQ (qGroups n of st).2 (wGroups un w (qGroups n of st).1) := by
 intro o
 change (st.2 || !decide (((rdRow st.1 1000).2.length : Int).tmod (n : Int) = 0)) = false at o
 simp only [Bool.or_eq_false_iff, Bool.not_eq_false', decide_eq_true_eq] at o
 have h1 : (((rdRow st.1 1000).2.length % n : Nat) : Int) = 0 := o.2
 have h2 := groups_flat hu (rdRow st.1 1000).2 ((rdRow st.1 1000).2.length / n) (Nat.mul_div_le _ _)
 have h3 : n * ((rdRow st.1 1000).2.length / n) = (rdRow st.1 1000).2.length := by
   have := Nat.div_add_mod (rdRow st.1 1000).2.length n
   omega
 rw [h3, List.take_length] at h2
 show Upto (rdRow st.1 1000).1 (wrRow w ((groupsL n of (rdRow st.1 1000).2).flatMap un))
 unfold groupsL
 rw [h2]
 exact first_row hr w 1000 (h o.1)
theorem upQ_times {α : Type} {pf : Qs → α × Qs} {wf : WrS → α → WrS} (hok : ∀ st, okQ st → okQ (pf st).2) (hup : ∀ st w, okQ st → UpQ st w → UpQ (pf st).2 (wf w (pf st).1)) (w0 : WrS) :
   ∀ (n : Nat) (st : Qs) (acc : List α), okQ st → UpQ st (acc.foldl wf w0) → okQ (qTimes pf n st acc).2 ∧ UpQ (qTimes pf n st acc).2 ((qTimes pf n st acc).1.foldl wf w0) := by
 intro n
 induction n with
 | zero => intro st acc h1 h2; exact ⟨h1, h2⟩
 | succ n ih =>
   intro st acc h1 h2
   unfold qTimes
   split
   · rename_i he
     exact ⟨h1, fun _ h0 => absurd h0 he⟩
   · refine ih _ _ (hok _ h1) ?_
     rw [List.foldl_append]
     exact hup _ _ h1 h2
theorem times_len {α : Type} {pf : Qs → α × Qs} : ∀ (n : Nat) (st : Qs) (acc : List α), (qTimes pf n st acc).2.1.e = 0 → (qTimes pf n st acc).1.length = acc.length + n := by
 intro n
 induction n with
 | zero => intro st acc _; rfl
 | succ n ih =>
   intro st acc h
   unfold qTimes at h ⊢
   split at h
   · rename_i he; exact absurd h he
   · rename_i he
     rw [if_neg he, ih _ _ h, List.length_append, List.length_singleton]; omega
theorem times_all {α : Type} {pf : Qs → α × Qs} {p : α → Prop} (hok : ∀ st, okQ st → okQ (pf st).2) (hp : ∀ st, okQ st → p (pf st).1) : ∀ (n : Nat) (st : Qs) (acc : List α), okQ st → (∀ x, x ∈ acc → p x) → ∀ x, x ∈ (qTimes pf n st acc).1 → p x := by
 intro n
 induction n with
 | zero => intro st acc _ h; exact h
 | succ n ih =>
   intro st acc h1 h
   unfold qTimes
   split
   · intro x hx; cases hx
   · refine ih _ _ (hok _ h1) fun x hx => ?_
     rcases List.mem_append.1 hx with hx | hx
     · exact h x hx
     · rw [List.mem_singleton.1 hx]; exact hp st h1
theorem times_most {α : Type} {pf : Qs → α × Qs} : ∀ (n : Nat) (st : Qs) (acc : List α), (qTimes pf n st acc).1.length ≤ acc.length + n := by
 intro n
 induction n with
 | zero => intro st acc; exact Nat.le_refl _
 | succ n ih =>
   intro st acc
   unfold qTimes
   split
   · exact Nat.zero_le _
   · have := ih (pf st).2 (acc ++ [(pf st).1])
     rw [List.length_append, List.length_singleton] at this; omega
theorem num_nonneg {st : Qs} (hr : okQ st) (most : Int) (h : 0 ≤ most) : 0 ≤ (qNumM st most).1 ∧ (qNumM st most).1 ≤ most := num_top hr most h
theorem many_ok {α : Type} {pf : Qs → α × Qs} {wf : WrS → α → WrS} (hok : ∀ st, okQ st → okQ (pf st).2) (hup : ∀ st w, okQ st → UpQ st w → UpQ (pf st).2 (wf w (pf st).1)) {st : Qs} {w : WrS} (hr : okQ st) (h : UpQ st w) :
   okQ (qMany pf st).2 ∧ UpQ (qMany pf st).2 ((qMany pf st).1.foldl wf (wrNums w [((qMany pf st).1.length : Int)])) := by
 have h0 := num_nonneg hr 1000 (by omega)
 have h1 := upQ_times hok hup (wrNums w [(qNumM st 1000).1]) (qNumM st 1000).1.toNat (qNumM st 1000).2 [] (okQ_num hr 1000) (upQ_num hr 1000 h)
 refine ⟨h1.1, fun o he => ?_⟩
 have h2 := times_len _ _ _ he
 have h3 : (((qMany pf st).1.length : Nat) : Int) = (qNumM st 1000).1 := by
   unfold qMany; rw [h2, List.length_nil]; omega
 rw [h3]
 exact h1.2 o he
theorem two_back {l : List Int} (h : l.length = 2) : [l.getD 0 default, l.getD 1 default] = l := by
 match l, h with
 | [a, b], _ => rfl
theorem at_back (l : List Int) (h : l.length = 2) : unAt (mkAt l) = l := two_back h
theorem rn_back (l : List Int) (h : l.length = 2) : unRn (mkRn l) = l := two_back h
theorem ak_back (l : List Int) (h : l.length = 6) : unAk (mkAk l) = l := by
 match l, h with
 | [a, b, c, d, e, f], _ => rfl
theorem entry_ok {st : Qs} (hr : okQ st) : okQ (qEntry st).2 := okQ_groups (of := mkAk) (okQ_text (okQ_nums hr 8))
theorem entry_up {st : Qs} {w : WrS} (hr : okQ st) (h : UpQ st w) : UpQ (qEntry st).2 (wEntry w (qEntry st).1) :=
 upQ_groups ak_back (okQ_text (okQ_nums hr 8)) (upQ_text (okQ_nums hr 8) (upQ_nums hr h 8))
theorem known_ok {st : Qs} (hr : okQ st) : okQ (qKnown st).2 := okQ_groups (of := mkAt) (okQ_groups (of := mkRn) (okQ_nums hr 1))
theorem known_up {st : Qs} {w : WrS} (hr : okQ st) (h : UpQ st w) : UpQ (qKnown st).2 (wKnown w (qKnown st).1) :=
 upQ_groups at_back (okQ_groups (of := mkRn) (okQ_nums hr 1)) (upQ_groups rn_back (okQ_nums hr 1) (upQ_nums hr h 1))
theorem item_up {st : Qs} {w : WrS} (hr : okQ st) (h : UpQ st w) : UpQ (qItem st).2 (wItem w (qItem st).1) := upQ_nums hr h 4
theorem sess_up {st : Qs} {w : WrS} (hr : okQ st) (h : UpQ st w) : UpQ (qSess st).2 (wSess w (qSess st).1) := upQ_text (okQ_nums hr 2) (upQ_nums hr h 2)
theorem all_up {st : Qs} (hr : okQ st) (h : UpQ st WrS.new) : okQ (imS st).2 ∧ UpQ (imS st).2 (layI (allQ st)) := by
 have n1 := upQ_num hr 9 h
 have k1 := okQ_num hr 9
 have n2 := upQ_nums k1 n1 9
 have k2 := okQ_nums k1 9
 have n2' : UpQ (im9 st) (w1 (allQ st)) := n2
 obtain ⟨k3, n3⟩ := many_ok (pf := qEntry) (wf := wEntry) (fun _ => entry_ok) (fun _ _ => entry_up) (st := im9 st) k2 n2'
 have n4 : UpQ (imO st).2 (w3 (allQ st)) := upQ_groups at_back k3 n3
 have k4 : okQ (imO st).2 := okQ_groups k3
 obtain ⟨k5, n5⟩ := upQ_times (pf := qKnown) (wf := wKnown) (fun _ => known_ok) (fun _ _ => known_up) (w3 (allQ st)) (imN st).1.toNat (imO st).2 [] k4 n4
 obtain ⟨k6, n6⟩ := upQ_times (pf := qRow) (wf := wrRow) (fun _ => okQ_row) (fun _ _ => upQ_row) (w4 (allQ st)) (imN st).1.toNat (imK st).2 [] k5 n5
 have n7 : UpQ (imF st).2 (w6 (allQ st)) := upQ_row (st := (imM st).2) k6 n6
 have k7 : okQ (imF st).2 := okQ_row (st := (imM st).2) k6
 obtain ⟨k8, n8⟩ := upQ_times (pf := qGroups 2 mkRn) (wf := wGroups unRn) (fun _ => okQ_groups) (fun _ _ => upQ_groups rn_back) (w6 (allQ st)) (imN st).1.toNat (imF st).2 [] k7 n7
 obtain ⟨k9, n9⟩ := many_ok (pf := qItem) (wf := wItem) (fun _ hr => okQ_nums hr 4) (fun _ _ => item_up) (st := (imD st).2) (w := w7 (allQ st)) k8 n8
 exact many_ok (pf := qSess) (wf := wSess) (fun _ hr => okQ_text (okQ_nums hr 2)) (fun _ _ => sess_up) (st := (imI st).2) (w := w8 (allQ st)) k9 n9
end Go.Proofs.YtnlpojjfkgnhhaaGreatDoor
namespace Go.Proofs.YtnlpojjfkgnhhaaGreatDoor
open Go.RowKit
abbrev RSt := RdS × Bool
def prG (H : List AO) (p q : Nat) (st : RSt) : List AO := (H.set p (.box (aRd st.1))).set q (.box [.box p 0, .bool st.2])
def FnQ (P : Program) (F : FuncId) (args : Nat → Nat → List AV) (st : RSt) (r : AV) (st' : RSt) : Prop :=
 ∀ (H : List AO) (p q : Nat), p < H.length → q < H.length → p ≠ q → FnH P F (args p q) (prG H p q st) r (prG H p q st')
section
variable {H L : List AO} {p q : Nat} {st st' : RSt} {m : Nat}
theorem prG_len : (prG H p q st).length = H.length := by unfold prG; simp
theorem prG_app (hp : p < H.length) (hq : q < H.length) : prG (H ++ L) p q st = prG H p q st ++ L := by
 unfold prG; rw [List.set_append_left _ _ hp, List.set_append_left _ _ (by simpa using hq)]
theorem atQ (hq : q < H.length) : (prG H p q st ++ L)[q]? = some (.box [.box p 0, .bool st.2]) := by
 unfold prG; rw [List.getElem?_append_left (by simpa using hq), List.getElem?_set_self (by simpa using hq)]
theorem atP (hp : p < H.length) (hpq : p ≠ q) : (prG H p q st ++ L)[p]? = some (.box (aRd st.1)) := by
 unfold prG; rw [List.getElem?_append_left (by simpa using hp), List.getElem?_set_ne (fun e => hpq e.symm), List.getElem?_set_self hp]
theorem prG_q {b : Bool} (hq : q < H.length) : (prG H p q st ++ L).set q (.box [.box p 0, .bool b]) = prG H p q (st.1, b) ++ L := by
 unfold prG; rw [List.set_append_left _ _ (by simpa using hq), List.set_set]
theorem prG_p {r : RdS} (hp : p < H.length) (hpq : p ≠ q) : (prG H p q st ++ L).set p (.box (aRd r)) = prG H p q (r, st.2) ++ L := by
 unfold prG
 rw [List.set_append_left _ _ (by simpa using hp), List.set_comm _ _ (fun e => hpq e.symm), List.set_set]
theorem prG_ok (hp : p < H.length) (h : GOK m (prG H p q st)) : GOK m (prG H p q st') := by
 have hl : H.length = m := by rw [← h.1, prG_len]
 refine ⟨by rw [prG_len]; exact hl, fun o ho x hx => ?_⟩
 have ho' := ho
 unfold prG at ho
 rcases List.mem_iff_getElem?.1 ho with ⟨j, hj⟩
 by_cases e1 : q = j
 · subst e1
   have hq : q < H.length := by have := (List.getElem?_eq_some_iff.1 hj).1; simpa using this
   rw [List.getElem?_set_self (by simpa using hq)] at hj
   cases hj
   simp only [AO.conts, List.mem_cons, List.not_mem_nil, or_false] at hx
   rcases hx with rfl | rfl
   · exact .box _ _ (by omega)
   exact .bool _
 rw [List.getElem?_set_ne e1] at hj
 by_cases e2 : p = j
 · subst e2
   rw [List.getElem?_set_self hp] at hj
   cases hj
   exact noH_aRd m _ x hx
 rw [List.getElem?_set_ne e2] at hj
 refine h.2 o (List.mem_iff_getElem?.2 ⟨j, ?_⟩) x hx
 unfold prG; rw [List.getElem?_set_ne e1, List.getElem?_set_ne e2]; exact hj
theorem prG_id (hp : H[p]? = some (.box (aRd st.1))) (hq : H[q]? = some (.box [.box p 0, .bool st.2])) : prG H p q st = H := by
 unfold prG; rw [set_of_get hp, set_of_get hq]
end
theorem FnQ.of {P : Program} {f : FuncId} {fn : Func} {c : Code} {args : Nat → Nat → List AV} {st st' : RSt} {r : AV} {n : Nat} (hf : P.funcs[f]? = some fn) (hb : fn.body = some c) (hn : fn.ntmps = n) (hna : ∀ p q, (args p q).length ≤ n)
   (h : ∀ (H : List AO) (p q m : Nat), H.length = m → p < H.length → q < H.length → p ≠ q → GOK m (prG H p q st) → AWP P n m c (endF P fn r (prG H p q st')) (zipS (args p q) 0) (prG H p q st) []) : FnQ P f args st r st' := by
 intro H p q hp hq hpq
 refine FnH.of0 hf hb hn (hna p q) (fun hG => ?_)
 rw [prG_len] at hG ⊢
 exact h H p q H.length rfl hp hq hpq hG
theorem FnQ.ofM {P : Program} {F : FuncId} {args : Nat → List AV} {r r' : RdS} {x : AV} (h : FnM P F args (aRd r) x (aRd r')) (o : Bool) : FnQ P F (fun p _ => args p) (r, o) x (r', o) := by
 intro H p q hp hq hpq
 have h1 : (prG H p q (r, o))[p]? = some (.box (aRd r)) := by have := atP (L := []) (st := (r, o)) hp hpq; rwa [List.append_nil] at this
 have h2 := h (prG H p q (r, o)) p h1
 have h3 := prG_p (L := []) (st := (r, o)) (r := r') hp hpq
 rw [List.append_nil, List.append_nil] at h3
 rwa [h3] at h2
theorem FnQ.atL {P : Program} {F : FuncId} {args : Nat → Nat → List AV} {st st' : RSt} {x : AV} {m a b : Nat} {G L L' : List AO} (hG : GOK m G) (h : FnQ P F args st x st') (ha : L[a]? = some (.box (aRd st.1))) (hb : L[b]? = some (.box [.box (m + a) 0, .bool st.2])) (hab : a ≠ b)
   (hL : (L.set a (.box (aRd st'.1))).set b (.box [.box (m + a) 0, .bool st'.2]) = L') : FnH P F (args (m + a) (m + b)) (G ++ L) x (G ++ L') := by
 have hla := (List.getElem?_eq_some_iff.1 ha).1
 have hlb := (List.getElem?_eq_some_iff.1 hb).1
 have e1 : prG (G ++ L) (m + a) (m + b) st = G ++ L := prG_id (by rw [hG.at]; exact ha) (by rw [hG.at]; exact hb)
 have h2 := h (G ++ L) (m + a) (m + b) (by rw [List.length_append, hG.1]; omega) (by rw [List.length_append, hG.1]; omega) (by omega)
 rw [e1] at h2
 have e2 : prG (G ++ L) (m + a) (m + b) st' = G ++ L' := by
   unfold prG
   rw [hG.set, hG.set, hL]
 rwa [e2] at h2
section
variable {P : Program} {ops : Array Oper} {n m : Nat} {QQ : List Kd → Sl → List AO → Prop} {l : List Oper} {ks : List Kd} {σ : Sl} {G L H : List AO} {o : Oper} {gd : Bool}
theorem ARun.callQ {f : Operand} {args : Array Operand} {ats : Array TypeId} {F p q : Nat} {st st' : RSt} {fs cs xs : List AV} {ar : Nat → Nat → List AV} {r Y : AV} {d : Option Tmp} (hp : p < H.length) (hq : q < H.length) (hpq : p ≠ q) (hm : GOK m (prG H p q st)) (ho : o.op = .call { callee := .value f, args := args, argTypes := ats }) (hd : o.dst = d) (hn : dstLt n d = true) (hG : gdS ops σ o.guard = some true)
   (hcf : ∀ (va : Array Value) (W : World), (callFunc F va).run P W = .ok (.enter F va) W)
   (hf : Ev true σ f (.fn (.func F) fs cs)) (hx : EvL true σ args.toList xs) (hF : FnQ P F ar st r st') (has : fs ++ xs ++ cs = ar p q) (hY : optA o.guard true r = Y)
   (hr : GOK m (prG H p q st') → ARun P ops n QQ l (ks ++ [.wf]) (putS σ d Y) (prG H p q st' ++ L)) : ARun P ops n QQ (o :: l) ks σ (prG H p q st ++ L) := by
 refine ARun.wf (H' := prG H p q st' ++ L) hd hn hY (by simp [prG_len]) (fun E => ?_) (hr (prG_ok hp hm))
 refine call_step ho hG (.inl rfl) hcf hf hx (fun _ => ?_)
 have h1 := hF (H ++ (L ++ E)) p q (by rw [List.length_append]; omega) (by rw [List.length_append]; omega) hpq
 rw [prG_app hp hq, prG_app hp hq, ← List.append_assoc, ← List.append_assoc] at h1
 rw [has]; exact h1
variable {p q : Nat} {st st' : RSt}
theorem hd1_q (hq : q < H.length) : hd1 (prG H p q st ++ L)[q]? = some (p, 0) := by rw [atQ hq]; rfl
theorem hd1_box {o : Option AO} {a b : Nat} (h : hd1 o = some (a, b)) : ∃ cs, o = some (.box (.box a b :: cs)) := by
 unfold hd1 at h
 split at h
 · rename_i a' b' cs
   obtain ⟨rfl, rfl⟩ : a' = a ∧ b' = b := by simpa using h
   exact ⟨cs, rfl⟩
 cases h
theorem ARun.loadQI {x : Operand} {t : TypeId} {u : TypeDesc} {Y : AV} {d : Option Tmp} (hq : q < H.length) (ho : o.op = .load t x) (hd : o.dst = d) (hn : dstLt n d = true) (hG : gdS ops σ o.guard = some gd)
   (hu : P.underlying t = some u) (hA : isA u = false) (hx : Ev gd σ x (.box q 0)) (hY : optA o.guard gd (.box p 0) = Y)
   (hr : ARun P ops n QQ l (ks ++ [.inv]) (putS σ d Y) (prG H p q st ++ L)) : ARun P ops n QQ (o :: l) ks σ (prG H p q st ++ L) := by
 subst hd; subst hY
 refine ⟨.inv, _, prG H p q st ++ L, hn, ⟨rfl, fun G' hG' => OpStep.val hG (.inr rfl) (fun _ => trivial) fun hg a W β hHr hl => ?_⟩, hr⟩
 obtain ⟨cs, hcs⟩ := hd1_box ((hG' q).trans (hd1_q hq))
 obtain ⟨b, arr, T, h1, h2, h3, h4, h5⟩ := (hx.rep hg hl (by simp [ho, Op.operands])).box_at hHr hcs
 have hlt : 0 < arr.size := by rw [h4]; simp
 have hc : W.cell? ⟨b, 0, none⟩ = some arr[0] := by simp [World.cell?, h3, hlt]
 refine ⟨arr[0], W, β, ?_, Ext.refl _ _, hHr, h5 0 _ _ (Array.getElem?_eq_getElem hlt) rfl⟩
 have h6 : (loadVar t ⟨b, 0, none⟩).run P W = .ok arr[0] W := by
   simp only [loadVar, Sem.run_bind, isAgg_run hu, hA]
   simp [hc]
 simp [execOp, ho, h2, Instr.loadAt, Instr.sureAddr, h6]
theorem ARun.callQI {f : Operand} {args : Array Operand} {ats : Array TypeId} {F : Nat} {fs cs xs : List AV} {ar : Nat → Nat → List AV} {r Y : AV} {d : Option Tmp} (hp : p < H.length) (hq : q < H.length) (hpq : p ≠ q) (hm : GOK m (prG H p q st)) (ho : o.op = .call { callee := .value f, args := args, argTypes := ats }) (hd : o.dst = d) (hn : dstLt n d = true) (hG : gdS ops σ o.guard = some true)
   (hcf : ∀ (va : Array Value) (W : World), (callFunc F va).run P W = .ok (.enter F va) W)
   (hf : Ev true σ f (.fn (.func F) fs cs)) (hx : EvL true σ args.toList xs) (hF : FnQ P F ar st r st') (has : fs ++ xs ++ cs = ar p q) (hY : optA o.guard true r = Y)
   (hr : GOK m (prG H p q st') → ARun P ops n QQ l (ks ++ [.wi]) (putS σ d Y) (prG H p q st' ++ L)) : ARun P ops n QQ (o :: l) ks σ (prG H p q st ++ L) := by
 subst hd; subst hY
 refine ⟨.wi, _, prG H p q st' ++ L, hn, ⟨?_, fun q' => ?_⟩, hr (prG_ok hp hm)⟩
 · refine call_step ho hG (.inl rfl) hcf hf hx (fun _ => ?_)
   have h1 := hF (H ++ L) p q (by rw [List.length_append]; omega) (by rw [List.length_append]; omega) hpq
   rw [prG_app hp hq, prG_app hp hq] at h1
   rw [has]; exact h1
 by_cases e1 : q' = q
 · subst e1; rw [hd1_q hq, hd1_q hq]
 by_cases e2 : q' = p
 · subst e2; rw [atP hp hpq, atP hp hpq]; rfl
 have e3 : ∀ s : RSt, (prG H p q s)[q']? = H[q']? := fun s => by unfold prG; rw [List.getElem?_set_ne (fun e => e1 e.symm), List.getElem?_set_ne (fun e => e2 e.symm)]
 by_cases e4 : q' < H.length
 · rw [List.getElem?_append_left (by rw [prG_len]; exact e4), List.getElem?_append_left (by rw [prG_len]; exact e4), e3, e3]
 rw [List.getElem?_append_right (by rw [prG_len]; omega), List.getElem?_append_right (by rw [prG_len]; omega), prG_len, prG_len]
theorem ARun.wiOf {σ1 : Sl} {H1 : List AO} (h : ARun P ops n (fun _ σ' H' => σ' = σ1 ∧ H' = H1) [o] ks σ H) (hh : ∀ q : Nat, hd1 H1[q]? = hd1 H[q]?) (hr : ARun P ops n QQ l (ks ++ [.wi]) σ1 H1) : ARun P ops n QQ (o :: l) ks σ H := by
 obtain ⟨k, X, H', hd, hs, e1, e2⟩ := h
 subst e1; subst e2
 exact ⟨.wi, X, _, hd, ⟨hs.op, hh⟩, hr⟩
theorem hd1_last {A B : AO} (G : List AO) (h : hd1 (some A) = hd1 (some B)) (q : Nat) : hd1 (G ++ [A])[q]? = hd1 (G ++ [B])[q]? := by
 by_cases e : q < G.length
 · rw [List.getElem?_append_left e, List.getElem?_append_left e]
 rw [List.getElem?_append_right (by omega), List.getElem?_append_right (by omega)]
 cases q - G.length with
 | zero => exact h
 | succ k => rfl
theorem ARun.storeQ {x y : Operand} {t : TypeId} {p q : Nat} {st : RSt} {b : Bool} (hp : p < H.length) (hq : q < H.length) (hm : GOK m (prG H p q st)) (ho : o.op = .store t x y) (hd : o.dst = none) (hg : gdS ops σ o.guard = some true) (hz : Sz P t 1)
   (hx : Ev true σ x (.box q 1)) (hy : Ev true σ y (.bool b))
   (hr : GOK m (prG H p q (st.1, b)) → ARun P ops n QQ l (ks ++ [.write]) σ (prG H p q (st.1, b) ++ L)) : ARun P ops n QQ (o :: l) ks σ (prG H p q st ++ L) := by
 refine ARun.store (C := [.bool b]) (cs' := [.box p 0, .bool b]) ho hd hg hz hx hy (atQ hq) rfl rfl rfl rfl (Nat.le_refl 2) rfl ?_
 rw [prG_q hq]
 exact hr (prG_ok hp hm)
end
end Go.Proofs.YtnlpojjfkgnhhaaGreatDoor
namespace Go.Proofs.YtnlpojjfkgnhhaaGreatDoor
open Go.RowKit
theorem ti74 : Ti Tryz.prog 74 (.pointer none) 1 8 := by unfold Ti; kernel_rfl
theorem sz74 : Sz Tryz.prog 74 1 := ti74.sz
end Go.Proofs.YtnlpojjfkgnhhaaGreatDoor
namespace Go.Proofs.YtnlpojjfkgnhhaaGreatDoor
open Go.RowKit
open NumP
theorem numQ_fn (st : Qs) (h : okQ st) : FnQ Tryz.prog 74 (fun p q => [.box q 0]) (st) (.int .i64 (qNum st).1) ((qNum st).2) := by
 refine FnQ.of Tryz.func74 rfl rfl (fun p q => by simp) (fun H p q m hHm hp hq hpq hG => ?_)
 have hN : NoH H.length (.int .i64 (qNum st).1) := (by simp [AV.cells, aIn, aOut, aAt, aMg, aEv, aRc, aRn, aAk, aKn, aEn, aQu, aIm, aSs, aRep])
 refine sr fun _ => ?_
 refine mz (sr fun _ => ?_)
 refine mv ?_
 first | refine ρw ?_ | refine ρx ?_ | refine ρz (atQ hq) ?_
 refine ρn (fo := 0) U107 sz74 (atQ hq) ?_
 refine ρA U74 (atQ hq) ?_
 refine ARun.callQ hp hq hpq hG rfl rfl rfl rfl cf30 (ep rfl) (.cons (ep rfl) (.cons (ep rfl) .nil)) (FnQ.ofM (num_r st.1 1000000 h) st.2) rfl optN (fun hG => ?_)
 refine mz ?_
 refine AWP.ret ?_
 refine endF.toG (congrArg (prG H p q) rfl) ?_
 refine ρC ?_ (hn := by rw [prG_len]; exact hN)
 rfl
theorem nh_At (x : At) (m : Nat) : ∀ y, y ∈ (aAt x).cells → NoH m y := by simp [AV.cells, aIn, aOut, aAt, aMg, aEv, aRc, aRn, aAk, aKn, aEn, aQu, aIm, aSs, aRep]
theorem nh_Rn (x : Rn) (m : Nat) : ∀ y, y ∈ (aRn x).cells → NoH m y := by simp [AV.cells, aIn, aOut, aAt, aMg, aEv, aRc, aRn, aAk, aKn, aEn, aQu, aIm, aSs, aRep]
theorem nh_Ak (x : Ak) (m : Nat) : ∀ y, y ∈ (aAk x).cells → NoH m y := by simp [AV.cells, aIn, aOut, aAt, aMg, aEv, aRc, aRn, aAk, aKn, aEn, aQu, aIm, aSs, aRep]
theorem nh_Kn (x : Kn) (m : Nat) : ∀ y, y ∈ (aKn x).cells → NoH m y := by simp [AV.cells, aIn, aOut, aAt, aMg, aEv, aRc, aRn, aAk, aKn, aEn, aQu, aIm, aSs, aRep]
theorem nh_En (x : En) (m : Nat) : ∀ y, y ∈ (aEn x).cells → NoH m y := by simp [AV.cells, aIn, aOut, aAt, aMg, aEv, aRc, aRn, aAk, aKn, aEn, aQu, aIm, aSs, aRep]
theorem nh_Im (x : Im) (m : Nat) : ∀ y, y ∈ (aIm x).cells → NoH m y := by simp [AV.cells, aIn, aOut, aAt, aMg, aEv, aRc, aRn, aAk, aKn, aEn, aQu, aIm, aSs, aRep]
theorem nh_Ss (x : Ss) (m : Nat) : ∀ y, y ∈ (aSs x).cells → NoH m y := by simp [AV.cells, aIn, aOut, aAt, aMg, aEv, aRc, aRn, aAk, aKn, aEn, aQu, aIm, aSs, aRep]
theorem rows_noH {α : Type} (av : α → AV) (hav : ∀ x m, ∀ y, y ∈ (av x).cells → NoH m y) (l : List α) (g e z m : Nat) : ∀ y, y ∈ (AO.row g e z (l.map av)).conts → NoH m y := by
 intro y hy
 simp only [AO.conts, List.mem_flatMap, List.mem_map] at hy
 obtain ⟨a, ⟨x, _, rfl⟩, hy⟩ := hy
 exact hav x m y hy
theorem cut_map (l : List Int) (n k : Nat) : ((l.map (AV.int .i64)).take (n * k + n)).drop (n * k) = (cutN l n k).map (AV.int .i64) := by
 unfold cutN; rw [List.map_drop, List.map_take]
theorem div_of {L n k : Nat} (h1 : n * k ≤ L) (h2 : ¬ n * k + n ≤ L) (hn : 0 < n) : L / n = k := by
 refine Nat.div_eq_of_lt_le ?_ ?_
 · rw [Nat.mul_comm]; exact h1
 rw [Nat.add_mul, Nat.one_mul, Nat.mul_comm]; omega
theorem range_snoc {α : Type} (g : Nat → α) (av : α → AV) (k : Nat) : ((List.range k).map g).map av ++ [av (g k)] = ((List.range (k + 1)).map g).map av := by
 rw [List.range_succ, List.map_append, List.map_append]; rfl
theorem acc_snoc {α : Type} (av : α → AV) (acc : List α) (x : α) : acc.map av ++ [av x] = (acc ++ [x]).map av := by rw [List.map_append]; rfl
theorem groupsAt_fn (F n : Nat) (of : List Int → At) (st : Qs) (h : okQ st) (hn : 0 < n ∧ n ≤ 10) (hcf : ∀ (vs : Array Value) (W : World), (callFunc F vs).run Tryz.prog W = .ok (.enter F vs) W) (hof : ∀ l : List Int, l.length = n → FnP Tryz.prog F [.sl (l.map (AV.int .i64))] (aAt (of l))) : FnQ Tryz.prog 76 (fun p q => [.box q 0, .int .i64 (n : Int), .fn (.func F) [] []]) (st) (.sl ((qGroups n of st).1.map aAt)) ((qGroups n of st).2) := by
 have hrl : ((rdRow st.1 1000).2).length ≤ 1000 := rdRow_len _ _
 refine FnQ.of Tryz.func76 rfl rfl (fun p q => by simp) (fun H p q m hHm hp hq hpq hG => ?_)
 have hN : NoH H.length (.sl ((qGroups n of st).1.map aAt)) := (by simp [AV.cells, aIn, aOut, aAt, aMg, aEv, aRc, aRn, aAk, aKn, aEn, aQu, aIm, aSs, aRep])
 refine sr fun _ => ?_
 refine mz (sr fun _ => ?_)
 refine mv ?_
 first | refine ρw ?_ | refine ρx ?_ | refine ρz (atQ hq) ?_
 refine ρn (fo := 0) U107 sz74 (atQ hq) ?_
 refine ρA U74 (atQ hq) ?_
 refine ARun.callQ hp hq hpq hG rfl rfl rfl rfl cf36 (ep rfl) (.cons (ep rfl) (.cons (ep rfl) .nil)) (FnQ.ofM (row_r st.1 1000 h) st.2) rfl optN (fun hG => ?_)
 refine mz (sr fun _ => ?_)
 refine mv ?_
 refine mv ?_
 first | refine ρw ?_ | refine ρx ?_ | refine ρz (atQ hq) ?_
 refine ρn (fo := 1) U107 sz4 (atQ hq) ?_
 refine ρA U4 (atQ hq) ?_
 refine mv ?_
 refine ρh ?_
 refine ARun.lenSl rfl rfl rfl rfl U24 (Ev.opt rfl (fun h => h)) optS ?_
 refine ρh ?_
 refine ARun.remI rfl rfl rfl rfl (Ev.opt rfl (fun h => h)) (Ev.opt rfl (fun h => h)) (fun _ => (by omega)) optS ?_
 refine ρb ?_
 refine ρ3 ?_
 first | refine ρw ?_ | refine ρx ?_ | refine ρz (atQ hq) ?_
 refine ρn (fo := 1) U107 sz4 (atQ hq) ?_
 refine ARun.storeQ hp hq hG rfl rfl rfl sz4 (ep rfl) (ep rfl) (fun hG => ?_)
 refine ez (sr fun _ => ?_)
 refine ARun.nilOwn (e := 58) (z := 2) (j := 0) hG rfl ⟨.inl rfl, rfl⟩ (fun _ => rfl) rfl rfl rfl optN ?_
 refine ez ?_
 refine AWP.seq (sr fun _ => ?_)
 refine mz ?_
 refine AWP.block ?_
 refine AWP.roundsO (fun kg => n * kg.1 ≤ ((rdRow st.1 1000).2).length) (fun kg => [(1, .int .i64 (n : Int)), (2, .fn (.func F) [] []), (7, .sl (((rdRow st.1 1000).2).map (AV.int .i64))), (8, .own (m + 0) kg.2), (9, .int .i64 ((n * kg.1 : Nat) : Int))]) (fun kg => prG H p q ((rdRow st.1 1000).1, st.2 || !decide (((((rdRow st.1 1000).2).map (AV.int .i64)).length : Int).tmod (n : Int) = 0))) (fun kg => [.row kg.2 58 2 (((List.range kg.1).map fun j => of (cutN ((rdRow st.1 1000).2) n j)).map aAt)]) (fun kg => ((rdRow st.1 1000).2).length + 1 - n * kg.1) 1 ((0, 0) : Nat × Nat) (by simp) (by repeat (first | exact .nil | refine .cons rfl ?_)) rfl rfl (fun _ => rfl) (fun _ => ⟨by simp [AV.cells], fun o ho x hx => by rw [List.mem_singleton.1 ho] at hx; exact rows_noH aAt nh_At _ _ _ _ _ x hx⟩) (fun kg hI hG => ?_)
 obtain ⟨k, g⟩ := kg
 dsimp only at hI
 show AWP _ _ _ _ _ [(1, .int .i64 (n : Int)), (2, .fn (.func F) [] []), (7, .sl (((rdRow st.1 1000).2).map (AV.int .i64))), (8, .own (m + 0) g), (9, .int .i64 ((n * k : Nat) : Int))] (prG H p q ((rdRow st.1 1000).1, st.2 || !decide (((((rdRow st.1 1000).2).map (AV.int .i64)).length : Int).tmod (n : Int) = 0))) [.row g 58 2 (((List.range k).map fun j => of (cutN ((rdRow st.1 1000).2) n j)).map aAt)]
 replace hG : GOK _ (prG H p q ((rdRow st.1 1000).1, st.2 || !decide (((((rdRow st.1 1000).2).map (AV.int .i64)).length : Int).tmod (n : Int) = 0))) := hG
 refine AWP.seq (sr fun _ => ?_)
 refine mv ?_
 refine mv ?_
 first | refine ARun.arith rfl rfl rfl rfl (ep rfl) (ep rfl) rfl (fun hg => i64w (by first | omega | (rw [Nat.mul_add, Nat.mul_one]; omega))) optN ?_ | refine ρg ?_
 refine mv ?_
 refine ρq U24 ?_
 refine ρ6 ?_
 refine ez ?_
 refine ρo (fun h0 => ?_) (fun h0 => ?_)
 · replace h0 : n * k + n ≤ ((rdRow st.1 1000).2).length := by rw [List.length_map] at h0; simp only [decide_eq_true_eq] at h0; omega
   refine AWP.skip (thenA_n ?_)
   refine AWP.seq (AWP.block ?_)
   refine AWP.region (fun _ => ?_)
   refine mv ?_
   refine mv ?_
   refine mv ?_
   refine mv ?_
   refine mv ?_
   refine mv ?_
   first | refine ARun.arith rfl rfl rfl rfl (ep rfl) (ep rfl) rfl (fun hg => i64w (by first | omega | (rw [Nat.mul_add, Nat.mul_one]; omega))) optN ?_ | refine ρg ?_
   refine ARun.cutSl (a := (n * k)) (b := (n * k + n)) rfl rfl rfl rfl U24 sz3 (ep rfl) (fun _ => (by simp [AV.cells])) ⟨_, _, (ep rfl), fun hg => (by first | omega | (rw [Nat.mul_add, Nat.mul_one]; omega))⟩ ⟨_, _, (ep rfl), fun hg => (by first | omega | (rw [Nat.mul_add, Nat.mul_one]; omega))⟩ (fun hg => (by rw [List.length_map]; omega)) rfl optN ?_
   refine ARun.call rfl rfl rfl rfl hcf (ep rfl) (.cons (ep rfl) .nil) rfl (fun hg => (by have hc := hof (cutN ((rdRow st.1 1000).2) n k) (cut_len (m := k + 1) (by rw [Nat.mul_add, Nat.mul_one]; exact h0) (Nat.lt_succ_self k)); rw [← cut_map] at hc; exact hc)) optN ?_
   refine ρy U23 sz58 zv58 ?_
   refine ARun.appendL hG rfl rfl rfl rfl U23 ti58 rfl (by decide) (ep rfl) (ep rfl) rfl rfl (by rw [List.length_map, List.length_map, List.length_range]; have := Nat.le_mul_of_pos_left k hn.1; simp [maxLen]; omega) (by rw [List.length_map, List.length_map, List.length_range]; have := Nat.le_mul_of_pos_left k hn.1; simp; omega) (range_snoc (fun j => of (cutN ((rdRow st.1 1000).2) n j)) aAt k) optN rfl ?_
   refine ma ?_
   refine ⟨_, _, rfl, hG, ?_⟩
   refine blockA_n (thenA_n ?_)
   refine AWP.region (fun _ => ?_)
   refine mv ?_
   refine mv ?_
   first | refine ARun.arith rfl rfl rfl rfl (ep rfl) (ep rfl) rfl (fun hg => i64w (by first | omega | (rw [Nat.mul_add, Nat.mul_one]; omega))) optN ?_ | refine ρg ?_
   refine ma ?_
   refine ⟨_, _, rfl, hG, ?_⟩
   refine thenA_n ⟨(k + 1, g + 1), _, ?_, ?_, ?_, rfl, ?_⟩
   · rfl
   · dsimp only; rw [Nat.mul_add, Nat.mul_one]; exact h0
   · repeat (first | exact .nil | refine .cons rfl ?_)
   dsimp only; rw [Nat.mul_add, Nat.mul_one]; omega
 replace h0 : ¬ n * k + n ≤ ((rdRow st.1 1000).2).length := by rw [List.length_map] at h0; simp only [decide_eq_false_iff_not] at h0; omega
 have hkd := div_of hI h0 hn.1
 refine AWP.exit ?_
 refine thenA_x ?_
 refine thenA_x ?_
 refine blockA_h ?_
 refine thenA_n (AWP.seq ?_)
 refine AWP.frzOwn 8 hG rfl rfl (by decide) (by rw [List.length_map, List.length_map, List.length_range]; have := Nat.le_mul_of_pos_left k hn.1; simp [maxLen]; omega) rfl ?_
 refine AWP.region (fun _ => ?_)
 refine mv ?_
 refine mz ?_
 refine AWP.ret ?_
 refine endF.toG (congrArg (prG H p q) (by rw [List.length_map]; rfl)) ?_
 refine ρC ?_ (hn := by rw [prG_len]; exact hN)
 rw [qGroups, groupsL, hkd]
theorem groupsRn_fn (F n : Nat) (of : List Int → Rn) (st : Qs) (h : okQ st) (hn : 0 < n ∧ n ≤ 10) (hcf : ∀ (vs : Array Value) (W : World), (callFunc F vs).run Tryz.prog W = .ok (.enter F vs) W) (hof : ∀ l : List Int, l.length = n → FnP Tryz.prog F [.sl (l.map (AV.int .i64))] (aRn (of l))) : FnQ Tryz.prog 80 (fun p q => [.box q 0, .int .i64 (n : Int), .fn (.func F) [] []]) (st) (.sl ((qGroups n of st).1.map aRn)) ((qGroups n of st).2) := by
 have hrl : ((rdRow st.1 1000).2).length ≤ 1000 := rdRow_len _ _
 refine FnQ.of Tryz.func80 rfl rfl (fun p q => by simp) (fun H p q m hHm hp hq hpq hG => ?_)
 have hN : NoH H.length (.sl ((qGroups n of st).1.map aRn)) := (by simp [AV.cells, aIn, aOut, aAt, aMg, aEv, aRc, aRn, aAk, aKn, aEn, aQu, aIm, aSs, aRep])
 refine sr fun _ => ?_
 refine mz (sr fun _ => ?_)
 refine mv ?_
 first | refine ρw ?_ | refine ρx ?_ | refine ρz (atQ hq) ?_
 refine ρn (fo := 0) U107 sz74 (atQ hq) ?_
 refine ρA U74 (atQ hq) ?_
 refine ARun.callQ hp hq hpq hG rfl rfl rfl rfl cf36 (ep rfl) (.cons (ep rfl) (.cons (ep rfl) .nil)) (FnQ.ofM (row_r st.1 1000 h) st.2) rfl optN (fun hG => ?_)
 refine mz (sr fun _ => ?_)
 refine mv ?_
 refine mv ?_
 first | refine ρw ?_ | refine ρx ?_ | refine ρz (atQ hq) ?_
 refine ρn (fo := 1) U107 sz4 (atQ hq) ?_
 refine ρA U4 (atQ hq) ?_
 refine mv ?_
 refine ρh ?_
 refine ARun.lenSl rfl rfl rfl rfl U24 (Ev.opt rfl (fun h => h)) optS ?_
 refine ρh ?_
 refine ARun.remI rfl rfl rfl rfl (Ev.opt rfl (fun h => h)) (Ev.opt rfl (fun h => h)) (fun _ => (by omega)) optS ?_
 refine ρb ?_
 refine ρ3 ?_
 first | refine ρw ?_ | refine ρx ?_ | refine ρz (atQ hq) ?_
 refine ρn (fo := 1) U107 sz4 (atQ hq) ?_
 refine ARun.storeQ hp hq hG rfl rfl rfl sz4 (ep rfl) (ep rfl) (fun hG => ?_)
 refine ez (sr fun _ => ?_)
 refine ARun.nilOwn (e := 167) (z := 2) (j := 0) hG rfl ⟨.inl rfl, rfl⟩ (fun _ => rfl) rfl rfl rfl optN ?_
 refine ez ?_
 refine AWP.seq (sr fun _ => ?_)
 refine mz ?_
 refine AWP.block ?_
 refine AWP.roundsO (fun kg => n * kg.1 ≤ ((rdRow st.1 1000).2).length) (fun kg => [(1, .int .i64 (n : Int)), (2, .fn (.func F) [] []), (7, .sl (((rdRow st.1 1000).2).map (AV.int .i64))), (8, .own (m + 0) kg.2), (9, .int .i64 ((n * kg.1 : Nat) : Int))]) (fun kg => prG H p q ((rdRow st.1 1000).1, st.2 || !decide (((((rdRow st.1 1000).2).map (AV.int .i64)).length : Int).tmod (n : Int) = 0))) (fun kg => [.row kg.2 167 2 (((List.range kg.1).map fun j => of (cutN ((rdRow st.1 1000).2) n j)).map aRn)]) (fun kg => ((rdRow st.1 1000).2).length + 1 - n * kg.1) 1 ((0, 0) : Nat × Nat) (by simp) (by repeat (first | exact .nil | refine .cons rfl ?_)) rfl rfl (fun _ => rfl) (fun _ => ⟨by simp [AV.cells], fun o ho x hx => by rw [List.mem_singleton.1 ho] at hx; exact rows_noH aRn nh_Rn _ _ _ _ _ x hx⟩) (fun kg hI hG => ?_)
 obtain ⟨k, g⟩ := kg
 dsimp only at hI
 show AWP _ _ _ _ _ [(1, .int .i64 (n : Int)), (2, .fn (.func F) [] []), (7, .sl (((rdRow st.1 1000).2).map (AV.int .i64))), (8, .own (m + 0) g), (9, .int .i64 ((n * k : Nat) : Int))] (prG H p q ((rdRow st.1 1000).1, st.2 || !decide (((((rdRow st.1 1000).2).map (AV.int .i64)).length : Int).tmod (n : Int) = 0))) [.row g 167 2 (((List.range k).map fun j => of (cutN ((rdRow st.1 1000).2) n j)).map aRn)]
 replace hG : GOK _ (prG H p q ((rdRow st.1 1000).1, st.2 || !decide (((((rdRow st.1 1000).2).map (AV.int .i64)).length : Int).tmod (n : Int) = 0))) := hG
 refine AWP.seq (sr fun _ => ?_)
 refine mv ?_
 refine mv ?_
 first | refine ARun.arith rfl rfl rfl rfl (ep rfl) (ep rfl) rfl (fun hg => i64w (by first | omega | (rw [Nat.mul_add, Nat.mul_one]; omega))) optN ?_ | refine ρg ?_
 refine mv ?_
 refine ρq U24 ?_
 refine ρ6 ?_
 refine ez ?_
 refine ρo (fun h0 => ?_) (fun h0 => ?_)
 · replace h0 : n * k + n ≤ ((rdRow st.1 1000).2).length := by rw [List.length_map] at h0; simp only [decide_eq_true_eq] at h0; omega
   refine AWP.skip (thenA_n ?_)
   refine AWP.seq (AWP.block ?_)
   refine AWP.region (fun _ => ?_)
   refine mv ?_
   refine mv ?_
   refine mv ?_
   refine mv ?_
   refine mv ?_
   refine mv ?_
   first | refine ARun.arith rfl rfl rfl rfl (ep rfl) (ep rfl) rfl (fun hg => i64w (by first | omega | (rw [Nat.mul_add, Nat.mul_one]; omega))) optN ?_ | refine ρg ?_
   refine ARun.cutSl (a := (n * k)) (b := (n * k + n)) rfl rfl rfl rfl U24 sz3 (ep rfl) (fun _ => (by simp [AV.cells])) ⟨_, _, (ep rfl), fun hg => (by first | omega | (rw [Nat.mul_add, Nat.mul_one]; omega))⟩ ⟨_, _, (ep rfl), fun hg => (by first | omega | (rw [Nat.mul_add, Nat.mul_one]; omega))⟩ (fun hg => (by rw [List.length_map]; omega)) rfl optN ?_
   refine ARun.call rfl rfl rfl rfl hcf (ep rfl) (.cons (ep rfl) .nil) rfl (fun hg => (by have hc := hof (cutN ((rdRow st.1 1000).2) n k) (cut_len (m := k + 1) (by rw [Nat.mul_add, Nat.mul_one]; exact h0) (Nat.lt_succ_self k)); rw [← cut_map] at hc; exact hc)) optN ?_
   refine ρy U162 sz167 zv167 ?_
   refine ARun.appendL hG rfl rfl rfl rfl U162 ti167 rfl (by decide) (ep rfl) (ep rfl) rfl rfl (by rw [List.length_map, List.length_map, List.length_range]; have := Nat.le_mul_of_pos_left k hn.1; simp [maxLen]; omega) (by rw [List.length_map, List.length_map, List.length_range]; have := Nat.le_mul_of_pos_left k hn.1; simp; omega) (range_snoc (fun j => of (cutN ((rdRow st.1 1000).2) n j)) aRn k) optN rfl ?_
   refine ma ?_
   refine ⟨_, _, rfl, hG, ?_⟩
   refine blockA_n (thenA_n ?_)
   refine AWP.region (fun _ => ?_)
   refine mv ?_
   refine mv ?_
   first | refine ARun.arith rfl rfl rfl rfl (ep rfl) (ep rfl) rfl (fun hg => i64w (by first | omega | (rw [Nat.mul_add, Nat.mul_one]; omega))) optN ?_ | refine ρg ?_
   refine ma ?_
   refine ⟨_, _, rfl, hG, ?_⟩
   refine thenA_n ⟨(k + 1, g + 1), _, ?_, ?_, ?_, rfl, ?_⟩
   · rfl
   · dsimp only; rw [Nat.mul_add, Nat.mul_one]; exact h0
   · repeat (first | exact .nil | refine .cons rfl ?_)
   dsimp only; rw [Nat.mul_add, Nat.mul_one]; omega
 replace h0 : ¬ n * k + n ≤ ((rdRow st.1 1000).2).length := by rw [List.length_map] at h0; simp only [decide_eq_false_iff_not] at h0; omega
 have hkd := div_of hI h0 hn.1
 refine AWP.exit ?_
 refine thenA_x ?_
 refine thenA_x ?_
 refine blockA_h ?_
 refine thenA_n (AWP.seq ?_)
 refine AWP.frzOwn 8 hG rfl rfl (by decide) (by rw [List.length_map, List.length_map, List.length_range]; have := Nat.le_mul_of_pos_left k hn.1; simp [maxLen]; omega) rfl ?_
 refine AWP.region (fun _ => ?_)
 refine mv ?_
 refine mz ?_
 refine AWP.ret ?_
 refine endF.toG (congrArg (prG H p q) (by rw [List.length_map]; rfl)) ?_
 refine ρC ?_ (hn := by rw [prG_len]; exact hN)
 rw [qGroups, groupsL, hkd]
theorem groupsAk_fn (F n : Nat) (of : List Int → Ak) (st : Qs) (h : okQ st) (hn : 0 < n ∧ n ≤ 10) (hcf : ∀ (vs : Array Value) (W : World), (callFunc F vs).run Tryz.prog W = .ok (.enter F vs) W) (hof : ∀ l : List Int, l.length = n → FnP Tryz.prog F [.sl (l.map (AV.int .i64))] (aAk (of l))) : FnQ Tryz.prog 115 (fun p q => [.box q 0, .int .i64 (n : Int), .fn (.func F) [] []]) (st) (.sl ((qGroups n of st).1.map aAk)) ((qGroups n of st).2) := by
 have hrl : ((rdRow st.1 1000).2).length ≤ 1000 := rdRow_len _ _
 refine FnQ.of Tryz.func115 rfl rfl (fun p q => by simp) (fun H p q m hHm hp hq hpq hG => ?_)
 have hN : NoH H.length (.sl ((qGroups n of st).1.map aAk)) := (by simp [AV.cells, aIn, aOut, aAt, aMg, aEv, aRc, aRn, aAk, aKn, aEn, aQu, aIm, aSs, aRep])
 refine sr fun _ => ?_
 refine mz (sr fun _ => ?_)
 refine mv ?_
 first | refine ρw ?_ | refine ρx ?_ | refine ρz (atQ hq) ?_
 refine ρn (fo := 0) U107 sz74 (atQ hq) ?_
 refine ρA U74 (atQ hq) ?_
 refine ARun.callQ hp hq hpq hG rfl rfl rfl rfl cf36 (ep rfl) (.cons (ep rfl) (.cons (ep rfl) .nil)) (FnQ.ofM (row_r st.1 1000 h) st.2) rfl optN (fun hG => ?_)
 refine mz (sr fun _ => ?_)
 refine mv ?_
 refine mv ?_
 first | refine ρw ?_ | refine ρx ?_ | refine ρz (atQ hq) ?_
 refine ρn (fo := 1) U107 sz4 (atQ hq) ?_
 refine ρA U4 (atQ hq) ?_
 refine mv ?_
 refine ρh ?_
 refine ARun.lenSl rfl rfl rfl rfl U24 (Ev.opt rfl (fun h => h)) optS ?_
 refine ρh ?_
 refine ARun.remI rfl rfl rfl rfl (Ev.opt rfl (fun h => h)) (Ev.opt rfl (fun h => h)) (fun _ => (by omega)) optS ?_
 refine ρb ?_
 refine ρ3 ?_
 first | refine ρw ?_ | refine ρx ?_ | refine ρz (atQ hq) ?_
 refine ρn (fo := 1) U107 sz4 (atQ hq) ?_
 refine ARun.storeQ hp hq hG rfl rfl rfl sz4 (ep rfl) (ep rfl) (fun hG => ?_)
 refine ez (sr fun _ => ?_)
 refine ARun.nilOwn (e := 181) (z := 6) (j := 0) hG rfl ⟨.inl rfl, rfl⟩ (fun _ => rfl) rfl rfl rfl optN ?_
 refine ez ?_
 refine AWP.seq (sr fun _ => ?_)
 refine mz ?_
 refine AWP.block ?_
 refine AWP.roundsO (fun kg => n * kg.1 ≤ ((rdRow st.1 1000).2).length) (fun kg => [(1, .int .i64 (n : Int)), (2, .fn (.func F) [] []), (7, .sl (((rdRow st.1 1000).2).map (AV.int .i64))), (8, .own (m + 0) kg.2), (9, .int .i64 ((n * kg.1 : Nat) : Int))]) (fun kg => prG H p q ((rdRow st.1 1000).1, st.2 || !decide (((((rdRow st.1 1000).2).map (AV.int .i64)).length : Int).tmod (n : Int) = 0))) (fun kg => [.row kg.2 181 6 (((List.range kg.1).map fun j => of (cutN ((rdRow st.1 1000).2) n j)).map aAk)]) (fun kg => ((rdRow st.1 1000).2).length + 1 - n * kg.1) 1 ((0, 0) : Nat × Nat) (by simp) (by repeat (first | exact .nil | refine .cons rfl ?_)) rfl rfl (fun _ => rfl) (fun _ => ⟨by simp [AV.cells], fun o ho x hx => by rw [List.mem_singleton.1 ho] at hx; exact rows_noH aAk nh_Ak _ _ _ _ _ x hx⟩) (fun kg hI hG => ?_)
 obtain ⟨k, g⟩ := kg
 dsimp only at hI
 show AWP _ _ _ _ _ [(1, .int .i64 (n : Int)), (2, .fn (.func F) [] []), (7, .sl (((rdRow st.1 1000).2).map (AV.int .i64))), (8, .own (m + 0) g), (9, .int .i64 ((n * k : Nat) : Int))] (prG H p q ((rdRow st.1 1000).1, st.2 || !decide (((((rdRow st.1 1000).2).map (AV.int .i64)).length : Int).tmod (n : Int) = 0))) [.row g 181 6 (((List.range k).map fun j => of (cutN ((rdRow st.1 1000).2) n j)).map aAk)]
 replace hG : GOK _ (prG H p q ((rdRow st.1 1000).1, st.2 || !decide (((((rdRow st.1 1000).2).map (AV.int .i64)).length : Int).tmod (n : Int) = 0))) := hG
 refine AWP.seq (sr fun _ => ?_)
 refine mv ?_
 refine mv ?_
 first | refine ARun.arith rfl rfl rfl rfl (ep rfl) (ep rfl) rfl (fun hg => i64w (by first | omega | (rw [Nat.mul_add, Nat.mul_one]; omega))) optN ?_ | refine ρg ?_
 refine mv ?_
 refine ρq U24 ?_
 refine ρ6 ?_
 refine ez ?_
 refine ρo (fun h0 => ?_) (fun h0 => ?_)
 · replace h0 : n * k + n ≤ ((rdRow st.1 1000).2).length := by rw [List.length_map] at h0; simp only [decide_eq_true_eq] at h0; omega
   refine AWP.skip (thenA_n ?_)
   refine AWP.seq (AWP.block ?_)
   refine AWP.region (fun _ => ?_)
   refine mv ?_
   refine mv ?_
   refine mv ?_
   refine mv ?_
   refine mv ?_
   refine mv ?_
   first | refine ARun.arith rfl rfl rfl rfl (ep rfl) (ep rfl) rfl (fun hg => i64w (by first | omega | (rw [Nat.mul_add, Nat.mul_one]; omega))) optN ?_ | refine ρg ?_
   refine ARun.cutSl (a := (n * k)) (b := (n * k + n)) rfl rfl rfl rfl U24 sz3 (ep rfl) (fun _ => (by simp [AV.cells])) ⟨_, _, (ep rfl), fun hg => (by first | omega | (rw [Nat.mul_add, Nat.mul_one]; omega))⟩ ⟨_, _, (ep rfl), fun hg => (by first | omega | (rw [Nat.mul_add, Nat.mul_one]; omega))⟩ (fun hg => (by rw [List.length_map]; omega)) rfl optN ?_
   refine ARun.call rfl rfl rfl rfl hcf (ep rfl) (.cons (ep rfl) .nil) rfl (fun hg => (by have hc := hof (cutN ((rdRow st.1 1000).2) n k) (cut_len (m := k + 1) (by rw [Nat.mul_add, Nat.mul_one]; exact h0) (Nat.lt_succ_self k)); rw [← cut_map] at hc; exact hc)) optN ?_
   refine ρy U176 sz181 zv181 ?_
   refine ARun.appendL hG rfl rfl rfl rfl U176 ti181 rfl (by decide) (ep rfl) (ep rfl) rfl rfl (by rw [List.length_map, List.length_map, List.length_range]; have := Nat.le_mul_of_pos_left k hn.1; simp [maxLen]; omega) (by rw [List.length_map, List.length_map, List.length_range]; have := Nat.le_mul_of_pos_left k hn.1; simp; omega) (range_snoc (fun j => of (cutN ((rdRow st.1 1000).2) n j)) aAk k) optN rfl ?_
   refine ma ?_
   refine ⟨_, _, rfl, hG, ?_⟩
   refine blockA_n (thenA_n ?_)
   refine AWP.region (fun _ => ?_)
   refine mv ?_
   refine mv ?_
   first | refine ARun.arith rfl rfl rfl rfl (ep rfl) (ep rfl) rfl (fun hg => i64w (by first | omega | (rw [Nat.mul_add, Nat.mul_one]; omega))) optN ?_ | refine ρg ?_
   refine ma ?_
   refine ⟨_, _, rfl, hG, ?_⟩
   refine thenA_n ⟨(k + 1, g + 1), _, ?_, ?_, ?_, rfl, ?_⟩
   · rfl
   · dsimp only; rw [Nat.mul_add, Nat.mul_one]; exact h0
   · repeat (first | exact .nil | refine .cons rfl ?_)
   dsimp only; rw [Nat.mul_add, Nat.mul_one]; omega
 replace h0 : ¬ n * k + n ≤ ((rdRow st.1 1000).2).length := by rw [List.length_map] at h0; simp only [decide_eq_false_iff_not] at h0; omega
 have hkd := div_of hI h0 hn.1
 refine AWP.exit ?_
 refine thenA_x ?_
 refine thenA_x ?_
 refine blockA_h ?_
 refine thenA_n (AWP.seq ?_)
 refine AWP.frzOwn 8 hG rfl rfl (by decide) (by rw [List.length_map, List.length_map, List.length_range]; have := Nat.le_mul_of_pos_left k hn.1; simp [maxLen]; omega) rfl ?_
 refine AWP.region (fun _ => ?_)
 refine mv ?_
 refine mz ?_
 refine AWP.ret ?_
 refine endF.toG (congrArg (prG H p q) (by rw [List.length_map]; rfl)) ?_
 refine ρC ?_ (hn := by rw [prG_len]; exact hN)
 rw [qGroups, groupsL, hkd]
end Go.Proofs.YtnlpojjfkgnhhaaGreatDoor
namespace Go.Proofs.YtnlpojjfkgnhhaaGreatDoor
open Go.RowKit
theorem cf74 : ∀ (vs : Array Value) (W : World), (callFunc 74 vs).run Tryz.prog W = .ok (.enter 74 vs) W := fun _ _ => by rfl
theorem cf76 : ∀ (vs : Array Value) (W : World), (callFunc 76 vs).run Tryz.prog W = .ok (.enter 76 vs) W := fun _ _ => by rfl
theorem cf77 : ∀ (vs : Array Value) (W : World), (callFunc 77 vs).run Tryz.prog W = .ok (.enter 77 vs) W := fun _ _ => by rfl
theorem cf80 : ∀ (vs : Array Value) (W : World), (callFunc 80 vs).run Tryz.prog W = .ok (.enter 80 vs) W := fun _ _ => by rfl
theorem cf81 : ∀ (vs : Array Value) (W : World), (callFunc 81 vs).run Tryz.prog W = .ok (.enter 81 vs) W := fun _ _ => by rfl
theorem cf116 : ∀ (vs : Array Value) (W : World), (callFunc 116 vs).run Tryz.prog W = .ok (.enter 116 vs) W := fun _ _ => by rfl
theorem so164 : StOk Tryz.prog 164 (.agg #[.int .i64 0, .slice none 0 0, .slice none 0 0]) [(0, 1), (1, 1), (2, 1)] := ⟨_, U164, zv164, by kernel_rfl, by kernel_rfl⟩
theorem so167 : StOk Tryz.prog 167 (.agg #[.int .i64 0, .int .i64 0]) [(0, 1), (1, 1)] := ⟨_, U167, zv167, by kernel_rfl, by kernel_rfl⟩
theorem so181 : StOk Tryz.prog 181 (.agg #[.int .i64 0, .int .i64 0, .int .i64 0, .int .i64 0, .int .i64 0, .int .i64 0]) [(0, 1), (1, 1), (2, 1), (3, 1), (4, 1), (5, 1)] := ⟨_, U181, zv181, by kernel_rfl, by kernel_rfl⟩
theorem so186 : StOk Tryz.prog 186 (.agg #[.int .i64 0, .int .i64 0, .int .i64 0, .int .i64 0]) [(0, 1), (1, 1), (2, 1), (3, 1)] := ⟨_, U186, zv186, by kernel_rfl, by kernel_rfl⟩
end Go.Proofs.YtnlpojjfkgnhhaaGreatDoor
namespace Go.Proofs.YtnlpojjfkgnhhaaGreatDoor
open Go.RowKit
theorem ti126 : Ti Tryz.prog 126 (.nilFunc) 1 8 := by unfold Ti; kernel_rfl
theorem sz126 : Sz Tryz.prog 126 1 := ti126.sz
theorem zv126 : Zv Tryz.prog 126 (.nilFunc) := ti126.zv
theorem cf75 : ∀ (vs : Array Value) (W : World), (callFunc 75 vs).run Tryz.prog W = .ok (.enter 75 vs) W := fun _ _ => by rfl
theorem cf78 : ∀ (vs : Array Value) (W : World), (callFunc 78 vs).run Tryz.prog W = .ok (.enter 78 vs) W := fun _ _ => by rfl
theorem cf79 : ∀ (vs : Array Value) (W : World), (callFunc 79 vs).run Tryz.prog W = .ok (.enter 79 vs) W := fun _ _ => by rfl
theorem cf82 : ∀ (vs : Array Value) (W : World), (callFunc 82 vs).run Tryz.prog W = .ok (.enter 82 vs) W := fun _ _ => by rfl
theorem cf83 : ∀ (vs : Array Value) (W : World), (callFunc 83 vs).run Tryz.prog W = .ok (.enter 83 vs) W := fun _ _ => by rfl
theorem cf84 : ∀ (vs : Array Value) (W : World), (callFunc 84 vs).run Tryz.prog W = .ok (.enter 84 vs) W := fun _ _ => by rfl
theorem cf85 : ∀ (vs : Array Value) (W : World), (callFunc 85 vs).run Tryz.prog W = .ok (.enter 85 vs) W := fun _ _ => by rfl
theorem cf86 : ∀ (vs : Array Value) (W : World), (callFunc 86 vs).run Tryz.prog W = .ok (.enter 86 vs) W := fun _ _ => by rfl
theorem cf113 : ∀ (vs : Array Value) (W : World), (callFunc 113 vs).run Tryz.prog W = .ok (.enter 113 vs) W := fun _ _ => by rfl
theorem cf114 : ∀ (vs : Array Value) (W : World), (callFunc 114 vs).run Tryz.prog W = .ok (.enter 114 vs) W := fun _ _ => by rfl
theorem cf115 : ∀ (vs : Array Value) (W : World), (callFunc 115 vs).run Tryz.prog W = .ok (.enter 115 vs) W := fun _ _ => by rfl
theorem cf117 : ∀ (vs : Array Value) (W : World), (callFunc 117 vs).run Tryz.prog W = .ok (.enter 117 vs) W := fun _ _ => by rfl
theorem cf118 : ∀ (vs : Array Value) (W : World), (callFunc 118 vs).run Tryz.prog W = .ok (.enter 118 vs) W := fun _ _ => by rfl
theorem cf119 : ∀ (vs : Array Value) (W : World), (callFunc 119 vs).run Tryz.prog W = .ok (.enter 119 vs) W := fun _ _ => by rfl
theorem cf120 : ∀ (vs : Array Value) (W : World), (callFunc 120 vs).run Tryz.prog W = .ok (.enter 120 vs) W := fun _ _ => by rfl
theorem so64 : StOk Tryz.prog 64 (.agg #[.int .i64 0, .int .i64 0, .int .i64 0, .int .i64 0, .int .i64 0, .int .i64 0, .int .i64 0, .slice none 0 0, .slice none 0 0, .slice none 0 0, .slice none 0 0, .slice none 0 0, .slice none 0 0, .int .i64 0, .int .i64 0, .int .i64 0, .slice none 0 0, .slice none 0 0]) [(0, 1), (1, 1), (2, 1), (3, 1), (4, 1), (5, 1), (6, 1), (7, 1), (8, 1), (9, 1), (10, 1), (11, 1), (12, 1), (13, 2), (15, 1), (16, 2)] := ⟨_, U64, zv64, by kernel_rfl, by kernel_rfl⟩
theorem so178 : StOk Tryz.prog 178 (.agg #[.int .i64 0, .int .i64 0, .int .i64 0, .int .i64 0, .int .i64 0, .int .i64 0, .int .i64 0, .int .i64 0, .string ⟨#[]⟩, .slice none 0 0]) [(0, 1), (1, 1), (2, 1), (3, 1), (4, 1), (5, 1), (6, 1), (7, 1), (8, 1), (9, 1)] := ⟨_, U178, zv178, by kernel_rfl, by kernel_rfl⟩
theorem so188 : StOk Tryz.prog 188 (.agg #[.int .i64 0, .int .i64 0, .string ⟨#[]⟩]) [(0, 1), (1, 1), (2, 1)] := ⟨_, U188, zv188, by kernel_rfl, by kernel_rfl⟩
end Go.Proofs.YtnlpojjfkgnhhaaGreatDoor
namespace Go.Proofs.YtnlpojjfkgnhhaaGreatDoor
open Go.RowKit
open NumP
theorem nh_int (x : Int) (m : Nat) : ∀ y, y ∈ (AV.int .i64 x).cells → NoH m y := by simp [AV.cells]
theorem all_ints (l : List Int) : ((l.map (AV.int .i64)).all fun y => Nat.beq y.cells.length 1 && y.cells.all AV.one) = true := by rw [List.all_map]; exact List.all_eq_true.2 fun _ _ => rfl
theorem flat_lenc {α : Type} {un : α → List Int} {c : Nat} (h : ∀ x, (un x).length = c) (l : List α) : (l.flatMap un).length = c * l.length := by
 induction l with
 | nil => rfl
 | cons x l ih => rw [List.flatMap_cons, List.length_append, h, ih, List.length_cons, Nat.mul_add, Nat.mul_one, Nat.add_comm]
theorem flat_snocW {α : Type} [Inhabited α] (un : α → List Int) (l : List α) (k : Nat) (h : k < l.length) : ((l.take k).flatMap un).map (AV.int .i64) ++ (un (l.getD k default)).map (AV.int .i64) = ((l.take (k + 1)).flatMap un).map (AV.int .i64) := by
 rw [List.take_succ_eq_append_getElem h, List.flatMap_append, List.map_append, List.getD, List.getElem?_eq_getElem h]; simp
theorem fold_succ {α : Type} [Inhabited α] (wf : WrS → α → WrS) (w : WrS) (l : List α) (k : Nat) (h : k < l.length) : (l.take (k + 1)).foldl wf w = wf ((l.take k).foldl wf w) (l.getD k default) := by
 rw [List.take_succ_eq_append_getElem h, List.foldl_append, List.getD, List.getElem?_eq_getElem h]; rfl
theorem fold_len {α : Type} {wf : WrS → α → WrS} {c : Nat} (w : WrS) : ∀ (l : List α), (∀ x, x ∈ l → ∀ w, (wf w x).s.length ≤ w.s.length + c) → (l.foldl wf w).s.length ≤ w.s.length + c * l.length := by
 intro l
 induction l generalizing w with
 | nil => intro _; simp
 | cons x l ih =>
   intro h
   have h1 := h x List.mem_cons_self w
   have h2 := ih (wf w x) (fun y hy => h y (List.mem_cons_of_mem _ hy))
   rw [List.foldl_cons, List.length_cons, Nat.mul_add, Nat.mul_one]; omega
theorem rowAt_w (F c : Nat) (un : At → List Int) (w : WrS) (l : List At) (hl : l.length ≤ 1000) (hc : c ≤ 6) (hun : ∀ x, (un x).length = c) (hw : w.s.length ≤ 1000000) (hf : ∀ x, x ∈ l.flatMap un → -9223372036854775808 ≤ x ∧ x ≤ 9223372036854775807) (hcf : ∀ (vs : Array Value) (W : World), (callFunc F vs).run Tryz.prog W = .ok (.enter F vs) W) (hof : ∀ x, FnP Tryz.prog F [aAt x] (.sl ((un x).map (AV.int .i64)))) : FnM Tryz.prog 44 (fun i => [.box i 0, .sl (l.map aAt), .fn (.func F) [] []]) (aW w) (.tup []) (aW (wGroups un w l)) := by
 have hfl := flat_lenc hun l
 have hfl2 := Nat.mul_le_mul hc hl
 refine FnM.of Tryz.func44 rfl rfl (fun i => by simp) (fun H i m hHm hi hG => ?_)
 have hN : NoH H.length (.tup []) := (by simp)
 refine sr fun _ => ?_
 refine ARun.nilOwn (e := 3) (z := 1) (j := 0) hG rfl ⟨.inl rfl, rfl⟩ (fun _ => rfl) rfl rfl rfl optN ?_
 refine ez ?_
 refine AWP.seq (sr fun _ => ?_)
 refine mv ?_
 refine ρq U23 ?_
 refine mv ?_
 refine ez ?_
 refine AWP.block ?_
 refine AWP.roundsO (fun kg => kg.1 ≤ l.length) (fun kg => [(0, .box i 0), (2, .fn (.func F) [] []), (6, .own (m + 0) kg.2), (9, .sl (l.map aAt)), (10, .int .i64 ((l.map aAt).length : Int)), (11, .int .i64 (kg.1 : Int))]) (fun kg => H.set i (.box (aW w))) (fun kg => [.row kg.2 3 1 (((l.take kg.1).flatMap un).map (AV.int .i64))]) (fun kg => l.length - kg.1) 1 ((0, 0) : Nat × Nat) (Nat.zero_le _) (by repeat (first | exact .nil | refine .cons rfl ?_)) rfl rfl (fun _ => rfl) (fun _ => ⟨by simp [AV.cells, aIn, aOut, aAt, aMg, aEv, aRc, aRn, aAk, aKn, aEn, aQu, aIm, aSs, aRep]; omega, fun o ho x hx => by rw [List.mem_singleton.1 ho] at hx; exact rows_noH (AV.int .i64) nh_int _ _ _ _ _ x hx⟩) (fun kg hI hG => ?_)
 obtain ⟨k, g⟩ := kg
 dsimp only at hI
 show AWP _ _ _ _ _ [(0, .box i 0), (2, .fn (.func F) [] []), (6, .own (m + 0) g), (9, .sl (l.map aAt)), (10, .int .i64 ((l.map aAt).length : Int)), (11, .int .i64 (k : Int))] (H.set i (.box (aW w))) [.row g 3 1 (((l.take k).flatMap un).map (AV.int .i64))]
 replace hG : GOK _ (H.set i (.box (aW w))) := hG
 have hk := hI
 refine sr fun _ => ?_
 refine ρ6 ?_
 refine ez ?_
 refine AWP.seq ?_
 refine ρo (fun h0 => ?_) (fun h0 => ?_)
 · try simp [-List.getD_eq_getElem?_getD] at h0
   refine AWP.skip (thenA_n ?_)
   refine AWP.seq (AWP.block (sr fun _ => ?_))
   first | refine ρa U23 sz58 ?_ | refine ρ7 U23 sz58 ?_
   refine ρl U58 sz58 ?_
   refine ρp (j := 1) zv58 ?_
   refine ρ8 sz58 ?_
   refine ez ?_
   refine AWP.frzBox 8 hG rfl rfl rfl ?_
   refine AWP.region (fun _ => ?_)
   refine mv ?_
   refine mv ?_
   refine ρl U58 sz58 ?_
   refine ρf hcf (fun hg => hof (l.getD k default)) ?_
   refine ARun.appendL hG rfl rfl rfl rfl U24 ti3 rfl (by decide) (ep rfl) (ep rfl) rfl (all_ints _) (by rw [List.length_map, flat_lenc hun, List.length_take, List.length_map, hun]; have := Nat.mul_le_mul hc (show min k l.length ≤ 1000 by omega); unfold maxLen; omega) (by rw [List.length_map, flat_lenc hun, List.length_take, List.length_map, hun]; have := Nat.mul_le_mul hc (show min k l.length ≤ 1000 by omega); omega) (flat_snocW un l k h0) optN rfl ?_
   refine ma ?_
   refine ⟨_, _, rfl, hG, ?_⟩
   refine blockA_n (thenA_n ?_)
   refine AWP.region (fun _ => ?_)
   first | refine ρd ?_ | refine ρg ?_
   refine mv ?_
   refine ⟨_, _, rfl, hG, ?_⟩
   refine thenA_n ⟨(k + 1, g + 1), _, ?_, ?_, ?_, rfl, ?_⟩
   · rfl
   · dsimp only; omega
   · repeat (first | exact .nil | refine .cons rfl ?_)
   dsimp only; omega
 simp at h0
 obtain rfl : k = l.length := by omega
 rw [List.take_length]
 refine AWP.exit ?_
 refine thenA_x ?_
 refine thenA_x ?_
 refine blockA_h ?_
 refine thenA_n ?_
 refine AWP.frzOwn 6 hG rfl rfl (by decide) (by rw [List.length_map, hfl]; unfold maxLen; omega) rfl ?_
 refine AWP.region (fun _ => ?_)
 refine mv ?_
 refine mv ?_
 refine ARun.callO hi hG rfl rfl rfl rfl cf28 (ep rfl) (.cons (ep rfl) (.cons (ep rfl) .nil)) rfl (row_w w (l.flatMap un) (by omega) hw hf _ _ (atO hi)) (by first | exact noH_aW _ _ | (simp; done) | (simp [cAV]; done)) optN (fun hG => ?_)
 refine ⟨_, _, rfl, hG, ?_⟩
 refine endF.toG (congrArg (fun c => H.set i (AO.box c)) rfl) ?_
 refine endF.many (.inl rfl) (rs := []) rfl .nil (by simp) ?_ (by rw [List.length_set]; exact hN)
 rfl
theorem rowRn_w (F c : Nat) (un : Rn → List Int) (w : WrS) (l : List Rn) (hl : l.length ≤ 1000) (hc : c ≤ 6) (hun : ∀ x, (un x).length = c) (hw : w.s.length ≤ 1000000) (hf : ∀ x, x ∈ l.flatMap un → -9223372036854775808 ≤ x ∧ x ≤ 9223372036854775807) (hcf : ∀ (vs : Array Value) (W : World), (callFunc F vs).run Tryz.prog W = .ok (.enter F vs) W) (hof : ∀ x, FnP Tryz.prog F [aRn x] (.sl ((un x).map (AV.int .i64)))) : FnM Tryz.prog 91 (fun i => [.box i 0, .sl (l.map aRn), .fn (.func F) [] []]) (aW w) (.tup []) (aW (wGroups un w l)) := by
 have hfl := flat_lenc hun l
 have hfl2 := Nat.mul_le_mul hc hl
 refine FnM.of Tryz.func91 rfl rfl (fun i => by simp) (fun H i m hHm hi hG => ?_)
 have hN : NoH H.length (.tup []) := (by simp)
 refine sr fun _ => ?_
 refine ARun.nilOwn (e := 3) (z := 1) (j := 0) hG rfl ⟨.inl rfl, rfl⟩ (fun _ => rfl) rfl rfl rfl optN ?_
 refine ez ?_
 refine AWP.seq (sr fun _ => ?_)
 refine mv ?_
 refine ρq U162 ?_
 refine mv ?_
 refine ez ?_
 refine AWP.block ?_
 refine AWP.roundsO (fun kg => kg.1 ≤ l.length) (fun kg => [(0, .box i 0), (2, .fn (.func F) [] []), (6, .own (m + 0) kg.2), (9, .sl (l.map aRn)), (10, .int .i64 ((l.map aRn).length : Int)), (11, .int .i64 (kg.1 : Int))]) (fun kg => H.set i (.box (aW w))) (fun kg => [.row kg.2 3 1 (((l.take kg.1).flatMap un).map (AV.int .i64))]) (fun kg => l.length - kg.1) 1 ((0, 0) : Nat × Nat) (Nat.zero_le _) (by repeat (first | exact .nil | refine .cons rfl ?_)) rfl rfl (fun _ => rfl) (fun _ => ⟨by simp [AV.cells, aIn, aOut, aAt, aMg, aEv, aRc, aRn, aAk, aKn, aEn, aQu, aIm, aSs, aRep]; omega, fun o ho x hx => by rw [List.mem_singleton.1 ho] at hx; exact rows_noH (AV.int .i64) nh_int _ _ _ _ _ x hx⟩) (fun kg hI hG => ?_)
 obtain ⟨k, g⟩ := kg
 dsimp only at hI
 show AWP _ _ _ _ _ [(0, .box i 0), (2, .fn (.func F) [] []), (6, .own (m + 0) g), (9, .sl (l.map aRn)), (10, .int .i64 ((l.map aRn).length : Int)), (11, .int .i64 (k : Int))] (H.set i (.box (aW w))) [.row g 3 1 (((l.take k).flatMap un).map (AV.int .i64))]
 replace hG : GOK _ (H.set i (.box (aW w))) := hG
 have hk := hI
 refine sr fun _ => ?_
 refine ρ6 ?_
 refine ez ?_
 refine AWP.seq ?_
 refine ρo (fun h0 => ?_) (fun h0 => ?_)
 · try simp [-List.getD_eq_getElem?_getD] at h0
   refine AWP.skip (thenA_n ?_)
   refine AWP.seq (AWP.block (sr fun _ => ?_))
   first | refine ρa U162 sz167 ?_ | refine ρ7 U162 sz167 ?_
   refine ρl U167 sz167 ?_
   refine ρp (j := 1) zv167 ?_
   refine ρ8 sz167 ?_
   refine ez ?_
   refine AWP.frzBox 8 hG rfl rfl rfl ?_
   refine AWP.region (fun _ => ?_)
   refine mv ?_
   refine mv ?_
   refine ρl U167 sz167 ?_
   refine ρf hcf (fun hg => hof (l.getD k default)) ?_
   refine ARun.appendL hG rfl rfl rfl rfl U24 ti3 rfl (by decide) (ep rfl) (ep rfl) rfl (all_ints _) (by rw [List.length_map, flat_lenc hun, List.length_take, List.length_map, hun]; have := Nat.mul_le_mul hc (show min k l.length ≤ 1000 by omega); unfold maxLen; omega) (by rw [List.length_map, flat_lenc hun, List.length_take, List.length_map, hun]; have := Nat.mul_le_mul hc (show min k l.length ≤ 1000 by omega); omega) (flat_snocW un l k h0) optN rfl ?_
   refine ma ?_
   refine ⟨_, _, rfl, hG, ?_⟩
   refine blockA_n (thenA_n ?_)
   refine AWP.region (fun _ => ?_)
   first | refine ρd ?_ | refine ρg ?_
   refine mv ?_
   refine ⟨_, _, rfl, hG, ?_⟩
   refine thenA_n ⟨(k + 1, g + 1), _, ?_, ?_, ?_, rfl, ?_⟩
   · rfl
   · dsimp only; omega
   · repeat (first | exact .nil | refine .cons rfl ?_)
   dsimp only; omega
 simp at h0
 obtain rfl : k = l.length := by omega
 rw [List.take_length]
 refine AWP.exit ?_
 refine thenA_x ?_
 refine thenA_x ?_
 refine blockA_h ?_
 refine thenA_n ?_
 refine AWP.frzOwn 6 hG rfl rfl (by decide) (by rw [List.length_map, hfl]; unfold maxLen; omega) rfl ?_
 refine AWP.region (fun _ => ?_)
 refine mv ?_
 refine mv ?_
 refine ARun.callO hi hG rfl rfl rfl rfl cf28 (ep rfl) (.cons (ep rfl) (.cons (ep rfl) .nil)) rfl (row_w w (l.flatMap un) (by omega) hw hf _ _ (atO hi)) (by first | exact noH_aW _ _ | (simp; done) | (simp [cAV]; done)) optN (fun hG => ?_)
 refine ⟨_, _, rfl, hG, ?_⟩
 refine endF.toG (congrArg (fun c => H.set i (AO.box c)) rfl) ?_
 refine endF.many (.inl rfl) (rs := []) rfl .nil (by simp) ?_ (by rw [List.length_set]; exact hN)
 rfl
theorem rowAk_w (F c : Nat) (un : Ak → List Int) (w : WrS) (l : List Ak) (hl : l.length ≤ 1000) (hc : c ≤ 6) (hun : ∀ x, (un x).length = c) (hw : w.s.length ≤ 1000000) (hf : ∀ x, x ∈ l.flatMap un → -9223372036854775808 ≤ x ∧ x ≤ 9223372036854775807) (hcf : ∀ (vs : Array Value) (W : World), (callFunc F vs).run Tryz.prog W = .ok (.enter F vs) W) (hof : ∀ x, FnP Tryz.prog F [aAk x] (.sl ((un x).map (AV.int .i64)))) : FnM Tryz.prog 89 (fun i => [.box i 0, .sl (l.map aAk), .fn (.func F) [] []]) (aW w) (.tup []) (aW (wGroups un w l)) := by
 have hfl := flat_lenc hun l
 have hfl2 := Nat.mul_le_mul hc hl
 refine FnM.of Tryz.func89 rfl rfl (fun i => by simp) (fun H i m hHm hi hG => ?_)
 have hN : NoH H.length (.tup []) := (by simp)
 refine sr fun _ => ?_
 refine ARun.nilOwn (e := 3) (z := 1) (j := 0) hG rfl ⟨.inl rfl, rfl⟩ (fun _ => rfl) rfl rfl rfl optN ?_
 refine ez ?_
 refine AWP.seq (sr fun _ => ?_)
 refine mv ?_
 refine ρq U176 ?_
 refine mv ?_
 refine ez ?_
 refine AWP.block ?_
 refine AWP.roundsO (fun kg => kg.1 ≤ l.length) (fun kg => [(0, .box i 0), (2, .fn (.func F) [] []), (6, .own (m + 0) kg.2), (9, .sl (l.map aAk)), (10, .int .i64 ((l.map aAk).length : Int)), (11, .int .i64 (kg.1 : Int))]) (fun kg => H.set i (.box (aW w))) (fun kg => [.row kg.2 3 1 (((l.take kg.1).flatMap un).map (AV.int .i64))]) (fun kg => l.length - kg.1) 1 ((0, 0) : Nat × Nat) (Nat.zero_le _) (by repeat (first | exact .nil | refine .cons rfl ?_)) rfl rfl (fun _ => rfl) (fun _ => ⟨by simp [AV.cells, aIn, aOut, aAt, aMg, aEv, aRc, aRn, aAk, aKn, aEn, aQu, aIm, aSs, aRep]; omega, fun o ho x hx => by rw [List.mem_singleton.1 ho] at hx; exact rows_noH (AV.int .i64) nh_int _ _ _ _ _ x hx⟩) (fun kg hI hG => ?_)
 obtain ⟨k, g⟩ := kg
 dsimp only at hI
 show AWP _ _ _ _ _ [(0, .box i 0), (2, .fn (.func F) [] []), (6, .own (m + 0) g), (9, .sl (l.map aAk)), (10, .int .i64 ((l.map aAk).length : Int)), (11, .int .i64 (k : Int))] (H.set i (.box (aW w))) [.row g 3 1 (((l.take k).flatMap un).map (AV.int .i64))]
 replace hG : GOK _ (H.set i (.box (aW w))) := hG
 have hk := hI
 refine sr fun _ => ?_
 refine ρ6 ?_
 refine ez ?_
 refine AWP.seq ?_
 refine ρo (fun h0 => ?_) (fun h0 => ?_)
 · try simp [-List.getD_eq_getElem?_getD] at h0
   refine AWP.skip (thenA_n ?_)
   refine AWP.seq (AWP.block (sr fun _ => ?_))
   first | refine ρa U176 sz181 ?_ | refine ρ7 U176 sz181 ?_
   refine ρl U181 sz181 ?_
   refine ρp (j := 1) zv181 ?_
   refine ρ8 sz181 ?_
   refine ez ?_
   refine AWP.frzBox 8 hG rfl rfl rfl ?_
   refine AWP.region (fun _ => ?_)
   refine mv ?_
   refine mv ?_
   refine ρl U181 sz181 ?_
   refine ρf hcf (fun hg => hof (l.getD k default)) ?_
   refine ARun.appendL hG rfl rfl rfl rfl U24 ti3 rfl (by decide) (ep rfl) (ep rfl) rfl (all_ints _) (by rw [List.length_map, flat_lenc hun, List.length_take, List.length_map, hun]; have := Nat.mul_le_mul hc (show min k l.length ≤ 1000 by omega); unfold maxLen; omega) (by rw [List.length_map, flat_lenc hun, List.length_take, List.length_map, hun]; have := Nat.mul_le_mul hc (show min k l.length ≤ 1000 by omega); omega) (flat_snocW un l k h0) optN rfl ?_
   refine ma ?_
   refine ⟨_, _, rfl, hG, ?_⟩
   refine blockA_n (thenA_n ?_)
   refine AWP.region (fun _ => ?_)
   first | refine ρd ?_ | refine ρg ?_
   refine mv ?_
   refine ⟨_, _, rfl, hG, ?_⟩
   refine thenA_n ⟨(k + 1, g + 1), _, ?_, ?_, ?_, rfl, ?_⟩
   · rfl
   · dsimp only; omega
   · repeat (first | exact .nil | refine .cons rfl ?_)
   dsimp only; omega
 simp at h0
 obtain rfl : k = l.length := by omega
 rw [List.take_length]
 refine AWP.exit ?_
 refine thenA_x ?_
 refine thenA_x ?_
 refine blockA_h ?_
 refine thenA_n ?_
 refine AWP.frzOwn 6 hG rfl rfl (by decide) (by rw [List.length_map, hfl]; unfold maxLen; omega) rfl ?_
 refine AWP.region (fun _ => ?_)
 refine mv ?_
 refine mv ?_
 refine ARun.callO hi hG rfl rfl rfl rfl cf28 (ep rfl) (.cons (ep rfl) (.cons (ep rfl) .nil)) rfl (row_w w (l.flatMap un) (by omega) hw hf _ _ (atO hi)) (by first | exact noH_aW _ _ | (simp; done) | (simp [cAV]; done)) optN (fun hG => ?_)
 refine ⟨_, _, rfl, hG, ?_⟩
 refine endF.toG (congrArg (fun c => H.set i (AO.box c)) rfl) ?_
 refine endF.many (.inl rfl) (rs := []) rfl .nil (by simp) ?_ (by rw [List.length_set]; exact hN)
 rfl
theorem attI_fn (a : At) : FnP Tryz.prog 45 [aAt a] (.sl ((unAt a).map (AV.int .i64))) := by
 refine FnP.of Tryz.func45 rfl rfl (by simp) (by simp [AV.cells]) (fun G hG => ?_)
 have hN : NoH G.length (.sl ((unAt a).map (AV.int .i64))) := (by simp [AV.cells])
 refine sr fun _ => ?_
 refine ρt ?_
 refine mz (sr fun _ => ?_)
 refine ρ0 U58 sz3 ?_
 refine ρ2 U3 ?_
 refine ρ0 U58 sz3 ?_
 refine ρ2 U3 ?_
 refine ARun.buildSl rfl rfl rfl rfl U24 sz3 zv3 rfl (by decide) (.cons (ep rfl) (.cons (ep rfl) .nil)) rfl rfl rfl rfl (by decide) rfl rfl optN ?_
 refine mz ?_
 refine AWP.ret ?_
 refine ρ9 ?_
 rfl
theorem spanI_fn (a : Rn) : FnP Tryz.prog 92 [aRn a] (.sl ((unRn a).map (AV.int .i64))) := by
 refine FnP.of Tryz.func92 rfl rfl (by simp) (by simp [AV.cells]) (fun G hG => ?_)
 have hN : NoH G.length (.sl ((unRn a).map (AV.int .i64))) := (by simp [AV.cells])
 refine sr fun _ => ?_
 refine ρt ?_
 refine mz (sr fun _ => ?_)
 refine ρ0 U167 sz3 ?_
 refine ρ2 U3 ?_
 refine ρ0 U167 sz3 ?_
 refine ρ2 U3 ?_
 refine ARun.buildSl rfl rfl rfl rfl U24 sz3 zv3 rfl (by decide) (.cons (ep rfl) (.cons (ep rfl) .nil)) rfl rfl rfl rfl (by decide) rfl rfl optN ?_
 refine mz ?_
 refine AWP.ret ?_
 refine ρ9 ?_
 rfl
theorem acksI_fn (a : Ak) : FnP Tryz.prog 90 [aAk a] (.sl ((unAk a).map (AV.int .i64))) := by
 refine FnP.of Tryz.func90 rfl rfl (by simp) (by simp [AV.cells]) (fun G hG => ?_)
 have hN : NoH G.length (.sl ((unAk a).map (AV.int .i64))) := (by simp [AV.cells])
 refine sr fun _ => ?_
 refine ρt ?_
 refine mz (sr fun _ => ?_)
 refine ρ0 U181 sz3 ?_
 refine ρ2 U3 ?_
 refine ρ0 U181 sz3 ?_
 refine ρ2 U3 ?_
 refine ρ0 U181 sz3 ?_
 refine ρ2 U3 ?_
 refine ρ0 U181 sz3 ?_
 refine ρ2 U3 ?_
 refine ρ0 U181 sz3 ?_
 refine ρ2 U3 ?_
 refine ρ0 U181 sz3 ?_
 refine ρ2 U3 ?_
 refine ARun.buildSl rfl rfl rfl rfl U24 sz3 zv3 rfl (by decide) (.cons (ep rfl) (.cons (ep rfl) (.cons (ep rfl) (.cons (ep rfl) (.cons (ep rfl) (.cons (ep rfl) .nil)))))) rfl rfl rfl rfl (by decide) rfl rfl optN ?_
 refine mz ?_
 refine AWP.ret ?_
 refine ρ9 ?_
 rfl
end Go.Proofs.YtnlpojjfkgnhhaaGreatDoor
namespace Go.Proofs.YtnlpojjfkgnhhaaGreatDoor
open Go.RowKit
open NumP
theorem anAtt_fn (l : List Int) (hl : l.length = 2) : FnP Tryz.prog 77 [.sl (l.map (AV.int .i64))] (aAt (mkAt l)) := by
 refine FnP.of Tryz.func77 rfl rfl (by simp) (by simp [AV.cells, aIn, aOut, aAt, aMg, aEv, aRc, aRn, aAk, aKn, aEn, aQu, aIm, aSs, aRep]) (fun G hG => ?_)
 have hN : NoH G.length (aAt (mkAt l)) := (by simp [AV.cells, aIn, aOut, aAt, aMg, aEv, aRc, aRn, aAk, aKn, aEn, aQu, aIm, aSs, aRep])
 refine sr fun _ => ?_
 refine ρp (j := 0) zv58 ?_
 refine ez ?_
 refine AWP.seq ?_
 refine AWP.draw mixed (by kernel_rfl) (fun _ => ?_)
 refine mv ?_
 first | refine ρa U24 sz3 ?_ | refine ρ7 U24 sz3 ?_
 refine ρ2 U3 ?_
 refine mv ?_
 first | refine ρa U24 sz3 ?_ | refine ρ7 U24 sz3 ?_
 refine ρ2 U3 ?_
 refine ARun.build rfl rfl rfl rfl so58 (.cons (ep rfl) (.cons (ep rfl) .nil)) rfl rfl optN ?_
 refine ρ8 sz58 ?_
 refine ⟨by kernel_rfl, _, _, rfl, hG, ?_⟩
 refine thenA_n (AWP.ret ?_)
 refine endF.one (.inr rfl) rfl (.cellA rfl ((hG.at _ _).trans rfl) U58 rfl sz58 rfl rfl) ?_ hN
 rfl
theorem aSpan_fn (l : List Int) (hl : l.length = 2) : FnP Tryz.prog 81 [.sl (l.map (AV.int .i64))] (aRn (mkRn l)) := by
 refine FnP.of Tryz.func81 rfl rfl (by simp) (by simp [AV.cells, aIn, aOut, aAt, aMg, aEv, aRc, aRn, aAk, aKn, aEn, aQu, aIm, aSs, aRep]) (fun G hG => ?_)
 have hN : NoH G.length (aRn (mkRn l)) := (by simp [AV.cells, aIn, aOut, aAt, aMg, aEv, aRc, aRn, aAk, aKn, aEn, aQu, aIm, aSs, aRep])
 refine sr fun _ => ?_
 refine ρp (j := 0) zv167 ?_
 refine ez ?_
 refine AWP.seq ?_
 refine AWP.draw mixed (by kernel_rfl) (fun _ => ?_)
 refine mv ?_
 first | refine ρa U24 sz3 ?_ | refine ρ7 U24 sz3 ?_
 refine ρ2 U3 ?_
 refine mv ?_
 first | refine ρa U24 sz3 ?_ | refine ρ7 U24 sz3 ?_
 refine ρ2 U3 ?_
 refine ARun.build rfl rfl rfl rfl so167 (.cons (ep rfl) (.cons (ep rfl) .nil)) rfl rfl optN ?_
 refine ρ8 sz167 ?_
 refine ⟨by kernel_rfl, _, _, rfl, hG, ?_⟩
 refine thenA_n (AWP.ret ?_)
 refine endF.one (.inr rfl) rfl (.cellA rfl ((hG.at _ _).trans rfl) U167 rfl sz167 rfl rfl) ?_ hN
 rfl
theorem anAck_fn (l : List Int) (hl : l.length = 6) : FnP Tryz.prog 116 [.sl (l.map (AV.int .i64))] (aAk (mkAk l)) := by
 refine FnP.of Tryz.func116 rfl rfl (by simp) (by simp [AV.cells, aIn, aOut, aAt, aMg, aEv, aRc, aRn, aAk, aKn, aEn, aQu, aIm, aSs, aRep]) (fun G hG => ?_)
 have hN : NoH G.length (aAk (mkAk l)) := (by simp [AV.cells, aIn, aOut, aAt, aMg, aEv, aRc, aRn, aAk, aKn, aEn, aQu, aIm, aSs, aRep])
 refine sr fun _ => ?_
 refine ρp (j := 0) zv181 ?_
 refine ez ?_
 refine AWP.seq ?_
 refine AWP.draw mixed (by kernel_rfl) (fun _ => ?_)
 refine mv ?_
 first | refine ρa U24 sz3 ?_ | refine ρ7 U24 sz3 ?_
 refine ρ2 U3 ?_
 refine mv ?_
 first | refine ρa U24 sz3 ?_ | refine ρ7 U24 sz3 ?_
 refine ρ2 U3 ?_
 refine mv ?_
 first | refine ρa U24 sz3 ?_ | refine ρ7 U24 sz3 ?_
 refine ρ2 U3 ?_
 refine mv ?_
 first | refine ρa U24 sz3 ?_ | refine ρ7 U24 sz3 ?_
 refine ρ2 U3 ?_
 refine mv ?_
 first | refine ρa U24 sz3 ?_ | refine ρ7 U24 sz3 ?_
 refine ρ2 U3 ?_
 refine mv ?_
 first | refine ρa U24 sz3 ?_ | refine ρ7 U24 sz3 ?_
 refine ρ2 U3 ?_
 refine ARun.build rfl rfl rfl rfl so181 (.cons (ep rfl) (.cons (ep rfl) (.cons (ep rfl) (.cons (ep rfl) (.cons (ep rfl) (.cons (ep rfl) .nil)))))) rfl rfl optN ?_
 refine ρ8 sz181 ?_
 refine ⟨by kernel_rfl, _, _, rfl, hG, ?_⟩
 refine thenA_n (AWP.ret ?_)
 refine endF.one (.inr rfl) rfl (.cellA rfl ((hG.at _ _).trans rfl) U181 rfl sz181 rfl rfl) ?_ hN
 rfl
theorem numK (st : Qs) (h : okQ st) (k : Nat) : FnQ Tryz.prog 74 (fun p q => [.box q 0]) (numsQ st k) (.int .i64 (valQ st k)) (numsQ st (k + 1)) := numQ_fn (numsQ st k) (okQ_nums h k)
theorem knownC_fn (st : Qs) (h : okQ st) : FnQ Tryz.prog 79 (fun p q => [.pe [.fn (.func 74) [.box q 0] []], .pe [.box q 0]]) (st) (aKn (qKnown st).1) ((qKnown st).2) := by
 refine FnQ.of Tryz.func79 rfl rfl (fun p q => by simp) (fun H p q m hHm hp hq hpq hG => ?_)
 have hN : NoH H.length (aKn (qKnown st).1) := (by simp [AV.cells, aIn, aOut, aAt, aMg, aEv, aRc, aRn, aAk, aKn, aEn, aQu, aIm, aSs, aRep])
 refine sr fun _ => ?_
 refine ρp (j := 0) zv164 ?_
 refine ez ?_
 refine AWP.seq ?_
 refine AWP.draw mixed (by kernel_rfl) (fun _ => ?_)
 refine ρ2 U126 ?_
 refine ARun.callQ hp hq hpq hG rfl rfl rfl rfl cf74 (ep rfl) .nil (numK st h 0) rfl optN (fun hG => ?_)
 refine ρ2 U105 ?_
 refine ARun.callQ hp hq hpq hG rfl rfl rfl rfl cf80 (ep rfl) (.cons (ep rfl) (.cons (ep rfl) (.cons (ep rfl) .nil))) (groupsRn_fn 81 2 mkRn (numsQ st 1) (okQ_nums h 1) (by omega) cf81 (fun l hl => aSpan_fn l hl)) rfl optN (fun hG => ?_)
 refine ρ2 U105 ?_
 refine ARun.callQ hp hq hpq hG rfl rfl rfl rfl cf76 (ep rfl) (.cons (ep rfl) (.cons (ep rfl) (.cons (ep rfl) .nil))) (groupsAt_fn 77 2 mkAt (qGroups 2 mkRn (numsQ st 1)).2 (okQ_groups (of := mkRn) (okQ_nums h 1)) (by omega) cf77 (fun l hl => anAtt_fn l hl)) rfl optN (fun hG => ?_)
 refine ARun.build rfl rfl rfl rfl so164 (.cons (ep rfl) (.cons (ep rfl) (.cons (ep rfl) .nil))) rfl rfl optN ?_
 refine ρ8 sz164 ?_
 refine ⟨by kernel_rfl, _, _, rfl, hG, ?_⟩
 refine thenA_n (AWP.ret ?_)
 refine endF.toG (congrArg (prG H p q) rfl) ?_
 refine endF.one (.inr rfl) rfl (.cellA rfl ((hG.at _ _).trans rfl) U164 rfl sz164 rfl rfl) ?_ (by rw [prG_len]; exact hN)
 rfl
theorem rowC_fn (st : Qs) (h : okQ st) : FnQ Tryz.prog 83 (fun p q => [.pe [.box q 0]]) (st) (.sl ((qRow st).1.map (AV.int .i64))) ((qRow st).2) := by
 refine FnQ.of Tryz.func83 rfl rfl (fun p q => by simp) (fun H p q m hHm hp hq hpq hG => ?_)
 have hN : NoH H.length (.sl ((qRow st).1.map (AV.int .i64))) := (by simp [AV.cells])
 refine sr fun _ => ?_
 refine mz (sr fun _ => ?_)
 refine ρ2 U105 ?_
 first | refine ρw ?_ | refine ρx ?_ | refine ρz (atQ hq) ?_
 refine ρn (fo := 0) U107 sz74 (atQ hq) ?_
 refine ρA U74 (atQ hq) ?_
 refine ARun.callQ hp hq hpq hG rfl rfl rfl rfl cf36 (ep rfl) (.cons (ep rfl) (.cons (ep rfl) .nil)) (FnQ.ofM (row_r st.1 1000 h) st.2) rfl optN (fun hG => ?_)
 refine mz ?_
 refine AWP.ret ?_
 refine endF.toG (congrArg (prG H p q) rfl) ?_
 refine ρC ?_ (hn := by rw [prG_len]; exact hN)
 rfl
theorem rangesC_fn (st : Qs) (h : okQ st) : FnQ Tryz.prog 85 (fun p q => [.pe [.box q 0]]) (st) (.sl ((qGroups 2 mkRn st).1.map aRn)) ((qGroups 2 mkRn st).2) := by
 refine FnQ.of Tryz.func85 rfl rfl (fun p q => by simp) (fun H p q m hHm hp hq hpq hG => ?_)
 have hN : NoH H.length (.sl ((qGroups 2 mkRn st).1.map aRn)) := (by simp [AV.cells, aIn, aOut, aAt, aMg, aEv, aRc, aRn, aAk, aKn, aEn, aQu, aIm, aSs, aRep])
 refine sr fun _ => ?_
 refine mz (sr fun _ => ?_)
 refine ρ2 U105 ?_
 refine ARun.callQ hp hq hpq hG rfl rfl rfl rfl cf80 (ep rfl) (.cons (ep rfl) (.cons (ep rfl) (.cons (ep rfl) .nil))) (groupsRn_fn 81 2 mkRn st h (by omega) cf81 (fun l hl => aSpan_fn l hl)) rfl optN (fun hG => ?_)
 refine mz ?_
 refine AWP.ret ?_
 refine endF.toG (congrArg (prG H p q) rfl) ?_
 refine ρC ?_ (hn := by rw [prG_len]; exact hN)
 rfl
theorem itemC_fn (st : Qs) (h : okQ st) : FnQ Tryz.prog 118 (fun p q => [.pe [.fn (.func 74) [.box q 0] []]]) (st) (aIm (qItem st).1) ((qItem st).2) := by
 refine FnQ.of Tryz.func118 rfl rfl (fun p q => by simp) (fun H p q m hHm hp hq hpq hG => ?_)
 have hN : NoH H.length (aIm (qItem st).1) := (by simp [AV.cells, aIn, aOut, aAt, aMg, aEv, aRc, aRn, aAk, aKn, aEn, aQu, aIm, aSs, aRep])
 refine sr fun _ => ?_
 refine ρp (j := 0) zv186 ?_
 refine ez ?_
 refine AWP.seq ?_
 refine AWP.draw mixed (by kernel_rfl) (fun _ => ?_)
 refine ρ2 U126 ?_
 refine ARun.callQ hp hq hpq hG rfl rfl rfl rfl cf74 (ep rfl) .nil (numK st h 0) rfl optN (fun hG => ?_)
 refine ρ2 U126 ?_
 refine ARun.callQ hp hq hpq hG rfl rfl rfl rfl cf74 (ep rfl) .nil (numK st h 1) rfl optN (fun hG => ?_)
 refine ρ2 U126 ?_
 refine ARun.callQ hp hq hpq hG rfl rfl rfl rfl cf74 (ep rfl) .nil (numK st h 2) rfl optN (fun hG => ?_)
 refine ρ2 U126 ?_
 refine ARun.callQ hp hq hpq hG rfl rfl rfl rfl cf74 (ep rfl) .nil (numK st h 3) rfl optN (fun hG => ?_)
 refine ARun.build rfl rfl rfl rfl so186 (.cons (ep rfl) (.cons (ep rfl) (.cons (ep rfl) (.cons (ep rfl) .nil)))) rfl rfl optN ?_
 refine ρ8 sz186 ?_
 refine ⟨by kernel_rfl, _, _, rfl, hG, ?_⟩
 refine thenA_n (AWP.ret ?_)
 refine endF.toG (congrArg (prG H p q) rfl) ?_
 refine endF.one (.inr rfl) rfl (.cellA rfl ((hG.at _ _).trans rfl) U186 rfl sz186 rfl rfl) ?_ (by rw [prG_len]; exact hN)
 rfl
end Go.Proofs.YtnlpojjfkgnhhaaGreatDoor
namespace Go.Proofs.YtnlpojjfkgnhhaaGreatDoor
open Go.RowKit
open NumP
theorem nh_Row (x : List Int) (m : Nat) : ∀ y, y ∈ (AV.sl (x.map (AV.int .i64))).cells → NoH m y := by simp [AV.cells]
theorem nh_Rs (x : List Rn) (m : Nat) : ∀ y, y ∈ (AV.sl (x.map aRn)).cells → NoH m y := by simp [AV.cells, aRn]
theorem sl_noH {α : Type} {av : α → AV} (hav : ∀ x m, ∀ y, y ∈ (av x).cells → NoH m y) (l : List α) (m : Nat) : NoH m (.sl (l.map av)) :=
 .sl _ fun x hx y hy => by obtain ⟨z, _, rfl⟩ := List.mem_map.1 hx; exact hav z m y hy
theorem timesRow_fn (F : Nat) (cs : Nat → Nat → List AV) (pf : Qs → (List Int) × Qs) (n : Int) (st : Qs) (h : okQ st) (hn : 0 ≤ n ∧ n ≤ 1000) (hcf : ∀ (vs : Array Value) (W : World), (callFunc F vs).run Tryz.prog W = .ok (.enter F vs) W) (hncs : ∀ p q m, p < m → q < m → ∀ x, x ∈ cs p q → NoH m x) (hok : ∀ st, okQ st → okQ (pf st).2) (hof : ∀ st, okQ st → FnQ Tryz.prog F cs st ((fun (l : List Int) => AV.sl (l.map (AV.int .i64))) (pf st).1) (pf st).2) : FnQ Tryz.prog 82 (fun p q => [.box q 0, .int .i64 n, .fn (.func F) [] (cs p q)]) (st) (.sl ((qTimes pf n.toNat st []).1.map (fun (l : List Int) => AV.sl (l.map (AV.int .i64))))) ((qTimes pf n.toNat st []).2) := by
 refine FnQ.of Tryz.func82 rfl rfl (fun p q => by simp) (fun H p q m hHm hp hq hpq hG => ?_)
 have hN : NoH H.length (.sl ((qTimes pf n.toNat st []).1.map (fun (l : List Int) => AV.sl (l.map (AV.int .i64))))) := (sl_noH nh_Row _ _)
 refine sr fun _ => ?_
 refine mz (sr fun _ => ?_)
 refine ARun.nilOwn (e := 24) (z := 1) (j := 0) hG rfl ⟨.inl rfl, rfl⟩ (fun _ => rfl) rfl rfl rfl optN ?_
 refine ez ?_
 refine AWP.seq (sr fun _ => ?_)
 refine mv ?_
 refine mv ?_
 refine ez ?_
 refine AWP.block ?_
 refine AWP.roundsO (fun ks => ks.1 ≤ n.toNat ∧ okQ ks.2.1 ∧ qTimes pf (n.toNat - ks.1) ks.2.1 ks.2.2.1 = qTimes pf n.toNat st [] ∧ ks.2.2.1.length = ks.1) (fun ks => [(0, .box q 0), (2, .fn (.func F) [] (cs p q)), (7, .own (m + 0) ks.2.2.2), (8, .int .i64 n), (9, .int .i64 (ks.1 : Int))]) (fun ks => prG H p q ks.2.1) (fun ks => [.row ks.2.2.2 24 1 (ks.2.2.1.map (fun (l : List Int) => AV.sl (l.map (AV.int .i64))))]) (fun ks => n.toNat - ks.1) 1 ((0, st, [], 0) : Nat × Qs × List (List Int) × Nat) ⟨Nat.zero_le _, h, rfl, rfl⟩ (by repeat (first | exact .nil | refine .cons rfl ?_)) rfl rfl (fun _ => rfl) (fun _ => ⟨fun pr hpr => by simp only [List.mem_cons, List.not_mem_nil, or_false] at hpr; rcases hpr with rfl | rfl | rfl | rfl | rfl; exact .box _ _ (by omega); exact .fn _ _ _ (fun x hx => by cases hx) (fun x hx => hncs p q _ (by omega) (by omega) x hx); exact .own _ _ (by omega); exact .int _ _; exact .int _ _, fun o ho x hx => by rw [List.mem_singleton.1 ho] at hx; exact rows_noH (fun (l : List Int) => AV.sl (l.map (AV.int .i64))) nh_Row _ _ _ _ _ x hx⟩) (fun ks hI hG => ?_)
 obtain ⟨k, s, acc, g⟩ := ks
 dsimp only at hI
 show AWP _ _ _ _ _ [(0, .box q 0), (2, .fn (.func F) [] (cs p q)), (7, .own (m + 0) g), (8, .int .i64 n), (9, .int .i64 (k : Int))] (prG H p q s) [.row g 24 1 (acc.map (fun (l : List Int) => AV.sl (l.map (AV.int .i64))))]
 replace hG : GOK _ (prG H p q s) := hG
 obtain ⟨hk, hs, heq, hacc⟩ := hI
 refine sr fun _ => ?_
 refine ρ6 ?_
 refine ez ?_
 refine AWP.seq ?_
 refine ρo (fun h0 => ?_) (fun h0 => ?_)
 · replace h0 : k < n.toNat := by simp at h0; omega
   obtain ⟨j, hj⟩ : ∃ j, n.toNat - k = j + 1 := ⟨n.toNat - k - 1, by omega⟩
   rw [hj] at heq
   refine AWP.skip (thenA_n ?_)
   refine AWP.seq (AWP.block (AWP.seq ?_))
   refine sr fun _ => ?_
   refine mv ?_
   first | refine ρw ?_ | refine ρx ?_ | refine ρz (atQ hq) ?_
   refine ρn (fo := 0) U107 sz74 (atQ hq) ?_
   refine ρA U74 (atQ hq) ?_
   refine ARun.callR rfl rfl rfl rfl cf20 (ep rfl) (.cons (ep rfl) .nil) rfl (fun hg => FnM.keep (rdone_fn s.1) (atP hp hpq)) optN ?_
   refine ρr U28 ?_
   refine ez ?_
   refine ρo (fun h1 => ?_) (fun h1 => ?_)
   · have he : s.1.e ≠ 0 := by simpa [errOf_none] using h1
     have hres : qTimes pf n.toNat st [] = ([], s) := by rw [← heq, qTimes, if_pos he]
     refine sr fun _ => ?_
     refine mz ?_
     refine AWP.ret (thenA_r ?_)
     refine blockA_r (thenA_r ?_)
     refine thenA_r (blockA_r (thenA_r ?_))
     refine endF.toG (congrArg (prG H p q) (by rw [hres])) ?_
     refine ρC ?_ (hn := by rw [prG_len]; exact hN)
     rw [hres]; rfl
   have he : s.1.e = 0 := by simpa [errOf_none] using h1
   have hres : qTimes pf j (pf s).2 (acc ++ [(pf s).1]) = qTimes pf n.toNat st [] := by rw [← heq, qTimes, if_neg (by omega)]
   refine AWP.skip (thenA_n ?_)
   refine AWP.region (fun _ => ?_)
   refine mv ?_
   refine mv ?_
   refine ARun.callQ hp hq hpq hG rfl rfl rfl rfl hcf (ep rfl) .nil (hof s hs) rfl optN (fun hG => ?_)
   refine ρy U55 sz24 zv24 ?_
   refine ARun.appendL hG rfl rfl rfl rfl U55 ti24 rfl (by decide) (ep rfl) (ep rfl) rfl rfl (by rw [List.length_map, hacc]; simp [maxLen]; omega) (by rw [List.length_map, hacc]; simp; omega) (acc_snoc (fun (l : List Int) => AV.sl (l.map (AV.int .i64))) acc (pf s).1) optN rfl ?_
   refine ma ?_
   refine ⟨_, _, rfl, hG, ?_⟩
   refine blockA_n (thenA_n ?_)
   refine AWP.region (fun _ => ?_)
   first | refine ρd ?_ | refine ρg ?_
   refine mv ?_
   refine ⟨_, _, rfl, hG, ?_⟩
   refine thenA_n ⟨(k + 1, (pf s).2, acc ++ [(pf s).1], g + 1), _, ?_, ?_, ?_, rfl, ?_⟩
   · rfl
   · exact ⟨by dsimp only; omega, hok _ hs, by dsimp only; rw [show n.toNat - (k + 1) = j by omega]; exact hres, by dsimp only; rw [List.length_append, hacc]; rfl⟩
   · repeat (first | exact .nil | refine .cons rfl ?_)
   dsimp only; omega
 obtain rfl : k = n.toNat := by simp at h0; omega
 rw [Nat.sub_self] at heq
 refine AWP.exit ?_
 refine thenA_x ?_
 refine thenA_x ?_
 refine blockA_h ?_
 refine thenA_n (AWP.seq ?_)
 refine AWP.frzOwn 7 hG rfl rfl (by decide) (by rw [List.length_map, hacc]; simp [maxLen]; omega) rfl ?_
 refine AWP.region (fun _ => ?_)
 refine mv ?_
 refine mz ?_
 refine AWP.ret ?_
 refine endF.toG (congrArg (prG H p q) (by rw [← heq]; rfl)) ?_
 refine ρC ?_ (hn := by rw [prG_len]; exact hN)
 rw [← heq]; rfl
theorem timesKn_fn (F : Nat) (cs : Nat → Nat → List AV) (pf : Qs → Kn × Qs) (n : Int) (st : Qs) (h : okQ st) (hn : 0 ≤ n ∧ n ≤ 1000) (hcf : ∀ (vs : Array Value) (W : World), (callFunc F vs).run Tryz.prog W = .ok (.enter F vs) W) (hncs : ∀ p q m, p < m → q < m → ∀ x, x ∈ cs p q → NoH m x) (hok : ∀ st, okQ st → okQ (pf st).2) (hof : ∀ st, okQ st → FnQ Tryz.prog F cs st (aKn (pf st).1) (pf st).2) : FnQ Tryz.prog 78 (fun p q => [.box q 0, .int .i64 n, .fn (.func F) [] (cs p q)]) (st) (.sl ((qTimes pf n.toNat st []).1.map aKn)) ((qTimes pf n.toNat st []).2) := by
 refine FnQ.of Tryz.func78 rfl rfl (fun p q => by simp) (fun H p q m hHm hp hq hpq hG => ?_)
 have hN : NoH H.length (.sl ((qTimes pf n.toNat st []).1.map aKn)) := (sl_noH nh_Kn _ _)
 refine sr fun _ => ?_
 refine mz (sr fun _ => ?_)
 refine ARun.nilOwn (e := 164) (z := 3) (j := 0) hG rfl ⟨.inl rfl, rfl⟩ (fun _ => rfl) rfl rfl rfl optN ?_
 refine ez ?_
 refine AWP.seq (sr fun _ => ?_)
 refine mv ?_
 refine mv ?_
 refine ez ?_
 refine AWP.block ?_
 refine AWP.roundsO (fun ks => ks.1 ≤ n.toNat ∧ okQ ks.2.1 ∧ qTimes pf (n.toNat - ks.1) ks.2.1 ks.2.2.1 = qTimes pf n.toNat st [] ∧ ks.2.2.1.length = ks.1) (fun ks => [(0, .box q 0), (2, .fn (.func F) [] (cs p q)), (7, .own (m + 0) ks.2.2.2), (8, .int .i64 n), (9, .int .i64 (ks.1 : Int))]) (fun ks => prG H p q ks.2.1) (fun ks => [.row ks.2.2.2 164 3 (ks.2.2.1.map aKn)]) (fun ks => n.toNat - ks.1) 1 ((0, st, [], 0) : Nat × Qs × List Kn × Nat) ⟨Nat.zero_le _, h, rfl, rfl⟩ (by repeat (first | exact .nil | refine .cons rfl ?_)) rfl rfl (fun _ => rfl) (fun _ => ⟨fun pr hpr => by simp only [List.mem_cons, List.not_mem_nil, or_false] at hpr; rcases hpr with rfl | rfl | rfl | rfl | rfl; exact .box _ _ (by omega); exact .fn _ _ _ (fun x hx => by cases hx) (fun x hx => hncs p q _ (by omega) (by omega) x hx); exact .own _ _ (by omega); exact .int _ _; exact .int _ _, fun o ho x hx => by rw [List.mem_singleton.1 ho] at hx; exact rows_noH aKn nh_Kn _ _ _ _ _ x hx⟩) (fun ks hI hG => ?_)
 obtain ⟨k, s, acc, g⟩ := ks
 dsimp only at hI
 show AWP _ _ _ _ _ [(0, .box q 0), (2, .fn (.func F) [] (cs p q)), (7, .own (m + 0) g), (8, .int .i64 n), (9, .int .i64 (k : Int))] (prG H p q s) [.row g 164 3 (acc.map aKn)]
 replace hG : GOK _ (prG H p q s) := hG
 obtain ⟨hk, hs, heq, hacc⟩ := hI
 refine sr fun _ => ?_
 refine ρ6 ?_
 refine ez ?_
 refine AWP.seq ?_
 refine ρo (fun h0 => ?_) (fun h0 => ?_)
 · replace h0 : k < n.toNat := by simp at h0; omega
   obtain ⟨j, hj⟩ : ∃ j, n.toNat - k = j + 1 := ⟨n.toNat - k - 1, by omega⟩
   rw [hj] at heq
   refine AWP.skip (thenA_n ?_)
   refine AWP.seq (AWP.block (AWP.seq ?_))
   refine sr fun _ => ?_
   refine mv ?_
   first | refine ρw ?_ | refine ρx ?_ | refine ρz (atQ hq) ?_
   refine ρn (fo := 0) U107 sz74 (atQ hq) ?_
   refine ρA U74 (atQ hq) ?_
   refine ARun.callR rfl rfl rfl rfl cf20 (ep rfl) (.cons (ep rfl) .nil) rfl (fun hg => FnM.keep (rdone_fn s.1) (atP hp hpq)) optN ?_
   refine ρr U28 ?_
   refine ez ?_
   refine ρo (fun h1 => ?_) (fun h1 => ?_)
   · have he : s.1.e ≠ 0 := by simpa [errOf_none] using h1
     have hres : qTimes pf n.toNat st [] = ([], s) := by rw [← heq, qTimes, if_pos he]
     refine sr fun _ => ?_
     refine mz ?_
     refine AWP.ret (thenA_r ?_)
     refine blockA_r (thenA_r ?_)
     refine thenA_r (blockA_r (thenA_r ?_))
     refine endF.toG (congrArg (prG H p q) (by rw [hres])) ?_
     refine ρC ?_ (hn := by rw [prG_len]; exact hN)
     rw [hres]; rfl
   have he : s.1.e = 0 := by simpa [errOf_none] using h1
   have hres : qTimes pf j (pf s).2 (acc ++ [(pf s).1]) = qTimes pf n.toNat st [] := by rw [← heq, qTimes, if_neg (by omega)]
   refine AWP.skip (thenA_n ?_)
   refine AWP.region (fun _ => ?_)
   refine mv ?_
   refine mv ?_
   refine ARun.callQ hp hq hpq hG rfl rfl rfl rfl hcf (ep rfl) .nil (hof s hs) rfl optN (fun hG => ?_)
   refine ρy U54 sz164 zv164 ?_
   refine ARun.appendL hG rfl rfl rfl rfl U54 ti164 rfl (by decide) (ep rfl) (ep rfl) rfl rfl (by rw [List.length_map, hacc]; simp [maxLen]; omega) (by rw [List.length_map, hacc]; simp; omega) (acc_snoc aKn acc (pf s).1) optN rfl ?_
   refine ma ?_
   refine ⟨_, _, rfl, hG, ?_⟩
   refine blockA_n (thenA_n ?_)
   refine AWP.region (fun _ => ?_)
   first | refine ρd ?_ | refine ρg ?_
   refine mv ?_
   refine ⟨_, _, rfl, hG, ?_⟩
   refine thenA_n ⟨(k + 1, (pf s).2, acc ++ [(pf s).1], g + 1), _, ?_, ?_, ?_, rfl, ?_⟩
   · rfl
   · exact ⟨by dsimp only; omega, hok _ hs, by dsimp only; rw [show n.toNat - (k + 1) = j by omega]; exact hres, by dsimp only; rw [List.length_append, hacc]; rfl⟩
   · repeat (first | exact .nil | refine .cons rfl ?_)
   dsimp only; omega
 obtain rfl : k = n.toNat := by simp at h0; omega
 rw [Nat.sub_self] at heq
 refine AWP.exit ?_
 refine thenA_x ?_
 refine thenA_x ?_
 refine blockA_h ?_
 refine thenA_n (AWP.seq ?_)
 refine AWP.frzOwn 7 hG rfl rfl (by decide) (by rw [List.length_map, hacc]; simp [maxLen]; omega) rfl ?_
 refine AWP.region (fun _ => ?_)
 refine mv ?_
 refine mz ?_
 refine AWP.ret ?_
 refine endF.toG (congrArg (prG H p q) (by rw [← heq]; rfl)) ?_
 refine ρC ?_ (hn := by rw [prG_len]; exact hN)
 rw [← heq]; rfl
theorem timesRs_fn (F : Nat) (cs : Nat → Nat → List AV) (pf : Qs → (List Rn) × Qs) (n : Int) (st : Qs) (h : okQ st) (hn : 0 ≤ n ∧ n ≤ 1000) (hcf : ∀ (vs : Array Value) (W : World), (callFunc F vs).run Tryz.prog W = .ok (.enter F vs) W) (hncs : ∀ p q m, p < m → q < m → ∀ x, x ∈ cs p q → NoH m x) (hok : ∀ st, okQ st → okQ (pf st).2) (hof : ∀ st, okQ st → FnQ Tryz.prog F cs st ((fun (l : List Rn) => AV.sl (l.map aRn)) (pf st).1) (pf st).2) : FnQ Tryz.prog 84 (fun p q => [.box q 0, .int .i64 n, .fn (.func F) [] (cs p q)]) (st) (.sl ((qTimes pf n.toNat st []).1.map (fun (l : List Rn) => AV.sl (l.map aRn)))) ((qTimes pf n.toNat st []).2) := by
 refine FnQ.of Tryz.func84 rfl rfl (fun p q => by simp) (fun H p q m hHm hp hq hpq hG => ?_)
 have hN : NoH H.length (.sl ((qTimes pf n.toNat st []).1.map (fun (l : List Rn) => AV.sl (l.map aRn)))) := (sl_noH nh_Rs _ _)
 refine sr fun _ => ?_
 refine mz (sr fun _ => ?_)
 refine ARun.nilOwn (e := 162) (z := 1) (j := 0) hG rfl ⟨.inl rfl, rfl⟩ (fun _ => rfl) rfl rfl rfl optN ?_
 refine ez ?_
 refine AWP.seq (sr fun _ => ?_)
 refine mv ?_
 refine mv ?_
 refine ez ?_
 refine AWP.block ?_
 refine AWP.roundsO (fun ks => ks.1 ≤ n.toNat ∧ okQ ks.2.1 ∧ qTimes pf (n.toNat - ks.1) ks.2.1 ks.2.2.1 = qTimes pf n.toNat st [] ∧ ks.2.2.1.length = ks.1) (fun ks => [(0, .box q 0), (2, .fn (.func F) [] (cs p q)), (7, .own (m + 0) ks.2.2.2), (8, .int .i64 n), (9, .int .i64 (ks.1 : Int))]) (fun ks => prG H p q ks.2.1) (fun ks => [.row ks.2.2.2 162 1 (ks.2.2.1.map (fun (l : List Rn) => AV.sl (l.map aRn)))]) (fun ks => n.toNat - ks.1) 1 ((0, st, [], 0) : Nat × Qs × List (List Rn) × Nat) ⟨Nat.zero_le _, h, rfl, rfl⟩ (by repeat (first | exact .nil | refine .cons rfl ?_)) rfl rfl (fun _ => rfl) (fun _ => ⟨fun pr hpr => by simp only [List.mem_cons, List.not_mem_nil, or_false] at hpr; rcases hpr with rfl | rfl | rfl | rfl | rfl; exact .box _ _ (by omega); exact .fn _ _ _ (fun x hx => by cases hx) (fun x hx => hncs p q _ (by omega) (by omega) x hx); exact .own _ _ (by omega); exact .int _ _; exact .int _ _, fun o ho x hx => by rw [List.mem_singleton.1 ho] at hx; exact rows_noH (fun (l : List Rn) => AV.sl (l.map aRn)) nh_Rs _ _ _ _ _ x hx⟩) (fun ks hI hG => ?_)
 obtain ⟨k, s, acc, g⟩ := ks
 dsimp only at hI
 show AWP _ _ _ _ _ [(0, .box q 0), (2, .fn (.func F) [] (cs p q)), (7, .own (m + 0) g), (8, .int .i64 n), (9, .int .i64 (k : Int))] (prG H p q s) [.row g 162 1 (acc.map (fun (l : List Rn) => AV.sl (l.map aRn)))]
 replace hG : GOK _ (prG H p q s) := hG
 obtain ⟨hk, hs, heq, hacc⟩ := hI
 refine sr fun _ => ?_
 refine ρ6 ?_
 refine ez ?_
 refine AWP.seq ?_
 refine ρo (fun h0 => ?_) (fun h0 => ?_)
 · replace h0 : k < n.toNat := by simp at h0; omega
   obtain ⟨j, hj⟩ : ∃ j, n.toNat - k = j + 1 := ⟨n.toNat - k - 1, by omega⟩
   rw [hj] at heq
   refine AWP.skip (thenA_n ?_)
   refine AWP.seq (AWP.block (AWP.seq ?_))
   refine sr fun _ => ?_
   refine mv ?_
   first | refine ρw ?_ | refine ρx ?_ | refine ρz (atQ hq) ?_
   refine ρn (fo := 0) U107 sz74 (atQ hq) ?_
   refine ρA U74 (atQ hq) ?_
   refine ARun.callR rfl rfl rfl rfl cf20 (ep rfl) (.cons (ep rfl) .nil) rfl (fun hg => FnM.keep (rdone_fn s.1) (atP hp hpq)) optN ?_
   refine ρr U28 ?_
   refine ez ?_
   refine ρo (fun h1 => ?_) (fun h1 => ?_)
   · have he : s.1.e ≠ 0 := by simpa [errOf_none] using h1
     have hres : qTimes pf n.toNat st [] = ([], s) := by rw [← heq, qTimes, if_pos he]
     refine sr fun _ => ?_
     refine mz ?_
     refine AWP.ret (thenA_r ?_)
     refine blockA_r (thenA_r ?_)
     refine thenA_r (blockA_r (thenA_r ?_))
     refine endF.toG (congrArg (prG H p q) (by rw [hres])) ?_
     refine ρC ?_ (hn := by rw [prG_len]; exact hN)
     rw [hres]; rfl
   have he : s.1.e = 0 := by simpa [errOf_none] using h1
   have hres : qTimes pf j (pf s).2 (acc ++ [(pf s).1]) = qTimes pf n.toNat st [] := by rw [← heq, qTimes, if_neg (by omega)]
   refine AWP.skip (thenA_n ?_)
   refine AWP.region (fun _ => ?_)
   refine mv ?_
   refine mv ?_
   refine ARun.callQ hp hq hpq hG rfl rfl rfl rfl hcf (ep rfl) .nil (hof s hs) rfl optN (fun hG => ?_)
   refine ρy U56 sz162 zv162 ?_
   refine ARun.appendL hG rfl rfl rfl rfl U56 ti162 rfl (by decide) (ep rfl) (ep rfl) rfl rfl (by rw [List.length_map, hacc]; simp [maxLen]; omega) (by rw [List.length_map, hacc]; simp; omega) (acc_snoc (fun (l : List Rn) => AV.sl (l.map aRn)) acc (pf s).1) optN rfl ?_
   refine ma ?_
   refine ⟨_, _, rfl, hG, ?_⟩
   refine blockA_n (thenA_n ?_)
   refine AWP.region (fun _ => ?_)
   first | refine ρd ?_ | refine ρg ?_
   refine mv ?_
   refine ⟨_, _, rfl, hG, ?_⟩
   refine thenA_n ⟨(k + 1, (pf s).2, acc ++ [(pf s).1], g + 1), _, ?_, ?_, ?_, rfl, ?_⟩
   · rfl
   · exact ⟨by dsimp only; omega, hok _ hs, by dsimp only; rw [show n.toNat - (k + 1) = j by omega]; exact hres, by dsimp only; rw [List.length_append, hacc]; rfl⟩
   · repeat (first | exact .nil | refine .cons rfl ?_)
   dsimp only; omega
 obtain rfl : k = n.toNat := by simp at h0; omega
 rw [Nat.sub_self] at heq
 refine AWP.exit ?_
 refine thenA_x ?_
 refine thenA_x ?_
 refine blockA_h ?_
 refine thenA_n (AWP.seq ?_)
 refine AWP.frzOwn 7 hG rfl rfl (by decide) (by rw [List.length_map, hacc]; simp [maxLen]; omega) rfl ?_
 refine AWP.region (fun _ => ?_)
 refine mv ?_
 refine mz ?_
 refine AWP.ret ?_
 refine endF.toG (congrArg (prG H p q) (by rw [← heq]; rfl)) ?_
 refine ρC ?_ (hn := by rw [prG_len]; exact hN)
 rw [← heq]; rfl
theorem timesEn_fn (F : Nat) (cs : Nat → Nat → List AV) (pf : Qs → En × Qs) (n : Int) (st : Qs) (h : okQ st) (hn : 0 ≤ n ∧ n ≤ 1000) (hcf : ∀ (vs : Array Value) (W : World), (callFunc F vs).run Tryz.prog W = .ok (.enter F vs) W) (hncs : ∀ p q m, p < m → q < m → ∀ x, x ∈ cs p q → NoH m x) (hok : ∀ st, okQ st → okQ (pf st).2) (hof : ∀ st, okQ st → FnQ Tryz.prog F cs st (aEn (pf st).1) (pf st).2) : FnQ Tryz.prog 113 (fun p q => [.box q 0, .int .i64 n, .fn (.func F) [] (cs p q)]) (st) (.sl ((qTimes pf n.toNat st []).1.map aEn)) ((qTimes pf n.toNat st []).2) := by
 refine FnQ.of Tryz.func113 rfl rfl (fun p q => by simp) (fun H p q m hHm hp hq hpq hG => ?_)
 have hN : NoH H.length (.sl ((qTimes pf n.toNat st []).1.map aEn)) := (sl_noH nh_En _ _)
 refine sr fun _ => ?_
 refine mz (sr fun _ => ?_)
 refine ARun.nilOwn (e := 178) (z := 10) (j := 0) hG rfl ⟨.inl rfl, rfl⟩ (fun _ => rfl) rfl rfl rfl optN ?_
 refine ez ?_
 refine AWP.seq (sr fun _ => ?_)
 refine mv ?_
 refine mv ?_
 refine ez ?_
 refine AWP.block ?_
 refine AWP.roundsO (fun ks => ks.1 ≤ n.toNat ∧ okQ ks.2.1 ∧ qTimes pf (n.toNat - ks.1) ks.2.1 ks.2.2.1 = qTimes pf n.toNat st [] ∧ ks.2.2.1.length = ks.1) (fun ks => [(0, .box q 0), (2, .fn (.func F) [] (cs p q)), (7, .own (m + 0) ks.2.2.2), (8, .int .i64 n), (9, .int .i64 (ks.1 : Int))]) (fun ks => prG H p q ks.2.1) (fun ks => [.row ks.2.2.2 178 10 (ks.2.2.1.map aEn)]) (fun ks => n.toNat - ks.1) 1 ((0, st, [], 0) : Nat × Qs × List En × Nat) ⟨Nat.zero_le _, h, rfl, rfl⟩ (by repeat (first | exact .nil | refine .cons rfl ?_)) rfl rfl (fun _ => rfl) (fun _ => ⟨fun pr hpr => by simp only [List.mem_cons, List.not_mem_nil, or_false] at hpr; rcases hpr with rfl | rfl | rfl | rfl | rfl; exact .box _ _ (by omega); exact .fn _ _ _ (fun x hx => by cases hx) (fun x hx => hncs p q _ (by omega) (by omega) x hx); exact .own _ _ (by omega); exact .int _ _; exact .int _ _, fun o ho x hx => by rw [List.mem_singleton.1 ho] at hx; exact rows_noH aEn nh_En _ _ _ _ _ x hx⟩) (fun ks hI hG => ?_)
 obtain ⟨k, s, acc, g⟩ := ks
 dsimp only at hI
 show AWP _ _ _ _ _ [(0, .box q 0), (2, .fn (.func F) [] (cs p q)), (7, .own (m + 0) g), (8, .int .i64 n), (9, .int .i64 (k : Int))] (prG H p q s) [.row g 178 10 (acc.map aEn)]
 replace hG : GOK _ (prG H p q s) := hG
 obtain ⟨hk, hs, heq, hacc⟩ := hI
 refine sr fun _ => ?_
 refine ρ6 ?_
 refine ez ?_
 refine AWP.seq ?_
 refine ρo (fun h0 => ?_) (fun h0 => ?_)
 · replace h0 : k < n.toNat := by simp at h0; omega
   obtain ⟨j, hj⟩ : ∃ j, n.toNat - k = j + 1 := ⟨n.toNat - k - 1, by omega⟩
   rw [hj] at heq
   refine AWP.skip (thenA_n ?_)
   refine AWP.seq (AWP.block (AWP.seq ?_))
   refine sr fun _ => ?_
   refine mv ?_
   first | refine ρw ?_ | refine ρx ?_ | refine ρz (atQ hq) ?_
   refine ρn (fo := 0) U107 sz74 (atQ hq) ?_
   refine ρA U74 (atQ hq) ?_
   refine ARun.callR rfl rfl rfl rfl cf20 (ep rfl) (.cons (ep rfl) .nil) rfl (fun hg => FnM.keep (rdone_fn s.1) (atP hp hpq)) optN ?_
   refine ρr U28 ?_
   refine ez ?_
   refine ρo (fun h1 => ?_) (fun h1 => ?_)
   · have he : s.1.e ≠ 0 := by simpa [errOf_none] using h1
     have hres : qTimes pf n.toNat st [] = ([], s) := by rw [← heq, qTimes, if_pos he]
     refine sr fun _ => ?_
     refine mz ?_
     refine AWP.ret (thenA_r ?_)
     refine blockA_r (thenA_r ?_)
     refine thenA_r (blockA_r (thenA_r ?_))
     refine endF.toG (congrArg (prG H p q) (by rw [hres])) ?_
     refine ρC ?_ (hn := by rw [prG_len]; exact hN)
     rw [hres]; rfl
   have he : s.1.e = 0 := by simpa [errOf_none] using h1
   have hres : qTimes pf j (pf s).2 (acc ++ [(pf s).1]) = qTimes pf n.toNat st [] := by rw [← heq, qTimes, if_neg (by omega)]
   refine AWP.skip (thenA_n ?_)
   refine AWP.region (fun _ => ?_)
   refine mv ?_
   refine mv ?_
   refine ARun.callQ hp hq hpq hG rfl rfl rfl rfl hcf (ep rfl) .nil (hof s hs) rfl optN (fun hG => ?_)
   refine ρy U53 sz178 zv178 ?_
   refine ARun.appendL hG rfl rfl rfl rfl U53 ti178 rfl (by decide) (ep rfl) (ep rfl) rfl rfl (by rw [List.length_map, hacc]; simp [maxLen]; omega) (by rw [List.length_map, hacc]; simp; omega) (acc_snoc aEn acc (pf s).1) optN rfl ?_
   refine ma ?_
   refine ⟨_, _, rfl, hG, ?_⟩
   refine blockA_n (thenA_n ?_)
   refine AWP.region (fun _ => ?_)
   first | refine ρd ?_ | refine ρg ?_
   refine mv ?_
   refine ⟨_, _, rfl, hG, ?_⟩
   refine thenA_n ⟨(k + 1, (pf s).2, acc ++ [(pf s).1], g + 1), _, ?_, ?_, ?_, rfl, ?_⟩
   · rfl
   · exact ⟨by dsimp only; omega, hok _ hs, by dsimp only; rw [show n.toNat - (k + 1) = j by omega]; exact hres, by dsimp only; rw [List.length_append, hacc]; rfl⟩
   · repeat (first | exact .nil | refine .cons rfl ?_)
   dsimp only; omega
 obtain rfl : k = n.toNat := by simp at h0; omega
 rw [Nat.sub_self] at heq
 refine AWP.exit ?_
 refine thenA_x ?_
 refine thenA_x ?_
 refine blockA_h ?_
 refine thenA_n (AWP.seq ?_)
 refine AWP.frzOwn 7 hG rfl rfl (by decide) (by rw [List.length_map, hacc]; simp [maxLen]; omega) rfl ?_
 refine AWP.region (fun _ => ?_)
 refine mv ?_
 refine mz ?_
 refine AWP.ret ?_
 refine endF.toG (congrArg (prG H p q) (by rw [← heq]; rfl)) ?_
 refine ρC ?_ (hn := by rw [prG_len]; exact hN)
 rw [← heq]; rfl
theorem timesIm_fn (F : Nat) (cs : Nat → Nat → List AV) (pf : Qs → Im × Qs) (n : Int) (st : Qs) (h : okQ st) (hn : 0 ≤ n ∧ n ≤ 1000) (hcf : ∀ (vs : Array Value) (W : World), (callFunc F vs).run Tryz.prog W = .ok (.enter F vs) W) (hncs : ∀ p q m, p < m → q < m → ∀ x, x ∈ cs p q → NoH m x) (hok : ∀ st, okQ st → okQ (pf st).2) (hof : ∀ st, okQ st → FnQ Tryz.prog F cs st (aIm (pf st).1) (pf st).2) : FnQ Tryz.prog 117 (fun p q => [.box q 0, .int .i64 n, .fn (.func F) [] (cs p q)]) (st) (.sl ((qTimes pf n.toNat st []).1.map aIm)) ((qTimes pf n.toNat st []).2) := by
 refine FnQ.of Tryz.func117 rfl rfl (fun p q => by simp) (fun H p q m hHm hp hq hpq hG => ?_)
 have hN : NoH H.length (.sl ((qTimes pf n.toNat st []).1.map aIm)) := (sl_noH nh_Im _ _)
 refine sr fun _ => ?_
 refine mz (sr fun _ => ?_)
 refine ARun.nilOwn (e := 186) (z := 4) (j := 0) hG rfl ⟨.inl rfl, rfl⟩ (fun _ => rfl) rfl rfl rfl optN ?_
 refine ez ?_
 refine AWP.seq (sr fun _ => ?_)
 refine mv ?_
 refine mv ?_
 refine ez ?_
 refine AWP.block ?_
 refine AWP.roundsO (fun ks => ks.1 ≤ n.toNat ∧ okQ ks.2.1 ∧ qTimes pf (n.toNat - ks.1) ks.2.1 ks.2.2.1 = qTimes pf n.toNat st [] ∧ ks.2.2.1.length = ks.1) (fun ks => [(0, .box q 0), (2, .fn (.func F) [] (cs p q)), (7, .own (m + 0) ks.2.2.2), (8, .int .i64 n), (9, .int .i64 (ks.1 : Int))]) (fun ks => prG H p q ks.2.1) (fun ks => [.row ks.2.2.2 186 4 (ks.2.2.1.map aIm)]) (fun ks => n.toNat - ks.1) 1 ((0, st, [], 0) : Nat × Qs × List Im × Nat) ⟨Nat.zero_le _, h, rfl, rfl⟩ (by repeat (first | exact .nil | refine .cons rfl ?_)) rfl rfl (fun _ => rfl) (fun _ => ⟨fun pr hpr => by simp only [List.mem_cons, List.not_mem_nil, or_false] at hpr; rcases hpr with rfl | rfl | rfl | rfl | rfl; exact .box _ _ (by omega); exact .fn _ _ _ (fun x hx => by cases hx) (fun x hx => hncs p q _ (by omega) (by omega) x hx); exact .own _ _ (by omega); exact .int _ _; exact .int _ _, fun o ho x hx => by rw [List.mem_singleton.1 ho] at hx; exact rows_noH aIm nh_Im _ _ _ _ _ x hx⟩) (fun ks hI hG => ?_)
 obtain ⟨k, s, acc, g⟩ := ks
 dsimp only at hI
 show AWP _ _ _ _ _ [(0, .box q 0), (2, .fn (.func F) [] (cs p q)), (7, .own (m + 0) g), (8, .int .i64 n), (9, .int .i64 (k : Int))] (prG H p q s) [.row g 186 4 (acc.map aIm)]
 replace hG : GOK _ (prG H p q s) := hG
 obtain ⟨hk, hs, heq, hacc⟩ := hI
 refine sr fun _ => ?_
 refine ρ6 ?_
 refine ez ?_
 refine AWP.seq ?_
 refine ρo (fun h0 => ?_) (fun h0 => ?_)
 · replace h0 : k < n.toNat := by simp at h0; omega
   obtain ⟨j, hj⟩ : ∃ j, n.toNat - k = j + 1 := ⟨n.toNat - k - 1, by omega⟩
   rw [hj] at heq
   refine AWP.skip (thenA_n ?_)
   refine AWP.seq (AWP.block (AWP.seq ?_))
   refine sr fun _ => ?_
   refine mv ?_
   first | refine ρw ?_ | refine ρx ?_ | refine ρz (atQ hq) ?_
   refine ρn (fo := 0) U107 sz74 (atQ hq) ?_
   refine ρA U74 (atQ hq) ?_
   refine ARun.callR rfl rfl rfl rfl cf20 (ep rfl) (.cons (ep rfl) .nil) rfl (fun hg => FnM.keep (rdone_fn s.1) (atP hp hpq)) optN ?_
   refine ρr U28 ?_
   refine ez ?_
   refine ρo (fun h1 => ?_) (fun h1 => ?_)
   · have he : s.1.e ≠ 0 := by simpa [errOf_none] using h1
     have hres : qTimes pf n.toNat st [] = ([], s) := by rw [← heq, qTimes, if_pos he]
     refine sr fun _ => ?_
     refine mz ?_
     refine AWP.ret (thenA_r ?_)
     refine blockA_r (thenA_r ?_)
     refine thenA_r (blockA_r (thenA_r ?_))
     refine endF.toG (congrArg (prG H p q) (by rw [hres])) ?_
     refine ρC ?_ (hn := by rw [prG_len]; exact hN)
     rw [hres]; rfl
   have he : s.1.e = 0 := by simpa [errOf_none] using h1
   have hres : qTimes pf j (pf s).2 (acc ++ [(pf s).1]) = qTimes pf n.toNat st [] := by rw [← heq, qTimes, if_neg (by omega)]
   refine AWP.skip (thenA_n ?_)
   refine AWP.region (fun _ => ?_)
   refine mv ?_
   refine mv ?_
   refine ARun.callQ hp hq hpq hG rfl rfl rfl rfl hcf (ep rfl) .nil (hof s hs) rfl optN (fun hG => ?_)
   refine ρy U59 sz186 zv186 ?_
   refine ARun.appendL hG rfl rfl rfl rfl U59 ti186 rfl (by decide) (ep rfl) (ep rfl) rfl rfl (by rw [List.length_map, hacc]; simp [maxLen]; omega) (by rw [List.length_map, hacc]; simp; omega) (acc_snoc aIm acc (pf s).1) optN rfl ?_
   refine ma ?_
   refine ⟨_, _, rfl, hG, ?_⟩
   refine blockA_n (thenA_n ?_)
   refine AWP.region (fun _ => ?_)
   first | refine ρd ?_ | refine ρg ?_
   refine mv ?_
   refine ⟨_, _, rfl, hG, ?_⟩
   refine thenA_n ⟨(k + 1, (pf s).2, acc ++ [(pf s).1], g + 1), _, ?_, ?_, ?_, rfl, ?_⟩
   · rfl
   · exact ⟨by dsimp only; omega, hok _ hs, by dsimp only; rw [show n.toNat - (k + 1) = j by omega]; exact hres, by dsimp only; rw [List.length_append, hacc]; rfl⟩
   · repeat (first | exact .nil | refine .cons rfl ?_)
   dsimp only; omega
 obtain rfl : k = n.toNat := by simp at h0; omega
 rw [Nat.sub_self] at heq
 refine AWP.exit ?_
 refine thenA_x ?_
 refine thenA_x ?_
 refine blockA_h ?_
 refine thenA_n (AWP.seq ?_)
 refine AWP.frzOwn 7 hG rfl rfl (by decide) (by rw [List.length_map, hacc]; simp [maxLen]; omega) rfl ?_
 refine AWP.region (fun _ => ?_)
 refine mv ?_
 refine mz ?_
 refine AWP.ret ?_
 refine endF.toG (congrArg (prG H p q) (by rw [← heq]; rfl)) ?_
 refine ρC ?_ (hn := by rw [prG_len]; exact hN)
 rw [← heq]; rfl
theorem timesSs_fn (F : Nat) (cs : Nat → Nat → List AV) (pf : Qs → Ss × Qs) (n : Int) (st : Qs) (h : okQ st) (hn : 0 ≤ n ∧ n ≤ 1000) (hcf : ∀ (vs : Array Value) (W : World), (callFunc F vs).run Tryz.prog W = .ok (.enter F vs) W) (hncs : ∀ p q m, p < m → q < m → ∀ x, x ∈ cs p q → NoH m x) (hok : ∀ st, okQ st → okQ (pf st).2) (hof : ∀ st, okQ st → FnQ Tryz.prog F cs st (aSs (pf st).1) (pf st).2) : FnQ Tryz.prog 119 (fun p q => [.box q 0, .int .i64 n, .fn (.func F) [] (cs p q)]) (st) (.sl ((qTimes pf n.toNat st []).1.map aSs)) ((qTimes pf n.toNat st []).2) := by
 refine FnQ.of Tryz.func119 rfl rfl (fun p q => by simp) (fun H p q m hHm hp hq hpq hG => ?_)
 have hN : NoH H.length (.sl ((qTimes pf n.toNat st []).1.map aSs)) := (sl_noH nh_Ss _ _)
 refine sr fun _ => ?_
 refine mz (sr fun _ => ?_)
 refine ARun.nilOwn (e := 188) (z := 3) (j := 0) hG rfl ⟨.inl rfl, rfl⟩ (fun _ => rfl) rfl rfl rfl optN ?_
 refine ez ?_
 refine AWP.seq (sr fun _ => ?_)
 refine mv ?_
 refine mv ?_
 refine ez ?_
 refine AWP.block ?_
 refine AWP.roundsO (fun ks => ks.1 ≤ n.toNat ∧ okQ ks.2.1 ∧ qTimes pf (n.toNat - ks.1) ks.2.1 ks.2.2.1 = qTimes pf n.toNat st [] ∧ ks.2.2.1.length = ks.1) (fun ks => [(0, .box q 0), (2, .fn (.func F) [] (cs p q)), (7, .own (m + 0) ks.2.2.2), (8, .int .i64 n), (9, .int .i64 (ks.1 : Int))]) (fun ks => prG H p q ks.2.1) (fun ks => [.row ks.2.2.2 188 3 (ks.2.2.1.map aSs)]) (fun ks => n.toNat - ks.1) 1 ((0, st, [], 0) : Nat × Qs × List Ss × Nat) ⟨Nat.zero_le _, h, rfl, rfl⟩ (by repeat (first | exact .nil | refine .cons rfl ?_)) rfl rfl (fun _ => rfl) (fun _ => ⟨fun pr hpr => by simp only [List.mem_cons, List.not_mem_nil, or_false] at hpr; rcases hpr with rfl | rfl | rfl | rfl | rfl; exact .box _ _ (by omega); exact .fn _ _ _ (fun x hx => by cases hx) (fun x hx => hncs p q _ (by omega) (by omega) x hx); exact .own _ _ (by omega); exact .int _ _; exact .int _ _, fun o ho x hx => by rw [List.mem_singleton.1 ho] at hx; exact rows_noH aSs nh_Ss _ _ _ _ _ x hx⟩) (fun ks hI hG => ?_)
 obtain ⟨k, s, acc, g⟩ := ks
 dsimp only at hI
 show AWP _ _ _ _ _ [(0, .box q 0), (2, .fn (.func F) [] (cs p q)), (7, .own (m + 0) g), (8, .int .i64 n), (9, .int .i64 (k : Int))] (prG H p q s) [.row g 188 3 (acc.map aSs)]
 replace hG : GOK _ (prG H p q s) := hG
 obtain ⟨hk, hs, heq, hacc⟩ := hI
 refine sr fun _ => ?_
 refine ρ6 ?_
 refine ez ?_
 refine AWP.seq ?_
 refine ρo (fun h0 => ?_) (fun h0 => ?_)
 · replace h0 : k < n.toNat := by simp at h0; omega
   obtain ⟨j, hj⟩ : ∃ j, n.toNat - k = j + 1 := ⟨n.toNat - k - 1, by omega⟩
   rw [hj] at heq
   refine AWP.skip (thenA_n ?_)
   refine AWP.seq (AWP.block (AWP.seq ?_))
   refine sr fun _ => ?_
   refine mv ?_
   first | refine ρw ?_ | refine ρx ?_ | refine ρz (atQ hq) ?_
   refine ρn (fo := 0) U107 sz74 (atQ hq) ?_
   refine ρA U74 (atQ hq) ?_
   refine ARun.callR rfl rfl rfl rfl cf20 (ep rfl) (.cons (ep rfl) .nil) rfl (fun hg => FnM.keep (rdone_fn s.1) (atP hp hpq)) optN ?_
   refine ρr U28 ?_
   refine ez ?_
   refine ρo (fun h1 => ?_) (fun h1 => ?_)
   · have he : s.1.e ≠ 0 := by simpa [errOf_none] using h1
     have hres : qTimes pf n.toNat st [] = ([], s) := by rw [← heq, qTimes, if_pos he]
     refine sr fun _ => ?_
     refine mz ?_
     refine AWP.ret (thenA_r ?_)
     refine blockA_r (thenA_r ?_)
     refine thenA_r (blockA_r (thenA_r ?_))
     refine endF.toG (congrArg (prG H p q) (by rw [hres])) ?_
     refine ρC ?_ (hn := by rw [prG_len]; exact hN)
     rw [hres]; rfl
   have he : s.1.e = 0 := by simpa [errOf_none] using h1
   have hres : qTimes pf j (pf s).2 (acc ++ [(pf s).1]) = qTimes pf n.toNat st [] := by rw [← heq, qTimes, if_neg (by omega)]
   refine AWP.skip (thenA_n ?_)
   refine AWP.region (fun _ => ?_)
   refine mv ?_
   refine mv ?_
   refine ARun.callQ hp hq hpq hG rfl rfl rfl rfl hcf (ep rfl) .nil (hof s hs) rfl optN (fun hG => ?_)
   refine ρy U60 sz188 zv188 ?_
   refine ARun.appendL hG rfl rfl rfl rfl U60 ti188 rfl (by decide) (ep rfl) (ep rfl) rfl rfl (by rw [List.length_map, hacc]; simp [maxLen]; omega) (by rw [List.length_map, hacc]; simp; omega) (acc_snoc aSs acc (pf s).1) optN rfl ?_
   refine ma ?_
   refine ⟨_, _, rfl, hG, ?_⟩
   refine blockA_n (thenA_n ?_)
   refine AWP.region (fun _ => ?_)
   first | refine ρd ?_ | refine ρg ?_
   refine mv ?_
   refine ⟨_, _, rfl, hG, ?_⟩
   refine thenA_n ⟨(k + 1, (pf s).2, acc ++ [(pf s).1], g + 1), _, ?_, ?_, ?_, rfl, ?_⟩
   · rfl
   · exact ⟨by dsimp only; omega, hok _ hs, by dsimp only; rw [show n.toNat - (k + 1) = j by omega]; exact hres, by dsimp only; rw [List.length_append, hacc]; rfl⟩
   · repeat (first | exact .nil | refine .cons rfl ?_)
   dsimp only; omega
 obtain rfl : k = n.toNat := by simp at h0; omega
 rw [Nat.sub_self] at heq
 refine AWP.exit ?_
 refine thenA_x ?_
 refine thenA_x ?_
 refine blockA_h ?_
 refine thenA_n (AWP.seq ?_)
 refine AWP.frzOwn 7 hG rfl rfl (by decide) (by rw [List.length_map, hacc]; simp [maxLen]; omega) rfl ?_
 refine AWP.region (fun _ => ?_)
 refine mv ?_
 refine mz ?_
 refine AWP.ret ?_
 refine endF.toG (congrArg (prG H p q) (by rw [← heq]; rfl)) ?_
 refine ρC ?_ (hn := by rw [prG_len]; exact hN)
 rw [← heq]; rfl
end Go.Proofs.YtnlpojjfkgnhhaaGreatDoor
namespace Go.Proofs.YtnlpojjfkgnhhaaGreatDoor
open Go.RowKit
open NumP
theorem times_okQ {α : Type} {pf : Qs → α × Qs} (hok : ∀ st, okQ st → okQ (pf st).2) : ∀ (n : Nat) (st : Qs) (acc : List α), okQ st → okQ (qTimes pf n st acc).2 := by
 intro n
 induction n with
 | zero => intro st acc h; exact h
 | succ n ih =>
   intro st acc h
   unfold qTimes
   split
   · exact h
   exact ih _ _ (hok _ h)
theorem entryC_fn (st : Qs) (h : okQ st) : FnQ Tryz.prog 114 (fun p q => [.pe [.fn (.func 74) [.box q 0] []], .pe [.box q 0]]) (st) (aEn (qEntry st).1) ((qEntry st).2) := by
 refine FnQ.of Tryz.func114 rfl rfl (fun p q => by simp) (fun H p q m hHm hp hq hpq hG => ?_)
 have hN : NoH H.length (aEn (qEntry st).1) := (by simp [AV.cells, aIn, aOut, aAt, aMg, aEv, aRc, aRn, aAk, aKn, aEn, aQu, aIm, aSs, aRep])
 refine sr fun _ => ?_
 refine ρp (j := 0) zv178 ?_
 refine ez ?_
 refine AWP.seq ?_
 refine AWP.draw mixed (by kernel_rfl) (fun _ => ?_)
 refine ρ2 U126 ?_
 refine ARun.callQ hp hq hpq hG rfl rfl rfl rfl cf74 (ep rfl) .nil (numK st h 0) rfl optN (fun hG => ?_)
 refine ρ2 U126 ?_
 refine ARun.callQ hp hq hpq hG rfl rfl rfl rfl cf74 (ep rfl) .nil (numK st h 1) rfl optN (fun hG => ?_)
 refine ρ2 U126 ?_
 refine ARun.callQ hp hq hpq hG rfl rfl rfl rfl cf74 (ep rfl) .nil (numK st h 2) rfl optN (fun hG => ?_)
 refine ρ2 U126 ?_
 refine ARun.callQ hp hq hpq hG rfl rfl rfl rfl cf74 (ep rfl) .nil (numK st h 3) rfl optN (fun hG => ?_)
 refine ρ2 U126 ?_
 refine ARun.callQ hp hq hpq hG rfl rfl rfl rfl cf74 (ep rfl) .nil (numK st h 4) rfl optN (fun hG => ?_)
 refine ρ2 U126 ?_
 refine ARun.callQ hp hq hpq hG rfl rfl rfl rfl cf74 (ep rfl) .nil (numK st h 5) rfl optN (fun hG => ?_)
 refine ρ2 U126 ?_
 refine ARun.callQ hp hq hpq hG rfl rfl rfl rfl cf74 (ep rfl) .nil (numK st h 6) rfl optN (fun hG => ?_)
 refine ρ2 U126 ?_
 refine ARun.callQ hp hq hpq hG rfl rfl rfl rfl cf74 (ep rfl) .nil (numK st h 7) rfl optN (fun hG => ?_)
 refine ARun.build rfl rfl rfl rfl so178 (.cons (ep rfl) (.cons (ep rfl) (.cons (ep rfl) (.cons (ep rfl) (.cons (ep rfl) (.cons (ep rfl) (.cons (ep rfl) (.cons (ep rfl) .nil)))))))) rfl (show _ = some [.int .i64 (valQ st 0), .int .i64 (valQ st 1), .int .i64 (valQ st 2), .int .i64 (valQ st 3), .int .i64 (valQ st 4), .int .i64 (valQ st 5), .int .i64 (valQ st 6), .int .i64 (valQ st 7), .str ⟨#[]⟩, .sl []] from by kernel_rfl) optN ?_
 refine ρp (j := 1) zv178 ?_
 refine ρ8 sz178 ?_
 refine ⟨by kernel_rfl, _, _, rfl, hG, ?_⟩
 refine thenA_n (sr fun _ => ?_)
 refine ρ2 U105 ?_
 first | refine ρw ?_ | refine ρx ?_ | refine ρz (atQ hq) ?_
 refine ρn (fo := 0) U107 sz74 (atQ hq) ?_
 refine ρA U74 (atQ hq) ?_
 refine ARun.callQ hp hq hpq hG rfl rfl rfl rfl cf31 (ep rfl) (.cons (ep rfl) (.cons (ep rfl) .nil)) (FnQ.ofM (text_r (numsQ st 8).1 300 (okQ_nums h 8)) (numsQ st 8).2) rfl optN (fun hG => ?_)
 refine ρe (fo := 8) U178 sz9 ?_
 refine ρc sz9 (show _ = [.int .i64 (valQ st 0), .int .i64 (valQ st 1), .int .i64 (valQ st 2), .int .i64 (valQ st 3), .int .i64 (valQ st 4), .int .i64 (valQ st 5), .int .i64 (valQ st 6), .int .i64 (valQ st 7), .str (qText (numsQ st 8)).1, .sl []] from rfl) ?_
 refine ez (sr fun _ => ?_)
 refine ρ2 U105 ?_
 refine ARun.callQ hp hq hpq hG rfl rfl rfl rfl cf115 (ep rfl) (.cons (ep rfl) (.cons (ep rfl) (.cons (ep rfl) .nil))) (groupsAk_fn 116 6 mkAk (qText (numsQ st 8)).2 (okQ_text (okQ_nums h 8)) (by omega) cf116 (fun l hl => anAck_fn l hl)) rfl optN (fun hG => ?_)
 refine ρe (fo := 9) U178 sz176 ?_
 refine ρc sz176 (show _ = [.int .i64 (valQ st 0), .int .i64 (valQ st 1), .int .i64 (valQ st 2), .int .i64 (valQ st 3), .int .i64 (valQ st 4), .int .i64 (valQ st 5), .int .i64 (valQ st 6), .int .i64 (valQ st 7), .str (qText (numsQ st 8)).1, .sl ((qGroups 6 mkAk (qText (numsQ st 8)).2).1.map aAk)] from rfl) ?_
 refine ez (sr fun _ => ?_)
 refine ρs U178 sz178 ?_
 refine ρ8 sz178 ?_
 refine ez ?_
 refine AWP.ret ?_
 refine endF.toG (congrArg (prG H p q) rfl) ?_
 refine endF.one (.inr rfl) rfl (.cellA rfl ((hG.at _ _).trans rfl) U178 rfl sz178 rfl rfl) ?_ (by rw [prG_len]; exact hN)
 rfl
theorem sessC_fn (st : Qs) (h : okQ st) : FnQ Tryz.prog 120 (fun p q => [.pe [.fn (.func 74) [.box q 0] []], .pe [.box q 0]]) (st) (aSs (qSess st).1) ((qSess st).2) := by
 refine FnQ.of Tryz.func120 rfl rfl (fun p q => by simp) (fun H p q m hHm hp hq hpq hG => ?_)
 have hN : NoH H.length (aSs (qSess st).1) := (by simp [AV.cells, aIn, aOut, aAt, aMg, aEv, aRc, aRn, aAk, aKn, aEn, aQu, aIm, aSs, aRep])
 refine sr fun _ => ?_
 refine ρp (j := 0) zv188 ?_
 refine ez ?_
 refine AWP.seq ?_
 refine AWP.drawO mixed (by kernel_rfl) (fun _ => ?_)
 refine ρ2 U126 ?_
 refine ARun.callQI hp hq hpq hG rfl rfl rfl rfl cf74 (ep rfl) .nil (numK st h 0) rfl optN (fun hG => ?_)
 refine ρ2 U126 ?_
 refine ARun.callQI hp hq hpq hG rfl rfl rfl rfl cf74 (ep rfl) .nil (numK st h 1) rfl optN (fun hG => ?_)
 refine ρ2 U105 ?_
 first | refine ρw ?_ | refine ρx ?_ | refine ρz (atQ hq) ?_
 refine ρn (fo := 0) U107 sz74 (atQ hq) ?_
 refine ARun.loadQI hq rfl rfl rfl rfl U74 rfl (ep rfl) optN ?_
 refine ARun.callQI hp hq hpq hG rfl rfl rfl rfl cf31 (ep rfl) (.cons (ep rfl) (.cons (ep rfl) .nil)) (FnQ.ofM (text_r (numsQ st 2).1 300 (okQ_nums h 2)) (numsQ st 2).2) rfl optN (fun hG => ?_)
 refine ARun.build rfl rfl rfl rfl so188 (.cons (ep rfl) (.cons (ep rfl) (.cons (ep rfl) .nil))) rfl (show _ = some [.int .i64 (valQ st 0), .int .i64 (valQ st 1), .str (qText (numsQ st 2)).1] from rfl) optN ?_
 refine ARun.wiOf (H1 := prG H p q (qSess st).2 ++ [.box [.int .i64 (valQ st 0), .int .i64 (valQ st 1), .str (qText (numsQ st 2)).1]]) (by refine ρ8 sz188 ⟨rfl, rfl⟩) (hd1_last _ rfl) ?_
 refine ⟨⟨by kernel_rfl, fun q c hq => by simp at hq⟩, _, _, rfl, hG, ?_⟩
 refine thenA_n (AWP.ret ?_)
 refine endF.toG (congrArg (prG H p q) rfl) ?_
 refine endF.one (.inr rfl) rfl (.cellA rfl ((hG.at _ _).trans rfl) U188 rfl sz188 rfl rfl) ?_ (by rw [prG_len]; exact hN)
 rfl
theorem commandsQ_fn (st : Qs) (h : okQ st) : FnQ Tryz.prog 75 (fun p q => [.box q 0]) (st) (.sl ((qMany qEntry st).1.map aEn)) ((qMany qEntry st).2) := by
 refine FnQ.of Tryz.func75 rfl rfl (fun p q => by simp) (fun H p q m hHm hp hq hpq hG => ?_)
 have hN : NoH H.length (.sl ((qMany qEntry st).1.map aEn)) := (sl_noH nh_En _ _)
 refine sr fun _ => ?_
 refine ARun.boxPe1 rfl rfl rfl rfl (ep rfl) (by first | rfl | exact aEr_one _ | exact aFl_one _) optN ?_
 refine mz (sr fun _ => ?_)
 refine ρ2 U105 ?_
 refine ARun.makeFunc rfl rfl rfl rfl (.cons (ep rfl) .nil) .nil optN ?_
 refine ρp (j := 0) zv126 ?_
 refine ARun.storeL1 hG rfl rfl rfl sz126 (ep rfl) (ep rfl) rfl (by first | rfl | exact aEr_one _ | exact aFl_one _) (Nat.le_of_ble_eq_true rfl) rfl rfl ?_
 refine ez ?_
 refine AWP.seq ?_
 refine AWP.frzBox 3 hG rfl rfl rfl ?_
 refine AWP.draw mixed (by kernel_rfl) (fun _ => ?_)
 refine ρ2 U105 ?_
 refine ρ2 U105 ?_
 first | refine ρw ?_ | refine ρx ?_ | refine ρz (atQ hq) ?_
 refine ρn (fo := 0) U107 sz74 (atQ hq) ?_
 refine ρA U74 (atQ hq) ?_
 refine ARun.callQ hp hq hpq hG rfl rfl rfl rfl cf30 (ep rfl) (.cons (ep rfl) (.cons (ep rfl) .nil)) (FnQ.ofM (num_r st.1 1000 h) st.2) rfl optN (fun hG => ?_)
 refine ARun.makeFunc rfl rfl rfl rfl .nil (.cons (ep rfl) (.cons (ep rfl) .nil)) optN ?_
 refine ARun.callQ hp hq hpq hG rfl rfl rfl rfl cf113 (ep rfl) (.cons (ep rfl) (.cons (ep rfl) (.cons (ep rfl) .nil))) (timesEn_fn 114 (fun p q => [.pe [.fn (.func 74) [.box q 0] []], .pe [.box q 0]]) qEntry (qNumM st 1000).1 (qNumM st 1000).2 (okQ_num h 1000) (num_nonneg h 1000 (by omega)) cf114 (fun p q m hp hq x hx => by simp only [List.mem_cons, List.not_mem_nil, or_false] at hx; rcases hx with rfl | rfl <;> simp [hq]) (fun _ => entry_ok) (fun s hs => entryC_fn s hs)) rfl optN (fun hG => ?_)
 refine ma ?_
 refine ⟨by kernel_rfl, _, _, rfl, hG, ?_⟩
 refine thenA_n (AWP.ret ?_)
 refine endF.toG (congrArg (prG H p q) rfl) ?_
 refine ρC ?_ (hn := by rw [prG_len]; exact hN)
 rfl
theorem storeQ_fn (st : Qs) (h : okQ st) : FnQ Tryz.prog 86 (fun p q => [.box q 0]) (st) (.agg [.sl ((qMany qItem st).1.map aIm), .sl ((qMany qSess (qMany qItem st).2).1.map aSs)]) ((qMany qSess (qMany qItem st).2).2) := by
 have h2 : okQ (qMany qItem st).2 := times_okQ (pf := qItem) (fun _ hr => okQ_nums hr 4) _ _ _ (okQ_num h 1000)
 refine FnQ.of Tryz.func86 rfl rfl (fun p q => by simp) (fun H p q m hHm hp hq hpq hG => ?_)
 have hN : NoH H.length (.agg [.sl ((qMany qItem st).1.map aIm), .sl ((qMany qSess (qMany qItem st).2).1.map aSs)]) := (by simp [AV.cells, aIm, aSs])
 refine sr fun _ => ?_
 refine ARun.boxPe1 rfl rfl rfl rfl (ep rfl) (by first | rfl | exact aEr_one _ | exact aFl_one _) optN ?_
 refine ρp (j := 0) zv62 ?_
 refine ez (sr fun _ => ?_)
 refine ρ2 U105 ?_
 refine ARun.makeFunc rfl rfl rfl rfl (.cons (ep rfl) .nil) .nil optN ?_
 refine ρp (j := 1) zv126 ?_
 refine ARun.storeL1 hG rfl rfl rfl sz126 (ep rfl) (ep rfl) rfl (by first | rfl | exact aEr_one _ | exact aFl_one _) (Nat.le_of_ble_eq_true rfl) rfl rfl ?_
 refine ez ?_
 refine AWP.seq ?_
 refine AWP.frzBox 3 hG rfl rfl rfl ?_
 refine AWP.region (fun _ => ?_)
 refine ρp (j := 2) zv62 ?_
 refine ez ?_
 refine AWP.seq ?_
 refine AWP.draw mixed (by kernel_rfl) (fun _ => ?_)
 refine ρ2 U105 ?_
 refine ρ2 U105 ?_
 first | refine ρw ?_ | refine ρx ?_ | refine ρz (atQ hq) ?_
 refine ρn (fo := 0) U107 sz74 (atQ hq) ?_
 refine ρA U74 (atQ hq) ?_
 refine ARun.callQ hp hq hpq hG rfl rfl rfl rfl cf30 (ep rfl) (.cons (ep rfl) (.cons (ep rfl) .nil)) (FnQ.ofM (num_r st.1 1000 h) st.2) rfl optN (fun hG => ?_)
 refine ARun.makeFunc rfl rfl rfl rfl .nil (.cons (ep rfl) .nil) optN ?_
 refine ARun.callQ hp hq hpq hG rfl rfl rfl rfl cf117 (ep rfl) (.cons (ep rfl) (.cons (ep rfl) (.cons (ep rfl) .nil))) (timesIm_fn 118 (fun p q => [.pe [.fn (.func 74) [.box q 0] []]]) qItem (qNumM st 1000).1 (qNumM st 1000).2 (okQ_num h 1000) (num_nonneg h 1000 (by omega)) cf118 (fun p q m hp hq x hx => by simp only [List.mem_cons, List.not_mem_nil, or_false] at hx; subst hx; simp [hq]) (fun _ hr => okQ_nums hr 4) (fun s hs => itemC_fn s hs)) rfl optN (fun hG => ?_)
 refine ρe (fo := 0) U62 sz59 ?_
 refine ρc sz59 (show _ = [.sl ((qMany qItem st).1.map aIm), .sl []] from rfl) ?_
 refine ⟨by kernel_rfl, _, _, rfl, hG, ?_⟩
 refine thenA_n (AWP.seq ?_)
 refine AWP.draw mixed (by kernel_rfl) (fun _ => ?_)
 refine ρ2 U105 ?_
 refine ρ2 U105 ?_
 first | refine ρw ?_ | refine ρx ?_ | refine ρz (atQ hq) ?_
 refine ρn (fo := 0) U107 sz74 (atQ hq) ?_
 refine ρA U74 (atQ hq) ?_
 refine ARun.callQ hp hq hpq hG rfl rfl rfl rfl cf30 (ep rfl) (.cons (ep rfl) (.cons (ep rfl) .nil)) (FnQ.ofM (num_r (qMany qItem st).2.1 1000 h2) (qMany qItem st).2.2) rfl optN (fun hG => ?_)
 refine ARun.makeFunc rfl rfl rfl rfl .nil (.cons (ep rfl) (.cons (ep rfl) .nil)) optN ?_
 refine ARun.callQ hp hq hpq hG rfl rfl rfl rfl cf119 (ep rfl) (.cons (ep rfl) (.cons (ep rfl) (.cons (ep rfl) .nil))) (timesSs_fn 120 (fun p q => [.pe [.fn (.func 74) [.box q 0] []], .pe [.box q 0]]) qSess (qNumM (qMany qItem st).2 1000).1 (qNumM (qMany qItem st).2 1000).2 (okQ_num h2 1000) (num_nonneg h2 1000 (by omega)) cf120 (fun p q m hp hq x hx => by simp only [List.mem_cons, List.not_mem_nil, or_false] at hx; rcases hx with rfl | rfl <;> simp [hq]) (fun _ hr => okQ_text (okQ_nums hr 2)) (fun s hs => sessC_fn s hs)) rfl optN (fun hG => ?_)
 refine ρe (fo := 1) U62 sz60 ?_
 refine ρc sz60 (show _ = [.sl ((qMany qItem st).1.map aIm), .sl ((qMany qSess (qMany qItem st).2).1.map aSs)] from rfl) ?_
 refine ⟨by kernel_rfl, _, _, rfl, hG, ?_⟩
 refine thenA_n (sr fun _ => ?_)
 refine ρs U62 sz62 ?_
 refine ρ8 sz62 ?_
 refine ez ?_
 refine AWP.ret ?_
 refine endF.toG (congrArg (prG H p q) rfl) ?_
 refine endF.one (.inr rfl) rfl (.cellA rfl ((hG.at _ _).trans rfl) U62 rfl sz62 rfl rfl) ?_ (by rw [prG_len]; exact hN)
 rfl
set_option maxHeartbeats 8000000 in
theorem allQ_fn (st : Qs) (h : okQ st) : FnQ Tryz.prog 40 (fun p q => [.box q 0]) (st) (aRep (allQ st)) ((imS st).2) := by
 have hn : okQ (imN st).2 := okQ_num h 9
 have hN9 : 0 ≤ (imN st).1 ∧ (imN st).1 ≤ 1000 := ⟨(num_nonneg h 9 (by omega)).1, Int.le_trans (num_nonneg h 9 (by omega)).2 (by decide)⟩
 have h9 : okQ (im9 st) := okQ_nums hn 9
 have hE : okQ (imE st).2 := times_okQ (pf := qEntry) (fun _ => entry_ok) _ _ _ (okQ_num h9 1000)
 have hO : okQ (imO st).2 := okQ_groups (of := mkAt) hE
 have hK : okQ (imK st).2 := times_okQ (pf := qKnown) (fun _ => known_ok) _ _ _ hO
 have hM : okQ (imM st).2 := times_okQ (pf := qRow) (fun _ => okQ_row) _ _ _ hK
 have hF : okQ (imF st).2 := okQ_row hM
 have hD : okQ (imD st).2 := times_okQ (pf := qGroups 2 mkRn) (fun _ => okQ_groups (of := mkRn)) _ _ _ hF
 refine FnQ.of Tryz.func40 rfl rfl (fun p q => by simp) (fun H p q m hHm hp hq hpq hG => ?_)
 have hN : NoH H.length (aRep (allQ st)) := (by simp [AV.cells, aRep, aEn, aAk, aAt, aKn, aRn, aIm, aSs])
 refine sr fun _ => ?_
 refine ARun.boxPe1 rfl rfl rfl rfl (ep rfl) (by first | rfl | exact aEr_one _ | exact aFl_one _) optN ?_
 refine ρp (j := 0) zv64 ?_
 refine ez (sr fun _ => ?_)
 refine ρ2 U105 ?_
 refine ARun.makeFunc rfl rfl rfl rfl (.cons (ep rfl) .nil) .nil optN ?_
 refine ρp (j := 1) zv126 ?_
 refine ARun.storeL1 hG rfl rfl rfl sz126 (ep rfl) (ep rfl) rfl (by first | rfl | exact aEr_one _ | exact aFl_one _) (Nat.le_of_ble_eq_true rfl) rfl rfl ?_
 refine ez ?_
 refine AWP.seq ?_
 refine AWP.frzBox 3 hG rfl rfl rfl ?_
 refine AWP.draw mixed (by kernel_rfl) (fun _ => ?_)
 refine ρ2 U105 ?_
 first | refine ρw ?_ | refine ρx ?_ | refine ρz (atQ hq) ?_
 refine ρn (fo := 0) U107 sz74 (atQ hq) ?_
 refine ρA U74 (atQ hq) ?_
 refine ARun.callQ hp hq hpq hG rfl rfl rfl rfl cf30 (ep rfl) (.cons (ep rfl) (.cons (ep rfl) .nil)) (FnQ.ofM (num_r st.1 9 h) st.2) rfl optN (fun hG => ?_)
 refine ρ2 U126 ?_
 refine ARun.callQ hp hq hpq hG rfl rfl rfl rfl cf74 (ep rfl) .nil (numK (imN st).2 hn 0) rfl optN (fun hG => ?_)
 refine ρ2 U126 ?_
 refine ARun.callQ hp hq hpq hG rfl rfl rfl rfl cf74 (ep rfl) .nil (numK (imN st).2 hn 1) rfl optN (fun hG => ?_)
 refine ρ2 U126 ?_
 refine ARun.callQ hp hq hpq hG rfl rfl rfl rfl cf74 (ep rfl) .nil (numK (imN st).2 hn 2) rfl optN (fun hG => ?_)
 refine ρ2 U126 ?_
 refine ARun.callQ hp hq hpq hG rfl rfl rfl rfl cf74 (ep rfl) .nil (numK (imN st).2 hn 3) rfl optN (fun hG => ?_)
 refine ρ2 U126 ?_
 refine ARun.callQ hp hq hpq hG rfl rfl rfl rfl cf74 (ep rfl) .nil (numK (imN st).2 hn 4) rfl optN (fun hG => ?_)
 refine ρ2 U126 ?_
 refine ARun.callQ hp hq hpq hG rfl rfl rfl rfl cf74 (ep rfl) .nil (numK (imN st).2 hn 5) rfl optN (fun hG => ?_)
 refine ARun.build rfl rfl rfl rfl so64 (.cons (ep rfl) (.cons (ep rfl) (.cons (ep rfl) (.cons (ep rfl) (.cons (ep rfl) (.cons (ep rfl) (.cons (ep rfl) .nil))))))) rfl (show _ = some [.int .i64 (imN st).1, .int .i64 (valQ (imN st).2 0), .int .i64 (valQ (imN st).2 1), .int .i64 (valQ (imN st).2 2), .int .i64 (valQ (imN st).2 3), .int .i64 (valQ (imN st).2 4), .int .i64 (valQ (imN st).2 5), .sl [], .sl [], .sl [], .sl [], .sl [], .sl [], .int .i64 0, .int .i64 0, .int .i64 0, .sl [], .sl []] from by kernel_rfl) optN ?_
 refine ρp (j := 2) zv64 ?_
 refine ρ8 sz64 ?_
 refine ⟨by kernel_rfl, _, _, rfl, hG, ?_⟩
 refine thenA_n (AWP.seq ?_)
 show AWP _ _ _ _ _ _ _ [.box [.int .i64 0, .int .i64 0, .int .i64 0, .int .i64 0, .int .i64 0, .int .i64 0, .int .i64 0, .sl [], .sl [], .sl [], .sl [], .sl [], .sl [], .int .i64 0, .int .i64 0, .int .i64 0, .sl [], .sl []], .dead, .box [.int .i64 (imN st).1, .int .i64 (valQ (imN st).2 0), .int .i64 (valQ (imN st).2 1), .int .i64 (valQ (imN st).2 2), .int .i64 (valQ (imN st).2 3), .int .i64 (valQ (imN st).2 4), .int .i64 (valQ (imN st).2 5), .sl [], .sl [], .sl [], .sl [], .sl [], .sl [], .int .i64 0, .int .i64 0, .int .i64 0, .sl [], .sl []]]
 refine AWP.draw mixed (by kernel_rfl) (fun _ => ?_)
 refine ρ2 U126 ?_
 refine ARun.callQ hp hq hpq hG rfl rfl rfl rfl cf74 (ep rfl) .nil (numK (imN st).2 hn 6) rfl optN (fun hG => ?_)
 refine ρ2 U126 ?_
 refine ARun.callQ hp hq hpq hG rfl rfl rfl rfl cf74 (ep rfl) .nil (numK (imN st).2 hn 7) rfl optN (fun hG => ?_)
 refine ARun.build rfl rfl rfl rfl so58 (.cons (ep rfl) (.cons (ep rfl) .nil)) rfl rfl optN ?_
 refine ρe (fo := 13) U64 sz58 ?_
 refine ρ8 sz58 ?_
 refine ⟨by kernel_rfl, _, _, rfl, hG, ?_⟩
 refine thenA_n (AWP.seq ?_)
 show AWP _ _ _ _ _ _ _ [.box [.int .i64 0, .int .i64 0, .int .i64 0, .int .i64 0, .int .i64 0, .int .i64 0, .int .i64 0, .sl [], .sl [], .sl [], .sl [], .sl [], .sl [], .int .i64 0, .int .i64 0, .int .i64 0, .sl [], .sl []], .dead, .box [.int .i64 (imN st).1, .int .i64 (valQ (imN st).2 0), .int .i64 (valQ (imN st).2 1), .int .i64 (valQ (imN st).2 2), .int .i64 (valQ (imN st).2 3), .int .i64 (valQ (imN st).2 4), .int .i64 (valQ (imN st).2 5), .sl [], .sl [], .sl [], .sl [], .sl [], .sl [], .int .i64 (valQ (imN st).2 6), .int .i64 (valQ (imN st).2 7), .int .i64 0, .sl [], .sl []]]
 refine AWP.region (fun _ => ?_)
 refine ρ2 U126 ?_
 refine ARun.callQ hp hq hpq hG rfl rfl rfl rfl cf74 (ep rfl) .nil (numK (imN st).2 hn 8) rfl optN (fun hG => ?_)
 refine ρe (fo := 15) U64 sz3 ?_
 refine ρc sz3 (show _ = [.int .i64 (imN st).1, .int .i64 (valQ (imN st).2 0), .int .i64 (valQ (imN st).2 1), .int .i64 (valQ (imN st).2 2), .int .i64 (valQ (imN st).2 3), .int .i64 (valQ (imN st).2 4), .int .i64 (valQ (imN st).2 5), .sl [], .sl [], .sl [], .sl [], .sl [], .sl [], .int .i64 (valQ (imN st).2 6), .int .i64 (valQ (imN st).2 7), .int .i64 (valQ (imN st).2 8), .sl [], .sl []] from rfl) ?_
 refine ez ?_
 refine AWP.seq ?_
 show AWP _ _ _ _ _ _ _ [.box [.int .i64 0, .int .i64 0, .int .i64 0, .int .i64 0, .int .i64 0, .int .i64 0, .int .i64 0, .sl [], .sl [], .sl [], .sl [], .sl [], .sl [], .int .i64 0, .int .i64 0, .int .i64 0, .sl [], .sl []], .dead, .box [.int .i64 (imN st).1, .int .i64 (valQ (imN st).2 0), .int .i64 (valQ (imN st).2 1), .int .i64 (valQ (imN st).2 2), .int .i64 (valQ (imN st).2 3), .int .i64 (valQ (imN st).2 4), .int .i64 (valQ (imN st).2 5), .sl [], .sl [], .sl [], .sl [], .sl [], .sl [], .int .i64 (valQ (imN st).2 6), .int .i64 (valQ (imN st).2 7), .int .i64 (valQ (imN st).2 8), .sl [], .sl []]]
 refine AWP.region (fun _ => ?_)
 refine ρ2 U105 ?_
 refine ARun.callQ hp hq hpq hG rfl rfl rfl rfl cf75 (ep rfl) (.cons (ep rfl) .nil) (commandsQ_fn (im9 st) h9) rfl optN (fun hG => ?_)
 refine ρe (fo := 7) U64 sz53 ?_
 refine ρc sz53 (show _ = [.int .i64 (imN st).1, .int .i64 (valQ (imN st).2 0), .int .i64 (valQ (imN st).2 1), .int .i64 (valQ (imN st).2 2), .int .i64 (valQ (imN st).2 3), .int .i64 (valQ (imN st).2 4), .int .i64 (valQ (imN st).2 5), .sl ((imE st).1.map aEn), .sl [], .sl [], .sl [], .sl [], .sl [], .int .i64 (valQ (imN st).2 6), .int .i64 (valQ (imN st).2 7), .int .i64 (valQ (imN st).2 8), .sl [], .sl []] from rfl) ?_
 refine ez (sr fun _ => ?_)
 refine ρ2 U105 ?_
 refine ARun.callQ hp hq hpq hG rfl rfl rfl rfl cf76 (ep rfl) (.cons (ep rfl) (.cons (ep rfl) (.cons (ep rfl) .nil))) (groupsAt_fn 77 2 mkAt (imE st).2 hE (by omega) cf77 (fun l hl => anAtt_fn l hl)) rfl optN (fun hG => ?_)
 refine ρe (fo := 8) U64 sz23 ?_
 refine ρc sz23 (show _ = [.int .i64 (imN st).1, .int .i64 (valQ (imN st).2 0), .int .i64 (valQ (imN st).2 1), .int .i64 (valQ (imN st).2 2), .int .i64 (valQ (imN st).2 3), .int .i64 (valQ (imN st).2 4), .int .i64 (valQ (imN st).2 5), .sl ((imE st).1.map aEn), .sl ((imO st).1.map aAt), .sl [], .sl [], .sl [], .sl [], .int .i64 (valQ (imN st).2 6), .int .i64 (valQ (imN st).2 7), .int .i64 (valQ (imN st).2 8), .sl [], .sl []] from rfl) ?_
 refine ez (sr fun _ => ?_)
 refine ρ2 U105 ?_
 refine ρe (fo := 0) U64 sz3 ?_
 refine ARun.loadBox rfl rfl rfl rfl U3 rfl (ep rfl) ((hG.at _ _).trans rfl) rfl optN ?_
 refine ARun.makeFunc rfl rfl rfl rfl .nil (.cons (ep rfl) (.cons (ep rfl) .nil)) optN ?_
 refine ARun.callQ hp hq hpq hG rfl rfl rfl rfl cf78 (ep rfl) (.cons (ep rfl) (.cons (ep rfl) (.cons (ep rfl) .nil))) (timesKn_fn 79 (fun p q => [.pe [.fn (.func 74) [.box q 0] []], .pe [.box q 0]]) qKnown (imN st).1 (imO st).2 hO hN9 cf79 (fun p q m hp hq x hx => by simp only [List.mem_cons, List.not_mem_nil, or_false] at hx; rcases hx with rfl | rfl <;> simp [hq]) (fun _ => known_ok) (fun s hs => knownC_fn s hs)) rfl optN (fun hG => ?_)
 refine ρe (fo := 9) U64 sz54 ?_
 refine ρc sz54 (show _ = [.int .i64 (imN st).1, .int .i64 (valQ (imN st).2 0), .int .i64 (valQ (imN st).2 1), .int .i64 (valQ (imN st).2 2), .int .i64 (valQ (imN st).2 3), .int .i64 (valQ (imN st).2 4), .int .i64 (valQ (imN st).2 5), .sl ((imE st).1.map aEn), .sl ((imO st).1.map aAt), .sl ((imK st).1.map aKn), .sl [], .sl [], .sl [], .int .i64 (valQ (imN st).2 6), .int .i64 (valQ (imN st).2 7), .int .i64 (valQ (imN st).2 8), .sl [], .sl []] from rfl) ?_
 refine ez (sr fun _ => ?_)
 refine ρ2 U105 ?_
 refine ρe (fo := 0) U64 sz3 ?_
 refine ARun.loadBox rfl rfl rfl rfl U3 rfl (ep rfl) ((hG.at _ _).trans rfl) rfl optN ?_
 refine ARun.makeFunc rfl rfl rfl rfl .nil (.cons (ep rfl) .nil) optN ?_
 refine ARun.callQ hp hq hpq hG rfl rfl rfl rfl cf82 (ep rfl) (.cons (ep rfl) (.cons (ep rfl) (.cons (ep rfl) .nil))) (timesRow_fn 83 (fun p q => [.pe [.box q 0]]) qRow (imN st).1 (imK st).2 hK hN9 cf83 (fun p q m hp hq x hx => by simp only [List.mem_cons, List.not_mem_nil, or_false] at hx; subst hx; simp [hq]) (fun _ => okQ_row) (fun s hs => rowC_fn s hs)) rfl optN (fun hG => ?_)
 refine ρe (fo := 10) U64 sz55 ?_
 refine ρc sz55 (show _ = [.int .i64 (imN st).1, .int .i64 (valQ (imN st).2 0), .int .i64 (valQ (imN st).2 1), .int .i64 (valQ (imN st).2 2), .int .i64 (valQ (imN st).2 3), .int .i64 (valQ (imN st).2 4), .int .i64 (valQ (imN st).2 5), .sl ((imE st).1.map aEn), .sl ((imO st).1.map aAt), .sl ((imK st).1.map aKn), .sl ((imM st).1.map fun (l : List Int) => AV.sl (l.map (AV.int .i64))), .sl [], .sl [], .int .i64 (valQ (imN st).2 6), .int .i64 (valQ (imN st).2 7), .int .i64 (valQ (imN st).2 8), .sl [], .sl []] from rfl) ?_
 refine ez (sr fun _ => ?_)
 refine ρ2 U105 ?_
 first | refine ρw ?_ | refine ρx ?_ | refine ρz (atQ hq) ?_
 refine ρn (fo := 0) U107 sz74 (atQ hq) ?_
 refine ρA U74 (atQ hq) ?_
 refine ARun.callQ hp hq hpq hG rfl rfl rfl rfl cf36 (ep rfl) (.cons (ep rfl) (.cons (ep rfl) .nil)) (FnQ.ofM (row_r (imM st).2.1 1000 hM) (imM st).2.2) rfl optN (fun hG => ?_)
 refine ρe (fo := 11) U64 sz24 ?_
 refine ρc sz24 (show _ = [.int .i64 (imN st).1, .int .i64 (valQ (imN st).2 0), .int .i64 (valQ (imN st).2 1), .int .i64 (valQ (imN st).2 2), .int .i64 (valQ (imN st).2 3), .int .i64 (valQ (imN st).2 4), .int .i64 (valQ (imN st).2 5), .sl ((imE st).1.map aEn), .sl ((imO st).1.map aAt), .sl ((imK st).1.map aKn), .sl ((imM st).1.map fun (l : List Int) => AV.sl (l.map (AV.int .i64))), .sl ((imF st).1.map (AV.int .i64)), .sl [], .int .i64 (valQ (imN st).2 6), .int .i64 (valQ (imN st).2 7), .int .i64 (valQ (imN st).2 8), .sl [], .sl []] from rfl) ?_
 refine ez (sr fun _ => ?_)
 refine ρ2 U105 ?_
 refine ρe (fo := 0) U64 sz3 ?_
 refine ARun.loadBox rfl rfl rfl rfl U3 rfl (ep rfl) ((hG.at _ _).trans rfl) rfl optN ?_
 refine ARun.makeFunc rfl rfl rfl rfl .nil (.cons (ep rfl) .nil) optN ?_
 refine ARun.callQ hp hq hpq hG rfl rfl rfl rfl cf84 (ep rfl) (.cons (ep rfl) (.cons (ep rfl) (.cons (ep rfl) .nil))) (timesRs_fn 85 (fun p q => [.pe [.box q 0]]) (qGroups 2 mkRn) (imN st).1 (imF st).2 hF hN9 cf85 (fun p q m hp hq x hx => by simp only [List.mem_cons, List.not_mem_nil, or_false] at hx; subst hx; simp [hq]) (fun _ => okQ_groups (of := mkRn)) (fun s hs => rangesC_fn s hs)) rfl optN (fun hG => ?_)
 refine ρe (fo := 12) U64 sz56 ?_
 refine ρc sz56 (show _ = [.int .i64 (imN st).1, .int .i64 (valQ (imN st).2 0), .int .i64 (valQ (imN st).2 1), .int .i64 (valQ (imN st).2 2), .int .i64 (valQ (imN st).2 3), .int .i64 (valQ (imN st).2 4), .int .i64 (valQ (imN st).2 5), .sl ((imE st).1.map aEn), .sl ((imO st).1.map aAt), .sl ((imK st).1.map aKn), .sl ((imM st).1.map fun (l : List Int) => AV.sl (l.map (AV.int .i64))), .sl ((imF st).1.map (AV.int .i64)), .sl ((imD st).1.map fun (l : List Rn) => AV.sl (l.map aRn)), .int .i64 (valQ (imN st).2 6), .int .i64 (valQ (imN st).2 7), .int .i64 (valQ (imN st).2 8), .sl [], .sl []] from rfl) ?_
 refine ez ?_
 refine AWP.seq ?_
 show AWP _ _ _ _ _ _ _ [.box [.int .i64 0, .int .i64 0, .int .i64 0, .int .i64 0, .int .i64 0, .int .i64 0, .int .i64 0, .sl [], .sl [], .sl [], .sl [], .sl [], .sl [], .int .i64 0, .int .i64 0, .int .i64 0, .sl [], .sl []], .dead, .box [.int .i64 (imN st).1, .int .i64 (valQ (imN st).2 0), .int .i64 (valQ (imN st).2 1), .int .i64 (valQ (imN st).2 2), .int .i64 (valQ (imN st).2 3), .int .i64 (valQ (imN st).2 4), .int .i64 (valQ (imN st).2 5), .sl ((imE st).1.map aEn), .sl ((imO st).1.map aAt), .sl ((imK st).1.map aKn), .sl ((imM st).1.map fun (l : List Int) => AV.sl (l.map (AV.int .i64))), .sl ((imF st).1.map (AV.int .i64)), .sl ((imD st).1.map fun (l : List Rn) => AV.sl (l.map aRn)), .int .i64 (valQ (imN st).2 6), .int .i64 (valQ (imN st).2 7), .int .i64 (valQ (imN st).2 8), .sl [], .sl []]]
 refine AWP.region (fun _ => ?_)
 refine ρ2 U105 ?_
 refine ARun.callQ hp hq hpq hG rfl rfl rfl rfl cf86 (ep rfl) (.cons (ep rfl) .nil) (storeQ_fn (imD st).2 hD) rfl optN (fun hG => ?_)
 refine ρe (fo := 16) U64 sz62 ?_
 refine ρ8 sz62 ?_
 refine ez ?_
 refine AWP.seq ?_
 show AWP _ _ _ _ _ _ _ [.box [.int .i64 0, .int .i64 0, .int .i64 0, .int .i64 0, .int .i64 0, .int .i64 0, .int .i64 0, .sl [], .sl [], .sl [], .sl [], .sl [], .sl [], .int .i64 0, .int .i64 0, .int .i64 0, .sl [], .sl []], .dead, .box [.int .i64 (imN st).1, .int .i64 (valQ (imN st).2 0), .int .i64 (valQ (imN st).2 1), .int .i64 (valQ (imN st).2 2), .int .i64 (valQ (imN st).2 3), .int .i64 (valQ (imN st).2 4), .int .i64 (valQ (imN st).2 5), .sl ((imE st).1.map aEn), .sl ((imO st).1.map aAt), .sl ((imK st).1.map aKn), .sl ((imM st).1.map fun (l : List Int) => AV.sl (l.map (AV.int .i64))), .sl ((imF st).1.map (AV.int .i64)), .sl ((imD st).1.map fun (l : List Rn) => AV.sl (l.map aRn)), .int .i64 (valQ (imN st).2 6), .int .i64 (valQ (imN st).2 7), .int .i64 (valQ (imN st).2 8), .sl ((imI st).1.map aIm), .sl ((imS st).1.map aSs)]]
 refine AWP.region (fun _ => ?_)
 refine ρs U64 sz64 ?_
 refine ρ8 sz64 ?_
 refine ez ?_
 refine AWP.ret ?_
 refine endF.toG (congrArg (prG H p q) rfl) ?_
 refine endF.one (.inr rfl) rfl (.cellA rfl ((hG.at _ _).trans rfl) U64 rfl sz64 rfl rfl) ?_ (by rw [prG_len]; exact hN)
 rfl
end Go.Proofs.YtnlpojjfkgnhhaaGreatDoor
