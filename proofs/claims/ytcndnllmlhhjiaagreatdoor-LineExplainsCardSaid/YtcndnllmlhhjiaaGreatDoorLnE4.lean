/- The texts that the law LineExplains rests on, part 4: SessPlain, AmSessA, RecSe, CloneSe, InsertSe, AmSessB, SessPut, AmSessC, SessLaw, BasketPlain, BasketLawP, BasketLawP2, AmStockC, AmBask, ServPlain, AmServ, ServLaw, AmServL, AmMap, LinePlain, AmFn. -/
import Derived.Test.YtcndnllmlhhjiaaGreatDoorLnE3
import Derived.MapKept
import Derived.ChangeMaps4
import Derived.Deep.OwnRows
open Go.Proofs.Tryz renaming underlying3 → U3, underlying9 → U9, underlying22 → U22, underlying23 → U23, underlying25 → U25, underlying27 → U27, underlying40 → U40, underlying75 → U75, underlying82 → U82, underlying84 → U84, underlying93 → U93, underlying96 → U96, underlying108 → U108, underlying127 → U127, underlying240 → U240
set_option linter.unusedVariables false
set_option linter.unusedSimpArgs false
set_option maxRecDepth 100000
set_option maxHeartbeats 1000000
namespace Go.Proofs.YtcndnllmlhhjiaaGreatDoor.SessP
structure Se where
 client : Int
 seq : Int
 reply : ByteArray
deriving DecidableEq
def numB (n : Int) : Bool := decide (1 ≤ n ∧ n ≤ 99999)
def may (s : Se) : Bool := numB s.client && numB s.seq && decide (s.reply.size ≤ 300)
def okFrom : Int → List Se → Bool
 | _, [] => true
 | p, x :: l => may x && decide (p < x.client) && okFrom x.client l
def ok (l : List Se) : Bool := decide (l.length ≤ 20) && okFrom 0 l
def okE (l : List Se) : Int := if ok l = true then 0 else 2
def lastId : Int → List Se → Int
 | p, [] => p
 | _, x :: l => lastId x.client l
theorem okFrom_snoc (l : List Se) (x : Se) : ∀ p, okFrom p (l ++ [x]) = (okFrom p l && (may x && decide (lastId p l < x.client))) := by
 induction l with
 | nil => intro p; simp [okFrom, lastId]; rfl
 | cons y l ih => intro p; simp only [List.cons_append, okFrom, ih, lastId, Bool.and_assoc]; rfl
theorem okFrom_prefix (l m : List Se) : ∀ p, okFrom p (l ++ m) = true → okFrom p l = true := by
 induction l with
 | nil => intro p _; rfl
 | cons y l ih =>
   intro p h
   simp only [List.cons_append, okFrom, Bool.and_eq_true] at h ⊢
   exact ⟨h.1, ih _ h.2⟩
theorem lastId_snoc (l : List Se) (x : Se) : ∀ p, lastId p (l ++ [x]) = x.client := by
 induction l with
 | nil => intro p; rfl
 | cons y l ih => intro p; exact ih y.client
theorem lastId_take (xs : List Se) (k : Nat) (h1 : 1 ≤ k) (h2 : k ≤ xs.length) : lastId 0 (xs.take k) = (xs[k - 1]'(by omega)).client := by
 obtain ⟨j, rfl⟩ : ∃ j, k = j + 1 := ⟨k - 1, by omega⟩
 rw [List.take_succ_eq_append_getElem (by omega), lastId_snoc]
 rfl
theorem okFrom_cut {xs : List Se} {k : Nat} (h : okFrom 0 (xs.take k) = false) : okFrom 0 xs = false := by
 cases h2 : okFrom 0 xs with
 | false => rfl
 | true =>
   rw [← List.take_append_drop k xs] at h2
   rw [okFrom_prefix _ _ _ h2] at h
   exact absurd h (by decide)
end Go.Proofs.YtcndnllmlhhjiaaGreatDoor.SessP
namespace Go.Proofs.YtcndnllmlhhjiaaGreatDoor.Ssn
open Go.RowKit
open SessP
def aSe (s : Se) : AV := .agg [.int .i64 s.client, .int .i64 s.seq, .str s.reply]
instance : Inhabited Se := ⟨⟨0, 0, ⟨#[]⟩⟩⟩
theorem Se_idx {l : List Se} {k : Nat} (h : k < l.length) : l.getD k default = l[k] := by simp [List.getD, h]

theorem number_fn (n : Int) : FnP Tryz.prog 83 [.int .i64 n] (.bool (numB n)) := by
 refine FnP.of Tryz.func83 rfl rfl (by simp) (by simp [AV.cells, aSe]) (fun G hG => ?_)
 have hN : NoH G.length (.bool (numB n)) := (by simp [AV.cells, aSe])
 refine sr fun _ => ?_
 refine mz (sr fun _ => ?_)
 refine mv ?_
 refine ρ1 ?_
 refine mv ?_
 refine ρi ?_
 refine ρf ?_
 refine ρ0 ?_
 refine mz ?_
 refine AWP.ret ?_
 refine ρc ?_
 simp [numB, Bool.decide_and]
theorem may_fn (s : Se) : FnP Tryz.prog 86 [aSe s] (.bool (may s)) := by
 refine FnP.of Tryz.func86 rfl rfl (by simp) (by simp [AV.cells, aSe]) (fun G hG => ?_)
 have hN : NoH G.length (.bool (may s)) := (by simp [AV.cells, aSe])
 refine sr fun _ => ?_
 refine ARun.box (j := 0) hG rfl rfl rfl rfl rfl (ep rfl) rfl rfl optN ?_
 refine mz (sr fun _ => ?_)
 refine ρa (fo := 0) U75 sz3 ?_
 refine ρd U3 ?_
 refine ρj cf83 (fun hg => number_fn _) ?_
 refine mv ?_
 refine ρt (fo := 1) U75 sz3 ?_
 refine ρs U3 ?_
 refine ρn cf83 (fun hg => number_fn _) ?_
 refine ρ0 ?_
 refine mv ?_
 refine ρt (fo := 2) U75 sz9 ?_
 refine ρs U9 ?_
 refine ARun.lenStr rfl rfl rfl rfl U9 (Ev.opt rfl (fun h => h)) optS ?_
 refine ρf ?_
 refine ρ0 ?_
 refine mz ?_
 refine AWP.ret ?_
 refine ρc ?_
 have : ((s.reply.size : Int) ≤ 300) ↔ s.reply.size ≤ 300 := by omega
 simp [may, this]
theorem step_ok (l : List Se) (k : Nat) (hk : k < l.length) : okFrom 0 (l.take (k + 1)) = (okFrom 0 (l.take k) && (may (l.getD k default) && decide (lastId 0 (l.take k) < (l.getD k default).client))) := by
 rw [Se_idx hk, show l.take (k + 1) = l.take k ++ [l[k]] by simp]; exact okFrom_snoc _ _ _
theorem last_of (l : List Se) (k : Nat) (hk : k ≤ l.length) : lastId 0 (l.take k) = if 0 < k then (l.getD (k - 1) default).client else 0 := by
 by_cases h : 0 < k
 · rw [if_pos h, lastId_take l k h hk, Se_idx (by omega)]
 obtain rfl : k = 0 := by omega
 rfl
theorem okE_bad {l : List Se} {k : Nat} (h : okFrom 0 (l.take (k + 1)) = false) : okE l = 2 := by
 unfold okE ok; rw [okFrom_cut h]; simp
theorem okE_big {l : List Se} (h : 20 < l.length) : okE l = 2 := by
 unfold okE ok; rw [decide_eq_false (by omega)]; simp
theorem okE_good {l : List Se} (h : l.length ≤ 20) (h2 : okFrom 0 l = true) : okE l = 0 := by
 unfold okE ok; rw [decide_eq_true h, h2]; simp
theorem chk_bad {l : List Se} {k : Nat} (hk : k < l.length) (h : may (l.getD k default) = false ∨ 0 < k ∧ (l.getD k default).client ≤ (l.getD (k - 1) default).client) : okE l = 2 := by
 refine okE_bad (k := k) ?_
 rw [step_ok l k hk, last_of l k (by omega)]
 rcases h with h | ⟨h, h2⟩
 · rw [h]; simp
 rw [if_pos h, decide_eq_false (by omega)]; simp
theorem may_pos {s : Se} (h : may s = true) : 0 < s.client := by
 unfold may numB at h; simp at h; omega
theorem may_iff {s : Se} : may s = true ↔ (1 ≤ s.client ∧ s.client ≤ 99999) ∧ (1 ≤ s.seq ∧ s.seq ≤ 99999) ∧ (s.reply.size : Int) ≤ 300 := by
 unfold may numB; simp [and_assoc]; omega
theorem chk_go {l : List Se} {k : Nat} (hk : k < l.length) (hok : okFrom 0 (l.take k) = true) (h : may (l.getD k default) = true ∧ (0 < k → (l.getD (k - 1) default).client < (l.getD k default).client)) : okFrom 0 (l.take (k + 1)) = true := by
 rw [step_ok l k hk, last_of l k (by omega), hok, h.1]
 have h1 := may_pos h.1
 by_cases hk0 : 0 < k
 · rw [if_pos hk0, decide_eq_true (h.2 hk0)]; rfl
 rw [if_neg hk0, decide_eq_true h1]; rfl
theorem check_fn (l : List Se) : FnP Tryz.prog 66 [.sl (l.map aSe)] (.int .i64 (okE l)) := by
 refine FnP.of Tryz.func66 rfl rfl (by simp) (by simp [AV.cells, aSe]) (fun G hG => ?_)
 have hN : NoH G.length (.int .i64 (okE l)) := (by simp [AV.cells, aSe])
 refine sr fun _ => ?_
 refine mz ?_
 refine AWP.seq (sr fun _ => ?_)
 refine mv ?_
 refine ρr U23 ?_
 refine ρ1 ?_
 refine ez ?_
 refine ρq (fun h0 => ?_) (fun h0 => ?_)
 · simp [-List.getD_eq_getElem?_getD] at h0
   refine sr fun _ => ?_
   refine mz ?_
   refine AWP.ret (thenA_r ?_)
   refine ρc ?_
   rw [okE_big (by omega)]; rfl
 simp [-List.getD_eq_getElem?_getD] at h0
 refine AWP.skip (thenA_n (AWP.seq (sr fun _ => ?_)))
 refine mv ?_
 refine ρr U23 ?_
 refine mv ?_
 refine ez ?_
 refine AWP.block ?_
 refine AWP.rounds (fun k => k ≤ l.length ∧ okFrom 0 (l.take k) = true) (fun k => [(0, .sl (l.map aSe)), (8, .sl (l.map aSe)), (9, .int .i64 ((l.map aSe).length : Int)), (10, .int .i64 (k : Int))]) (fun k => []) (fun k => l.length - k) 0 0 ⟨by omega, rfl⟩ (by repeat (first | exact .nil | refine .cons rfl ?_)) rfl (fun _ => rfl) (fun _ => (by simp [AO.conts, AV.cells, aSe])) (fun k hI => ?_)
 obtain ⟨hk, hok⟩ := hI
 refine sr fun _ => ?_
 refine ρ1 ?_
 refine ez ?_
 refine AWP.seq ?_
 refine ρq (fun h1 => ?_) (fun h1 => ?_)
 · simp [-List.getD_eq_getElem?_getD] at h1
   refine AWP.skip (thenA_n ?_)
   refine AWP.seq (AWP.block (sr fun _ => ?_))
   refine mv ?_
   first | refine ρ9 U23 sz75 ?_ | refine ρ3 U23 sz75 ?_
   refine ρk U75 sz75 ?_
   refine ρp (j := 0) zv75 ?_
   refine ma ?_
   refine ρ2 sz75 ?_
   refine ez ?_
   refine AWP.seq ?_
   refine AWP.draw mixed (by kernel_rfl) (fun _ => ?_)
   refine ρo U75 sz75 ?_
   refine ρj cf86 (fun hg => may_fn _) ?_
   refine ARun.not rfl rfl rfl rfl (ep rfl) optN ?_
   refine mv ?_
   refine ρi ?_
   refine ρf ?_
   refine ARun.move (.inl rfl) rfl rfl rfl (Ev.opt rfl (fun h => h)) optS ?_
   refine ρt (fo := 0) U75 sz3 ?_
   refine ρs U3 ?_
   refine ρi ?_
   refine ρi ?_
   first | refine ARun.arith rfl rfl rfl rfl (Ev.opt rfl (fun h => h)) (ep rfl) rfl (fun hg => i64w (by (try simp at hg); omega)) optS ?_ | refine ARun.arith rfl rfl rfl rfl (Ev.opt rfl (fun h => h)) (ep rfl) rfl (fun _ => rfl) optS ?_
   first | refine ARun.indexSl rfl rfl rfl rfl U23 sz75 (Ev.opt rfl (fun h => h)) (Ev.opt rfl (fun h => h)) (fun _ => rfl) (fun hg => getMap _ _ _ (by (try simp at hg); omega)) rfl rfl optS ?_ | refine ARun.indexSl rfl rfl rfl rfl U23 sz75 (Ev.opt rfl (fun h => h)) (Ev.opt rfl (fun h => h)) (fun hg => ofNonneg (by (try simp at hg); omega)) (fun hg => getMap _ _ _ (by (try simp at hg); omega)) rfl rfl optS ?_
   refine ARun.fieldPe rfl rfl rfl rfl U75 rfl rfl sz3 (by decide) (Ev.opt rfl (fun h => h)) rfl optS ?_
   refine ρb U3 ?_
   refine ρw ?_
   refine ARun.pick rfl rfl rfl rfl (Ev.opt rfl (fun h => h)) (Ev.opt rfl (by first | exact pkT | exact pkT2 | simp +contextual)) (ep rfl) (andB _ _) optS ?_
   refine ρ8 ?_
   refine ⟨by kernel_rfl, _, _, rfl, hG, ?_⟩
   refine thenA_n ?_
   refine ρq (fun h2 => ?_) (fun h2 => ?_)
   · simp [-List.getD_eq_getElem?_getD] at h2
     refine sr fun _ => ?_
     refine mz ?_
     refine AWP.ret (blockA_r ?_)
     refine thenA_r (thenA_r ?_)
     refine blockA_r (thenA_r ?_)
     refine ρc ?_
     rw [chk_bad h1 h2]; rfl
   simp [-List.getD_eq_getElem?_getD] at h2
   refine AWP.skip (blockA_n (thenA_n ?_))
   refine AWP.region (fun _ => ?_)
   first | refine ρ7 ?_ | refine ρg ?_
   refine mv ?_
   refine ⟨_, _, rfl, hG, ?_⟩
   refine thenA_n ⟨rfl, k + 1, _, ?_, ?_, rfl, ?_⟩
   · exact ⟨by omega, chk_go h1 hok h2⟩
   · repeat (first | exact .nil | refine .cons rfl ?_)
   omega
 simp [-List.getD_eq_getElem?_getD] at h1
 refine AWP.exit ?_
 refine thenA_x ?_
 refine thenA_x ?_
 refine blockA_h ?_
 refine thenA_n (sr fun _ => ?_)
 refine mz ?_
 refine AWP.ret ?_
 refine ρc ?_
 rw [okE_good (by omega) (by rw [← List.take_of_length_le h1]; exact hok)]; rfl
theorem indexSe (F : Nat) (fs cs : List AV) (p : Se → Bool) (l : List Se) (hl : l.length ≤ 9223372036854775807) (hcf : ∀ (vs : Array Value) (W : World), (callFunc F vs).run Tryz.prog W = .ok (.enter F vs) W) (hn : (∀ x, x ∈ fs → NoH 0 x) ∧ ∀ x, x ∈ cs → NoH 0 x) (hp : ∀ x, x ∈ l → FnP Tryz.prog F (fs ++ [aSe x] ++ cs) (.bool (p x))) : FnP Tryz.prog 88 [.sl (l.map aSe), .fn (.func F) fs cs] (.int .i64 (idxOf p l)) := by
 refine FnP.of Tryz.func88 rfl rfl (by simp) (by simp [AV.cells, aSe]) (fun G hG => ?_)
 have hN : NoH G.length (.int .i64 (idxOf p l)) := (by simp [AV.cells, aSe])
 refine sr fun _ => ?_
 refine mz ?_
 refine AWP.seq (sr fun _ => ?_)
 refine mv ?_
 refine ρr U23 ?_
 refine mv ?_
 refine ez ?_
 refine AWP.block ?_
 refine AWP.rounds (fun k => k ≤ l.length ∧ ∀ j, j < k → p (l.getD j default) = false) (fun k => [(0, .sl (l.map aSe)), (1, .fn (.func F) fs cs), (7, .int .i64 ((l.map aSe).length : Int)), (8, .int .i64 (k : Int))]) (fun k => []) (fun k => l.length - k) 0 0 ⟨by omega, fun j h => by omega⟩ (by repeat (first | exact .nil | refine .cons rfl ?_)) rfl (fun _ => rfl) (fun _ => ⟨by simp [AV.cells, aSe]; exact ⟨fun x hx => (hn.1 x hx).mono (by omega), fun x hx => (hn.2 x hx).mono (by omega)⟩, by simp⟩) (fun k hI => ?_)
 obtain ⟨hk, hno⟩ := hI
 refine sr fun _ => ?_
 refine ρ1 ?_
 refine ez ?_
 refine AWP.seq ?_
 refine ρq (fun h0 => ?_) (fun h0 => ?_)
 · try simp [-List.getD_eq_getElem?_getD] at h0
   refine AWP.skip (thenA_n ?_)
   refine AWP.seq (AWP.block (sr fun _ => ?_))
   refine mv ?_
   refine mz (sr fun _ => ?_)
   refine mv ?_
   refine mv ?_
   refine mv ?_
   first | refine ρ9 U23 sz75 ?_ | refine ρ3 U23 sz75 ?_
   refine ρk U75 sz75 ?_
   refine ARun.call rfl rfl rfl rfl hcf (ep rfl) (.cons (ep rfl) .nil) rfl (fun hg => hp _ (by rw [List.getD, List.getElem?_eq_getElem h0]; exact List.getElem_mem h0)) optN ?_
   refine ez ?_
   refine ρq (fun h1 => ?_) (fun h1 => ?_)
   · try simp [-List.getD_eq_getElem?_getD] at h1
     refine sr fun _ => ?_
     refine mv ?_
     refine mz ?_
     refine AWP.ret (blockA_r ?_)
     refine thenA_r (thenA_r ?_)
     refine blockA_r (thenA_r ?_)
     refine ρc ?_
     rw [idx_hit h0 hno h1]
   try simp [-List.getD_eq_getElem?_getD] at h1
   refine AWP.skip (blockA_n (thenA_n ?_))
   refine AWP.region (fun _ => ?_)
   first | refine ρ7 ?_ | refine ρg ?_
   refine mv ?_
   refine ⟨_, _, rfl, hG, ?_⟩
   refine thenA_n ⟨rfl, k + 1, _, ?_, ?_, rfl, ?_⟩
   · refine ⟨by omega, fun j hj => ?_⟩
     by_cases e : j = k
     · subst e; exact h1
     exact hno j (by omega)
   · repeat (first | exact .nil | refine .cons rfl ?_)
   omega
 try simp [-List.getD_eq_getElem?_getD] at h0
 refine AWP.exit ?_
 refine thenA_x ?_
 refine thenA_x ?_
 refine blockA_h ?_
 refine thenA_n (sr fun _ => ?_)
 refine mz ?_
 refine AWP.ret ?_
 refine ρc ?_
 rw [idx_none (fun j hj => hno j (by omega))]; rfl



def findP (l : List Se) (c : Int) : Se × Bool := if 0 ≤ idxOf (fun x => decide (x.client = c)) l then (l.getD (idxOf (fun x => decide (x.client = c)) l).toNat default, true) else (default, false)
theorem idx_range {α : Type} (p : α → Bool) (l : List α) : -1 ≤ idxOf p l ∧ idxOf p l < l.length := by
 unfold idxOf
 cases h : l.findIdx? p with
 | none => simp; omega
 | some i =>
   obtain ⟨hi, _⟩ := List.findIdx?_eq_some_iff_getElem.1 h
   simp; omega
theorem off_fn (x : Se) (c : Int) : FnP Tryz.prog 130 [aSe x, .pe [.int .i64 c]] (.bool (decide (x.client = c))) := by
 refine FnP.of Tryz.func130 rfl rfl (by simp) (by simp [AV.cells, aSe]) (fun G hG => ?_)
 have hN : NoH G.length (.bool (decide (x.client = c))) := (by simp [AV.cells, aSe])
 refine sr fun _ => ?_
 refine ARun.box (j := 0) hG rfl rfl rfl rfl rfl (ep rfl) rfl rfl optN ?_
 refine mz (sr fun _ => ?_)
 refine ρa (fo := 0) U75 sz3 ?_
 refine ρd U3 ?_
 first | refine ρ5 U3 ?_ | refine ρd U3 ?_
 refine ρ1 ?_
 refine mz ?_
 refine AWP.ret ?_
 refine ρc ?_
 rfl
theorem of_fn (c : Int) : FnP Tryz.prog 89 [.int .i64 c] (.fn (.func 130) [] [.pe [.int .i64 c]]) := by
 refine FnP.of Tryz.func89 rfl rfl (by simp) (by simp [AV.cells, aSe]) (fun G hG => ?_)
 have hN : NoH G.length (.fn (.func 130) [] [.pe [.int .i64 c]]) := (by simp [AV.cells, aSe])
 refine sr fun _ => ?_
 refine ARun.box1 (j := 0) hG rfl rfl rfl rfl rfl (ep rfl) (by first | rfl | exact aEr_one _ | exact aFl_one _) optN ?_
 refine mz ?_
 refine AWP.seq ?_
 refine AWP.frzBox 1 hG rfl rfl rfl ?_
 refine AWP.region (fun _ => ?_)
 refine ARun.makeFunc rfl rfl rfl rfl .nil (.cons (ep rfl) .nil) optN ?_
 refine mz ?_
 refine AWP.ret ?_
 refine ρc ?_
 rfl
theorem find_fn (l : List Se) (c : Int) (hl : l.length ≤ 9223372036854775807) : FnP Tryz.prog 84 [.sl (l.map aSe), .int .i64 c] (.tup [aSe (findP l c).1, .bool (findP l c).2]) := by
 have hr := idx_range (fun x : Se => decide (x.client = c)) l
 refine FnP.of Tryz.func84 rfl rfl (by simp) (by simp [AV.cells, aSe]) (fun G hG => ?_)
 have hN : NoH G.length (.tup [aSe (findP l c).1, .bool (findP l c).2]) := (by simp [AV.cells, aSe])
 refine sr fun _ => ?_
 refine ρp (j := 0) zv75 ?_
 refine mz (sr fun _ => ?_)
 refine mv ?_
 refine mv ?_
 refine ρj cf89 (fun hg => of_fn _) ?_
 refine ρh cf88 ?_ (hF := fun hg => indexSe 130 [] _ (fun x => decide (x.client = c)) l hl cf130 (by simp) (fun x _ => off_fn x c))
 refine mz ?_
 refine AWP.seq (sr fun _ => ?_)
 refine mv ?_
 refine ρ1 ?_
 refine ez ?_
 refine ρq (fun h0 => ?_) (fun h0 => ?_)
 · simp at h0
   refine sr fun _ => ?_
   refine ARun.build rfl rfl rfl rfl so75 .nil rfl rfl optN ?_
   refine ρ2 sz75 ?_
   refine mz ?_
   refine AWP.ret (thenA_r ?_)
   refine ρl (rs := [.cell 4 75, .tmp 5]) (.cons (.cellA rfl ((hG.at _ _).trans rfl) U75 rfl sz75 rfl rfl) (.cons (.tmp rfl) .nil)) ?_
   rw [show findP l c = (default, false) from by unfold findP; rw [if_neg (by omega)]]; rfl
 simp at h0
 refine AWP.skip (thenA_n (sr fun _ => ?_))
 refine mv ?_
 refine mv ?_
 first | refine ρ9 U23 sz75 ?_ | refine ρ3 U23 sz75 ?_
 refine ρk U75 sz75 ?_
 refine ρ2 sz75 ?_
 refine mz ?_
 refine AWP.ret ?_
 refine ρl (rs := [.cell 4 75, .tmp 5]) (.cons (.cellA rfl ((hG.at _ _).trans rfl) U75 rfl sz75 rfl rfl) (.cons (.tmp rfl) .nil)) ?_
 rw [show findP l c = (l.getD (idxOf (fun x => decide (x.client = c)) l).toNat default, true) from by unfold findP; rw [if_pos (by omega)]]; rfl
def askP (l : List Se) (c q : Int) : ByteArray × Bool × Int :=
 if okE l = 0 ∧ numB c = true ∧ numB q = true then
   if (findP l c).2 = true then
     if (findP l c).1.seq = q then ((findP l c).1.reply, true, 0) else if q < (findP l c).1.seq then (⟨#[]⟩, false, 45) else (⟨#[]⟩, false, 0)
   else if 20 ≤ l.length then (⟨#[]⟩, false, 8) else (⟨#[]⟩, false, 0)
 else (⟨#[]⟩, false, 2)
theorem findP_id {l : List Se} {c : Int} (h : (findP l c).2 = true) : (findP l c).1.client = c := by
 unfold findP at h ⊢
 split at h
 · rename_i hp
   rw [if_pos hp]
   unfold idxOf at hp ⊢
   cases hf : l.findIdx? (fun x => decide (x.client = c)) with
   | none => rw [hf] at hp; simp at hp
   | some i =>
     obtain ⟨hi, h2, _⟩ := List.findIdx?_eq_some_iff_getElem.1 hf
     simp [hi]; simpa using h2
 simp at h
theorem okE_two (l : List Se) : okE l = 0 ∨ okE l = 2 := by unfold okE; split <;> simp
theorem ask_fn (l : List Se) (c q : Int) (hl : l.length ≤ 9223372036854775807) : FnP Tryz.prog 54 [.sl (l.map aSe), .int .i64 c, .int .i64 q] (.tup [.str (askP l c q).1, .bool (askP l c q).2.1, .int .i64 (askP l c q).2.2]) := by
 have hid := findP_id (l := l) (c := c)
 refine FnP.of Tryz.func54 rfl rfl (by simp) (by simp [AV.cells, aSe]) (fun G hG => ?_)
 have hN : NoH G.length (.tup [.str (askP l c q).1, .bool (askP l c q).2.1, .int .i64 (askP l c q).2.2]) := (by simp [AV.cells, aSe])
 refine sr fun _ => ?_
 refine ma ?_
 refine ma ?_
 refine mz ?_
 refine AWP.seq (sr fun _ => ?_)
 refine mv ?_
 refine ρj cf66 (fun hg => check_fn l) ?_
 refine ρ1 ?_
 refine mv ?_
 refine ρi ?_
 refine ρn cf83 (fun hg => number_fn _) ?_
 refine ARun.not rfl rfl rfl rfl (Ev.opt rfl (fun h => h)) optS ?_
 refine ρ8 ?_
 refine mv ?_
 refine ρi ?_
 refine ρn cf83 (fun hg => number_fn _) ?_
 refine ARun.not rfl rfl rfl rfl (Ev.opt rfl (fun h => h)) optS ?_
 refine ρ8 ?_
 refine ez ?_
 refine ρq (fun h0 => ?_) (fun h0 => ?_)
 · simp at h0
   refine sr fun _ => ?_
   refine ma ?_
   refine ma ?_
   refine mz ?_
   refine AWP.ret (thenA_r ?_)
   refine ρl (rs := [.tmp 6, .tmp 7, .tmp 8]) (.cons (.tmp rfl) (.cons (.tmp rfl) (.cons (.tmp rfl) .nil))) ?_
   unfold askP; rw [if_neg (by rintro ⟨a, b, c⟩; simp_all)]; rfl
 simp at h0
 refine AWP.skip (thenA_n (sr fun _ => ?_))
 refine mv ?_
 refine mv ?_
 refine ρm cf84 (fun hg => find_fn l c hl) ?_
 refine mv ?_
 refine ρ4 ?_
 refine ρ4 ?_
 refine ρp (j := 0) zv75 ?_
 refine ρ2 sz75 ?_
 refine mz ?_
 refine AWP.seq (AWP.block (sr fun _ => ?_))
 refine mv ?_
 refine ARun.not rfl rfl rfl rfl (ep rfl) optN ?_
 refine mv ?_
 refine ρi ?_
 refine ARun.lenSl rfl rfl rfl rfl U23 (Ev.opt rfl (fun h => h)) optS ?_
 refine ρf ?_
 refine ρ0 ?_
 refine mz ?_
 refine ρq (fun h1 => ?_) (fun h1 => ?_)
 · simp at h1
   refine sr fun _ => ?_
   refine ma ?_
   refine ma ?_
   refine mz ?_
   refine AWP.ret (blockA_r (thenA_r ?_))
   refine ρl (rs := [.tmp 6, .tmp 7, .tmp 8]) (.cons (.tmp rfl) (.cons (.tmp rfl) (.cons (.tmp rfl) .nil))) ?_
   unfold askP; rw [if_pos ⟨h0.1.1, h0.1.2, h0.2⟩, if_neg (by simp [h1.1]), if_pos (by omega)]; rfl
 simp at h1
 refine sr fun _ => ?_
 refine mv ?_
 refine mv ?_
 refine ARun.loadBoxA rfl rfl rfl rfl U75 rfl sz75 (ep rfl) ((hG.at _ _).trans rfl) rfl rfl optS ?_
 refine ρi ?_
 refine ρi ?_
 refine ρt (fo := 2) U75 sz9 ?_
 refine ρs U9 ?_
 refine ARun.build rfl rfl rfl rfl so75 (.cons (Ev.opt rfl (fun h => h)) (.cons (Ev.opt rfl (fun h => h)) (.cons (Ev.opt rfl (fun h => h)) .nil))) rfl rfl optS ?_
 refine ARun.eqAgg rfl rfl rfl rfl eq75 (Ev.opt rfl (fun h => h)) (Ev.opt rfl (fun h => h)) rfl (.inl ⟨rfl, rfl⟩) optS ?_
 refine ρ0 ?_
 refine mz ?_
 refine ρq (fun h2 => ?_) (fun h2 => ?_)
 · simp at h2
   refine sr fun _ => ?_
   refine ρa (fo := 2) U75 sz9 ?_
   refine ρd U9 ?_
   refine ma ?_
   refine ma ?_
   refine mz ?_
   refine AWP.ret (blockA_r (thenA_r ?_))
   refine ρl (rs := [.tmp 6, .tmp 7, .tmp 8]) (.cons (.tmp rfl) (.cons (.tmp rfl) (.cons (.tmp rfl) .nil))) ?_
   unfold askP; rw [if_pos ⟨h0.1.1, h0.1.2, h0.2⟩, if_pos h2.1, if_pos h2.2.2]; rfl
 simp at h2
 refine sr fun _ => ?_
 refine mv ?_
 refine mv ?_
 refine ρt (fo := 1) U75 sz3 ?_
 refine ρs U3 ?_
 refine ρi ?_
 refine ρw ?_
 refine ρ0 ?_
 refine mz ?_
 refine ρq (fun h3 => ?_) (fun h3 => ?_)
 · simp at h3
   refine sr fun _ => ?_
   refine ma ?_
   refine ma ?_
   refine mz ?_
   refine AWP.ret (blockA_r (thenA_r ?_))
   refine ρl (rs := [.tmp 6, .tmp 7, .tmp 8]) (.cons (.tmp rfl) (.cons (.tmp rfl) (.cons (.tmp rfl) .nil))) ?_
   unfold askP; rw [if_pos ⟨h0.1.1, h0.1.2, h0.2⟩, if_pos h3.1, if_neg (fun e => h2 h3.1 (hid h3.1) e), if_pos h3.2]; rfl
 simp at h3
 refine AWP.skip (blockA_n (thenA_n (sr fun _ => ?_)))
 refine ma ?_
 refine ma ?_
 refine mz ?_
 refine AWP.ret ?_
 refine ρl (rs := [.tmp 6, .tmp 7, .tmp 8]) (.cons (.tmp rfl) (.cons (.tmp rfl) (.cons (.tmp rfl) .nil))) ?_
 unfold askP; rw [if_pos ⟨h0.1.1, h0.1.2, h0.2⟩]
 by_cases hf : (findP l c).2 = true
 · rw [if_pos hf, if_neg (fun e => h2 hf (hid hf) e), if_neg (by have := h3 hf; omega)]; rfl
 rw [if_neg hf, if_neg (by have := h1 (by simpa using hf); omega)]; rfl
end Go.Proofs.YtcndnllmlhhjiaaGreatDoor.Ssn
namespace Go.Proofs.YtcndnllmlhhjiaaGreatDoor.Ssn
open Go.ChangeShapes Go.WideShapes Go.ChangeAt Go.RowKit
open SessP
def encSe (x : Se) : List Value := [.int .i64 x.client, .int .i64 x.seq, .string x.reply]
theorem encSe_len (x : Se) : (encSe x).length = 3 := rfl
structure BoxSe (W : World) (B : Nat) (a0 a1 a2 : Value) : Prop where
 size : B < W.heap.size
 x0 : W.cell? ⟨B, 0, none⟩ = some a0
 x1 : W.cell? ⟨B, 1, none⟩ = some a1
 x2 : W.cell? ⟨B, 2, none⟩ = some a2
 fz : ∀ j, W.frozen? ⟨B, j, none⟩ = false
theorem infoSe : (Tryz.prog.info? 75).map (fun i => (i.zero, i.size, i.bytes)) = some (some (.agg #[.int .i64 0, .int .i64 0, .string ⟨#[]⟩]), 3, 32) := by kernel_rfl
end Go.Proofs.YtcndnllmlhhjiaaGreatDoor.Ssn
namespace Go.Proofs.YtcndnllmlhhjiaaGreatDoor.Ssn
open Go.ChangeShapes Go.WideShapes Go.ChangeAt Go.RowKit
open SessP
theorem cloneSe_any (a : Option Addr) (cap : Nat) (xs : List Se) (w : World) (hr : Reads encSe 3 w a xs) (hl : xs.length ≤ 1000000) :
   Calls Tryz.prog 87 #[.slice a xs.length cap] w fun e w' => ∃ v, e = .returned v ∧ w'.ownsRow w.heap.size 75 3 v xs.length (xs.flatMap encSe) ∧ Below w.heap.size w w' := by
 cases a with
 | none =>
   have hx : xs = [] := by
     cases xs with
     | nil => rfl
     | cons x xs => obtain ⟨b, off, h, _⟩ := hr 0 (by simp); cases h
   subst hx
   have hnil := Lib.run_eql_slice_nil (P := Tryz.prog) w 23 75 none 0 cap 0 0 U23
   have HP := Lib.hid (World.ownsRow_nil w w.heap.size 75 3)
   go_enter Tryz.func87, Tryz.ntmps87
   go_wp2_with fail
   go_ret
   exact ⟨_, rfl, HP.out, Below.refl _ _⟩
 | some ad =>
   obtain ⟨i0, hi, hz0, hz1, hz2⟩ := info_parts infoSe
   have hnil := Lib.run_eql_slice_nil (P := Tryz.prog) w 23 75 (some ad) xs.length cap 0 0 U23
   have HR := Lib.hid hr
   clear hr
   go_enter Tryz.func87, Tryz.ntmps87
   have hfl := HR.out.flat (by omega) encSe_len
   have HFL := Lib.hid hfl
   clear hfl
   go_wp2_with (at_builtin; refine wpList_append_own _ rfl _ _ 23 rfl w.heap.size 75 i0 (.agg #[.int .i64 0, .int .i64 0, .string ⟨#[]⟩]) 3 32 U23 hi hz0 hz1 hz2 rfl (by decide) _ _ _ rfl (World.ownsRow_made w #[] 0 (Nat.le_refl _) (by unfold maxLen; omega) rfl) ad xs.length cap (xs.flatMap encSe) rfl ?c0 ?c1 ?c2 ?c3 ?c4 ?c5 ?_)
   case c0 => rw [flat_len encSe 3 encSe_len]
   case c1 =>
     intro j u hu
     obtain ⟨h1, h2⟩ := HFL.out j u hu
     have h3 : (ad.add j).block = ad.block := by unfold Addr.add; split <;> rfl
     rw [World.cell?_alloc_lt _ _ _ (by rw [h3]; exact h1)]
     exact h2
   case c2 =>
     intro u hu
     obtain ⟨x, _, hx⟩ := List.mem_flatMap.1 hu
     simp [encSe] at hx
     rcases hx with rfl | rfl | rfl <;> rfl
   case c3 => unfold maxLen; omega
   case c4 => omega
   case c5 => simp
   intro v' w2 hown' hgrow _
   have hbel : Below w.heap.size w w2 := ((Below.refl _ _).alloc (Nat.le_refl _) _).grown hgrow (by simp) (fun k hk => by simp [Value.ownBlock] at hk; omega)
   have HO := Lib.hid hown'
   clear hown' hgrow
   go_wp2_with fail
   go_ret
   exact ⟨_, rfl, HO.out, hbel⟩
end Go.Proofs.YtcndnllmlhhjiaaGreatDoor.Ssn
namespace Go.Proofs.YtcndnllmlhhjiaaGreatDoor.Ssn
open Go.ChangeShapes Go.WideShapes Go.ChangeAt Go.RowKit
theorem copy_run_eq {P : Program} (w : World) {o : Oper} {a : Act} {K : Act → World → Prop} {Q : Exit → Act → World → Prop} (d s : Operand) (t t' : TypeId)
   (ho : o.op = .call { callee := .builtin .copy, args := #[d, s], argTypes := #[t, t'] }) (v u : Value) (hd : a.eval d = v) (hs : a.eval s = u) {v' : Value} {w' : World}
   (hr : (Builtin.copy_ #[t, t'] o.type #[v, u]).run P w = .ok v' w') (h : K (a.put o.dst v') w') : o.wp P a w K Q := by
 unfold Oper.wp execOp
 simp only [ho, resolve, invoke, builtin, Sem.run_bind, Sem.run_pure, Result.andThen_ok, List.map_toArray, List.map_cons, List.map_nil, hd, hs, hr]
 exact h
theorem wpList_copy_eq {P : Program} (w : World) {ops : Array Oper} {rest : List Oper} {o : Oper} {a : Act} {Q : Exit → Act → World → Prop} (hgd : o.guard = none) (d s : Operand) (t t' : TypeId)
   (ho : o.op = .call { callee := .builtin .copy, args := #[d, s], argTypes := #[t, t'] }) (v u : Value) (hd : a.eval d = v) (hs : a.eval s = u) {v' : Value} {w' : World}
   (hr : (Builtin.copy_ #[t, t'] o.type #[v, u]).run P w = .ok v' w') (h : wpList P ops Q rest (a.put o.dst v') w') : wpList P ops Q (o :: rest) a w :=
 wpList_plain hgd fun _ hK => copy_run_eq w d s t t' ho v u hd hs hr (hK _ _ h)
theorem wpList_append_eq {P : Program} (w : World) {ops : Array Oper} {rest : List Oper} {o : Oper} {a : Act} {Q : Exit → Act → World → Prop} (hgd : o.guard = none) (d s : Operand) (t t' : TypeId)
   (ho : o.op = .call { callee := .builtin .append, args := #[d, s], argTypes := #[t, t'] }) (v u : Value) (hd : a.eval d = v) (hs : a.eval s = u) {v' : Value} {w' : World}
   (hr : (Builtin.append_ #[t, t'] o.type #[v, u]).run P w = .ok v' w') (h : wpList P ops Q rest (a.put o.dst v') w') : wpList P ops Q (o :: rest) a w := by
 refine wpList_plain hgd fun _ hK => ?_
 unfold Oper.wp execOp
 simp only [ho, resolve, invoke, builtin, Sem.run_bind, Sem.run_pure, Result.andThen_ok, List.map_toArray, List.map_cons, List.map_nil, hd, hs, hr]
 exact hK _ _ h
theorem run_copy_row {P : Program} (w : World) (dT sT ty elem : TypeId) (sz b o dLen dCap : Nat) (cur : Array Value) (T : TypeId) (a : Addr) (sLen sCap : Nat) (cs : List Value) (q : Nat)
   (hu : P.underlying dT = some (.slice elem)) (hs : Sz P elem sz) (hq : Nat.min sLen dLen = q) (hn : cs.length = q * sz) (hb : w.heap[b]? = some (.cells cur T (0, 0)))
   (hsrc : ∀ j v, cs[j]? = some v → w.cell? (a.add j) = some v) (hfit : o + cs.length ≤ cur.size) (h1 : ∀ v ∈ cs, v.oneCell' = true) :
   (Builtin.copy_ #[dT, sT] ty #[.slice (some ⟨b, o, none⟩) dLen dCap, .slice (some a) sLen sCap]).run P w = .ok (goInt q) (w.setRow b (cur.toList.take o ++ cs ++ cur.toList.drop (o + cs.length)).toArray) := by
 subst hq
 have hf := run_firstCells_some (P := P) w sz (Nat.min sLen dLen) a sLen sCap cs hn hsrc
 have hst := run_storeCells_at P b o T cs 0 cur w hb (by simpa using hfit) h1
 rw [Nat.add_zero] at hst
 simp [Builtin.copy_, run_underlying hu, Builtin.lenOf, hs.run, hf, hst]
theorem rowL {w : World} {b : Nat} {cur : Array Value} {T : TypeId} (h : w.heap[b]? = some (.cells cur T (0, 0))) (j : Nat) : w.cell? ⟨b, j, none⟩ = cur[j]? := by simp [World.cell?, h]
set_option maxHeartbeats 4000000 in
theorem insertSe_end (w : World) (v v2 : Value) (n : Nat) (us X : List Value) (hown : w.ownsRow 0 75 3 v n us) (ho2 : w.ownsRow 0 75 3 v2 1 X) (h1X : ∀ u ∈ X, u.oneCell' = true) (hn : n + 1 ≤ 1000000) :
   Calls Tryz.prog 91 #[v, .int .i64 n, v2] w fun e w' => ∃ v', e = .returned v' ∧ w'.ownsRow 0 75 3 v' (n + 1) (us ++ X) ∧ w.grownBy w' v.ownBlock ∧ (v'.ownBlock = v.ownBlock ∨ v'.ownBlock = some w.heap.size) := by
 obtain ⟨i0, hi, hz0, hz1, hz2⟩ : ∃ i0, Tryz.prog.info? 75 = some i0 ∧ i0.zero = some (.agg #[.int .i64 0, .int .i64 0, .string ⟨#[]⟩]) ∧ i0.size = 3 ∧ i0.bytes = 32 := by
   have hT : Ti Tryz.prog 75 (.agg #[.int .i64 0, .int .i64 0, .string ⟨#[]⟩]) 3 32 := by unfold Ti; kernel_rfl
   unfold Ti at hT
   cases hi : Tryz.prog.info? 75 with
   | none => rw [hi] at hT; cases hT
   | some i => rw [hi] at hT; simp at hT; exact ⟨i, rfl, hT⟩
 rcases ho2.2 with ⟨_, h0⟩ | ⟨vb, vc, vcur, rfl, _, hvg, hvnc, hvcm, hvcs, hvt⟩
 · omega
 have hXl : X.length = 1 * 3 := ho2.1
 have hXc : ∀ j u, X[j]? = some u → w.cell? ((⟨vb, 0, none⟩ : Addr).add j) = some u := ho2.cells rfl
 have HOWN := Lib.hid hown
 have HV : ∃ sa sc, v = .slice sa n sc ∧ n ≤ sc ∧ sc ≤ maxLen := by
   rcases hown.2 with ⟨rfl, rfl⟩ | ⟨g, cap, cur, rfl, _, _, h1, h2, _⟩
   · exact ⟨none, 0, rfl, Nat.le_refl _, Nat.zero_le _⟩
   · exact ⟨_, cap, rfl, h1, h2⟩
 obtain ⟨sa, sc, rfl, hsc, hscm⟩ := HV
 unfold maxLen at hscm
 have H2 := Lib.hid (And.intro hXl hXc)
 have H3 := Lib.hid h1X
 clear hown ho2 hvg hvt hXl hXc h1X
 by_cases hcn : sc = n
 · obtain rfl : n = sc := hcn.symm
   go_enter Tryz.func91, Tryz.ntmps91
   go_wp2_with (at_builtin; refine wpList_append_own_at _ rfl _ _ 23 rfl 0 75 i0 (.agg #[.int .i64 0, .int .i64 0, .string ⟨#[]⟩]) 3 32 U23 hi hz0 hz1 hz2 rfl (by decide) _ n us rfl HOWN.out ⟨vb, 0, none⟩ 1 vc X rfl H2.out.1 H2.out.2 H3.out ?c3 ?c4 (Nat.zero_le _) ?_)
   case c3 => unfold maxLen; omega
   case c4 => omega
   intro v' w' hown' hgrow _ hblk
   have HF := Lib.hid (And.intro hown' (And.intro hgrow hblk))
   clear hown' hgrow hblk
   go_wp2_with fail
   go_ret
   exact ⟨_, rfl, HF.out.1, HF.out.2.1, HF.out.2.2⟩
 · have hcn' : ¬ n = sc := fun e => hcn e.symm
   go_enter Tryz.func91, Tryz.ntmps91
   go_wp2_with (at_builtin; refine wpList_append_own_at _ rfl _ _ 23 rfl 0 75 i0 (.agg #[.int .i64 0, .int .i64 0, .string ⟨#[]⟩]) 3 32 U23 hi hz0 hz1 hz2 rfl (by decide) _ n us rfl HOWN.out ⟨vb, 0, none⟩ 1 vc X rfl H2.out.1 H2.out.2 H3.out ?c3 ?c4 (Nat.zero_le _) ?_)
   case c3 => unfold maxLen; omega
   case c4 => omega
   intro v' w' hown' hgrow _ hblk
   have HF := Lib.hid (And.intro hown' (And.intro hgrow hblk))
   clear hown' hgrow hblk
   go_wp2_with fail
   go_ret
   exact ⟨_, rfl, HF.out.1, HF.out.2.1, HF.out.2.2⟩
def midRow (cur : List Value) (X : List Value) (a n1 z : Nat) : List Value :=
 let R1 := cur.take (a + z) ++ (cur.drop a).take (n1 - a) ++ cur.drop (a + z + (n1 - a))
 R1.take a ++ X ++ R1.drop (a + z)
theorem midRow_take (cur X : List Value) (a n1 z : Nat) (ha : a ≤ n1) (hX : X.length = z) (hc : n1 + z ≤ cur.length) : (midRow cur X a n1 z).take (n1 + z) = cur.take a ++ X ++ (cur.take n1).drop a ∧ (midRow cur X a n1 z).length = cur.length := by
 unfold midRow
 simp only
 have e1 : (cur.take (a + z) ++ (cur.drop a).take (n1 - a) ++ cur.drop (a + z + (n1 - a))).take a = cur.take a := by
   rw [List.append_assoc, List.take_append_of_le_length (by simp; omega), List.take_take]; congr 1; omega
 have e2 : (cur.take (a + z) ++ (cur.drop a).take (n1 - a) ++ cur.drop (a + z + (n1 - a))).drop (a + z) = (cur.drop a).take (n1 - a) ++ cur.drop (a + z + (n1 - a)) := by
   rw [List.append_assoc, List.drop_append_of_le_length (by simp; omega), List.drop_eq_nil_of_le (by simp; omega), List.nil_append]
 rw [e1, e2]
 constructor
 · rw [← List.append_assoc, List.take_append_of_le_length (by simp; omega), List.take_of_length_le (by simp; omega), List.drop_take]
 · simp; omega
set_option maxHeartbeats 8000000 in
theorem insertSe_shift (w : World) (b n c k : Nat) (cur : Array Value) (vb vc : Nat) (vcur : Array Value) (X : List Value) (hb : w.heap[b]? = some (.cells cur 75 (0, 0))) (hcur : cur.size = c * 3) (hk : k < n) (hroom : n + 1 ≤ c) (hc63 : c ≤ 9223372036854775807)
   (hv : w.heap[vb]? = some (.cells vcur 75 (0, 0))) (hne : vb ≠ b) (hX : X.length = 3) (hXc : ∀ (j : Nat) (u : Value), X[j]? = some u → vcur[j]? = some u) (h1X : ∀ u ∈ X, u.oneCell' = true) (h1c : ∀ u ∈ cur.toList.take (n * 3), u.oneCell' = true) (hc0 : 0 < vcur.size) :
   Calls Tryz.prog 91 #[.slice (some ⟨b, 0, none⟩) n c, .int .i64 k, .slice (some ⟨vb, 0, none⟩) 1 vc] w fun e w' => e = .returned (.slice (some ⟨b, 0, none⟩) (n + 1) c) ∧ w'.heap[b]? = some (.cells (midRow cur.toList X (k * 3) (n * 3) 3).toArray 75 (0, 0)) ∧ w.grownBy w' (some b) := by
 have hov : ∀ o lb cb, (callFunc 131 #[.slice (some ⟨vb, 0, none⟩) 1 vc, .slice (some ⟨b, o, none⟩) lb cb]).run Tryz.prog w = .ok (.value (.bool false)) w := fun o lb cb => by
   rw [run_callFunc_extern Tryz.func131 (by kernel_rfl) (by kernel_rfl) (by kernel_rfl) (e := Extern.SlicesOverlaps.overlaps #[23, 23] #[4]) (by kernel_rfl),
     Lib.run_overlaps_apart w 23 4 75 U23 3 (fun w => Sz.run (by unfold Sz; kernel_rfl) w) ⟨vb, 0, none⟩ ⟨b, o, none⟩ 1 vc lb cb hne 75 75 vcur.size cur.size (by simp [World.shape?, hv]) (by simp [World.shape?, hb]) (by omega) (by simp [World.frozen?, hv]) (by simp [World.frozen?, hv])]
   rfl
 have hsz : Sz Tryz.prog 75 3 := by unfold Sz; kernel_rfl
 have hz2 : ((k : Int) == (n : Int)) = false := by simp; omega
 have hz3 : decide ((c : Int) < (n : Int) + 1) = false := by simp; omega
 have hb4 : ¬ (c = k) := by omega
 have hb2 : ¬ (c = k + 1) := by omega
 have hkc : k ≤ c := by omega
 have hk1 : IntKind.i64.wrap ((k : Int) + 1) = (k : Int) + 1 := IntWalk.i64_in _ (by omega)
 have hk2 : (0 : Int) ≤ (k : Int) + 1 := by omega
 have hk3 : ((k : Int) + 1).toNat = k + 1 := by omega
 have hk4 : (k : Int) + 1 ≤ (n : Int) + 1 := by omega
 have hk5 : (k : Int) ≤ (n : Int) + 1 := by omega
 have hk6 : (n : Int) + 1 ≤ (c : Int) := by omega
 have hd : ((cur.toList.drop (k * 3)).take (n * 3 - k * 3)).length = (n - k) * 3 := by simp [hcur]; omega
 have HB := Lib.hid hb
 have HV := Lib.hid hv
 have H1 := Lib.hid h1c
 have HX := Lib.hid hXc
 clear hb hv h1c hXc
 go_enter Tryz.func91, Tryz.ntmps91
 go_wp2_with (simp only [hov])
 (apply rg_region_tail 8 (by kernel_rfl) (by kernel_rfl) (by kernel_rfl); intro env)
 (apply rg_det rfl; (intro W K hW _ hK; obtain ⟨hc, hf⟩ := bcell hW; go_simp; first | (rw [IntWalk.i64_in]; (exact hK _ (Below.refl _ _)); omega) | exact hK _ (Below.refl _ _)); rfl)
 repeat (apply rg_det rfl; (intro W K hW _ hK; obtain ⟨hc, hf⟩ := bcell hW; go_simp; first | (rw [IntWalk.i64_in]; (exact hK _ (Below.refl _ _)); omega) | exact hK _ (Below.refl _ _)); rfl)
 (apply rg_tail; rfl; (simp only [List.drop_succ_cons, List.drop_zero]; rfl); intro W hW hF)
 have hWb : W.heap[b]? = some (.cells cur 75 (0, 0)) := (hW.block b (Array.getElem?_eq_some_iff.1 HB.out).1).trans HB.out
 have hWv : W.heap[vb]? = some (.cells vcur 75 (0, 0)) := (hW.block vb (Array.getElem?_eq_some_iff.1 HV.out).1).trans HV.out
 have hcp1 := run_copy_row (P := Tryz.prog) W 23 23 3 75 3 b ((k + 1) * 3) (n - k) (c - (k + 1)) cur 75 ⟨b, k * 3, none⟩ (n + 1 - k) (c - k) ((cur.toList.drop (k * 3)).take (n * 3 - k * 3)) (n - k) U23 hsz (by simp only [Nat.min_def]; split <;> omega) hd hWb
   (fun j u hj => by
     rw [aadd, rowL hWb]
     rw [List.getElem?_take] at hj
     split at hj
     · rw [List.getElem?_drop, Array.getElem?_toList] at hj; exact hj
     · cases hj) (by rw [hd, hcur]; omega) (fun u hu => H1.out u (by
     obtain ⟨q, hq, rfl⟩ := List.mem_iff_getElem.1 hu
     simp only [List.getElem_take, List.getElem_drop]
     rw [hd] at hq
     refine List.mem_iff_getElem.2 ⟨k * 3 + q, by simp [hcur]; omega, by simp⟩))
 refine wpList_copy_eq W rfl _ _ 23 23 rfl _ _ rfl rfl hcp1 ?_
 have hgr : w.grownBy W (some b) := ⟨hW.os, hW.tape, hW.output, hW.size, fun q hq _ => hW.block q hq⟩
 have hW1b := setRow_heap W b cur (cur.toList.take ((k + 1) * 3) ++ (cur.toList.drop (k * 3)).take (n * 3 - k * 3) ++ cur.toList.drop ((k + 1) * 3 + ((cur.toList.drop (k * 3)).take (n * 3 - k * 3)).length)).toArray 75 (0, 0) hWb
 have hW1v := (setRow_other W b vb (cur.toList.take ((k + 1) * 3) ++ (cur.toList.drop (k * 3)).take (n * 3 - k * 3) ++ cur.toList.drop ((k + 1) * 3 + ((cur.toList.drop (k * 3)).take (n * 3 - k * 3)).length)).toArray hne).trans hWv
 have hgr1 : w.grownBy (W.setRow b (cur.toList.take ((k + 1) * 3) ++ (cur.toList.drop (k * 3)).take (n * 3 - k * 3) ++ cur.toList.drop ((k + 1) * 3 + ((cur.toList.drop (k * 3)).take (n * 3 - k * 3)).length)).toArray) (some b) :=
   ⟨by simp [hgr.os], by simp [hgr.tape], by simp [hgr.output], by simpa using hgr.size, fun q hq hne2 => (setRow_other W b q _ (fun e => hne2 (by rw [e]))).trans (hgr.block q hq hne2)⟩
 have hR1 : (cur.toList.take ((k + 1) * 3) ++ (cur.toList.drop (k * 3)).take (n * 3 - k * 3) ++ cur.toList.drop ((k + 1) * 3 + ((cur.toList.drop (k * 3)).take (n * 3 - k * 3)).length)) = (cur.toList.take (k * 3 + 3) ++ (cur.toList.drop (k * 3)).take (n * 3 - k * 3) ++ cur.toList.drop (k * 3 + 3 + (n * 3 - k * 3))) := by
   rw [hd, Nat.add_mul, Nat.one_mul, Nat.sub_mul]
 rw [hR1] at hW1b hgr1 hW1v ⊢
 have hMid : midRow cur.toList X (k * 3) (n * 3) 3 = (cur.toList.take (k * 3 + 3) ++ (cur.toList.drop (k * 3)).take (n * 3 - k * 3) ++ cur.toList.drop (k * 3 + 3 + (n * 3 - k * 3))).take (k * 3) ++ X ++ (cur.toList.take (k * 3 + 3) ++ (cur.toList.drop (k * 3)).take (n * 3 - k * 3) ++ cur.toList.drop (k * 3 + 3 + (n * 3 - k * 3))).drop (k * 3 + 3) := rfl
 have hRl : (cur.toList.take (k * 3 + 3) ++ (cur.toList.drop (k * 3)).take (n * 3 - k * 3) ++ cur.toList.drop (k * 3 + 3 + (n * 3 - k * 3))).length = c * 3 := by simp [hcur]; omega
 have HM := Lib.hid hMid
 clear hMid
 generalize cur.toList.take (k * 3 + 3) ++ (cur.toList.drop (k * 3)).take (n * 3 - k * 3) ++ cur.toList.drop (k * 3 + 3 + (n * 3 - k * 3)) = R1 at *
 generalize W.setRow b R1.toArray = W1 at *
 clear hcp1 hWb hWv hW hF hgr hR1
 have hcp2 := run_copy_row (P := Tryz.prog) W1 23 23 3 75 3 b (k * 3) (n + 1 - k) (c - k) R1.toArray 75 ⟨vb, 0, none⟩ 1 vc X 1 U23 hsz (by simp only [Nat.min_def]; split <;> omega) (by omega) hW1b
   (fun j u hj => by rw [aadd, Nat.zero_add, rowL hW1v]; exact HX.out j u hj) (by simp [hRl, hX]; omega) h1X
 have hfin := setRow_heap W1 b R1.toArray (R1.take (k * 3) ++ X ++ R1.drop (k * 3 + 3)).toArray 75 (0, 0) hW1b
 have hgr2 : w.grownBy (W1.setRow b (R1.take (k * 3) ++ X ++ R1.drop (k * 3 + 3)).toArray) (some b) :=
   ⟨by simp [hgr1.os], by simp [hgr1.tape], by simp [hgr1.output], by simpa using hgr1.size, fun q hq hne2 => (setRow_other W1 b q _ (fun e => hne2 (by rw [e]))).trans (hgr1.block q hq hne2)⟩
 rw [hX] at hcp2
 have HFIN := Lib.hid (And.intro hfin hgr2)
 have HCP := Lib.hid hcp2
 clear hfin hgr2 hcp2 hgr1 hW1b hW1v
 go_wp2_with (refine wpList_copy_eq W1 rfl _ _ 23 23 rfl _ _ rfl rfl HCP.out ?_)
 go_ret
 have e := HFIN.out
 simp only [List.append_assoc] at e
 exact ⟨rfl, by rw [HM.out]; simp only [List.append_assoc]; exact e.1, e.2⟩
set_option maxHeartbeats 8000000 in
theorem insertSe_grow (w : World) (b n c k : Nat) (cur : Array Value) (vb vc : Nat) (vcur : Array Value) (X : List Value) (hb : w.heap[b]? = some (.cells cur 75 (0, 0))) (hcur : cur.size = c * 3) (hk : k < n) (hnc : n ≤ c) (hroom : c < n + 1) (hn : n + 1 ≤ 1000000)
   (hv : w.heap[vb]? = some (.cells vcur 75 (0, 0))) (hX : X.length = 3) (hXc : ∀ (j : Nat) (u : Value), X[j]? = some u → vcur[j]? = some u) (h1X : ∀ u ∈ X, u.oneCell' = true) (h1c : ∀ u ∈ cur.toList.take (n * 3), u.oneCell' = true) :
   Calls Tryz.prog 91 #[.slice (some ⟨b, 0, none⟩) n c, .int .i64 k, .slice (some ⟨vb, 0, none⟩) 1 vc] w fun e w' => ∃ (C : Nat) (row : List Value), e = .returned (.slice (some ⟨w.heap.size, 0, none⟩) (n + 1) C) ∧ n + 1 ≤ C ∧ C ≤ maxLen ∧ w'.heap[w.heap.size]? = some (.cells row.toArray 75 (0, 0)) ∧ row.length = C * 3 ∧ row.take ((n + 1) * 3) = cur.toList.take (k * 3) ++ X ++ (cur.toList.take (n * 3)).drop (k * 3) ∧ w.grownBy w' none := by
 obtain rfl : n = c := by omega
 obtain ⟨i0, hi, hz0, hz1, hz2⟩ : ∃ i0, Tryz.prog.info? 75 = some i0 ∧ i0.zero = some (.agg #[.int .i64 0, .int .i64 0, .string ⟨#[]⟩]) ∧ i0.size = 3 ∧ i0.bytes = 32 := by
   have hT : Ti Tryz.prog 75 (.agg #[.int .i64 0, .int .i64 0, .string ⟨#[]⟩]) 3 32 := by unfold Ti; kernel_rfl
   unfold Ti at hT
   cases hi : Tryz.prog.info? 75 with
   | none => rw [hi] at hT; cases hT
   | some i => rw [hi] at hT; simp at hT; exact ⟨i, rfl, hT⟩
 have hsz : Sz Tryz.prog 75 3 := by unfold Sz; kernel_rfl
 have hbw := (Array.getElem?_eq_some_iff.1 hb).1
 have hvw := (Array.getElem?_eq_some_iff.1 hv).1
 have hold : (Builtin.firstCells i0.size k (.slice (some ⟨b, 0, none⟩) k n)).run Tryz.prog w.drew = .ok (cur.toList.take (k * 3)).toArray w.drew := by
   rw [hz1]
   exact run_firstCells_some (P := Tryz.prog) w.drew 3 k ⟨b, 0, none⟩ k n (cur.toList.take (k * 3)) (by rw [List.length_take, Array.length_toList, hcur]; omega) (fun j v hj => by
     rw [aadd, Nat.zero_add]
     show w.cell? _ = _
     rw [rowL hb]
     rw [List.getElem?_take] at hj
     split at hj
     · simpa using hj
     · cases hj)
 have hrz : ∀ ty, (Builtin.append_ #[23, 3] ty #[.slice (some ⟨b, 0, none⟩) k n, .int .i64 ((n : Int) + 1 - (k : Int))]).run Tryz.prog w =
     .ok (.slice (some ⟨w.heap.size, 0, none⟩) (n + 1) (grownCap w (n + 1) n 75)) (w.drew.alloc (.cells ((cur.toList.take (k * 3)).toArray ++ Builtin.zeroCells (Value.cells (.agg #[.int .i64 0, .int .i64 0, .string ⟨#[]⟩])) (n + 1 - k) ++ Builtin.zeroCells (Value.cells (.agg #[.int .i64 0, .int .i64 0, .string ⟨#[]⟩])) (grownCap w (n + 1) n 75 - (n + 1))) 75)) := fun ty => by
   have h := Lib.run_append_grow_zeros w 23 3 ty 75 i0 _ .i64 .i64 U23 U3 hi hz0 (some ⟨b, 0, none⟩) k n (cur.toList.take (k * 3)) hold (n + 1 - k) (by omega) (by omega) (by omega) (by omega) (by rw [hz2]; omega) (by rw [hz2, show k + (n + 1 - k) = n + 1 by omega]; exact growslice_fits (by omega) (by omega))
   rw [show k + (n + 1 - k) = n + 1 by omega, show ((n + 1 - k : Nat) : Int) = (n : Int) + 1 - (k : Int) by omega] at h
   exact h
 have hC1 : n + 1 ≤ grownCap w (n + 1) n 75 := grownCap_ge w _ _ _
 have hC2 : grownCap w (n + 1) n 75 ≤ maxLen := grownCap_le_maxLen w (n + 1) n 75 (by unfold maxLen; omega)
 generalize grownCap w (n + 1) n 75 = C at *
 have hRs : ((cur.toList.take (k * 3)).toArray ++ Builtin.zeroCells (Value.cells (.agg #[.int .i64 0, .int .i64 0, .string ⟨#[]⟩])) (n + 1 - k) ++ Builtin.zeroCells (Value.cells (.agg #[.int .i64 0, .int .i64 0, .string ⟨#[]⟩])) (C - (n + 1))).size = C * 3 := by
   simp [Builtin.zeroCells, Value.cells, hcur]; omega
 have hRt : ((cur.toList.take (k * 3)).toArray ++ Builtin.zeroCells (Value.cells (.agg #[.int .i64 0, .int .i64 0, .string ⟨#[]⟩])) (n + 1 - k) ++ Builtin.zeroCells (Value.cells (.agg #[.int .i64 0, .int .i64 0, .string ⟨#[]⟩])) (C - (n + 1))).toList.take (k * 3) = cur.toList.take (k * 3) := by
   simp only [Array.toList_append, List.append_assoc]
   rw [List.take_append_of_le_length (by simp [hcur]; omega), List.take_of_length_le (by simp; omega)]
 generalize (cur.toList.take (k * 3)).toArray ++ Builtin.zeroCells (Value.cells (.agg #[.int .i64 0, .int .i64 0, .string ⟨#[]⟩])) (n + 1 - k) ++ Builtin.zeroCells (Value.cells (.agg #[.int .i64 0, .int .i64 0, .string ⟨#[]⟩])) (C - (n + 1)) = ROW at *
 have hk4 : ((k : Int) == (n : Int)) = false := by simp; omega
 have hk5 : decide ((n : Int) < (n : Int) + 1) = true := by simp; omega
 have hk6 : ¬ (n = k) := by omega
 have hk7 : k ≤ n := by omega
 have hk8 : ¬ (C = k) := by omega
 have hk9 : ¬ (C = k + 1) := by omega
 obtain ⟨W1, hW1⟩ : ∃ W1, W1 = w.drew.alloc (.cells ROW 75) := ⟨_, rfl⟩
 rw [← hW1] at hrz
 have hW1n : W1.heap[w.heap.size]? = some (.cells ROW 75 (0, 0)) := by rw [hW1]; exact heap_alloc_new w.drew _
 have hW1o : ∀ q, q < w.heap.size → W1.heap[q]? = w.heap[q]? := fun q hq => by rw [hW1]; exact heap_alloc_old w.drew _ hq
 have hg1 : w.grownBy W1 none := by rw [hW1]; exact ⟨rfl, rfl, rfl, by simp, fun q hq _ => heap_alloc_old w.drew _ hq⟩
 have hs1 : W1.heap.size = w.heap.size + 1 := by rw [hW1]; simp
 have hcpA := fun ty => run_copy_row (P := Tryz.prog) W1 23 23 ty 75 3 w.heap.size (k * 3) (n + 1 - k) (C - k) ROW 75 ⟨vb, 0, none⟩ 1 vc X 1 U23 hsz (by simp only [Nat.min_def]; split <;> omega) (by omega) hW1n
   (fun j u hj => by rw [aadd, Nat.zero_add, rowL ((hW1o vb hvw).trans hv)]; exact hXc j u hj) (by rw [hRs, hX]; omega) h1X
 rw [hX] at hcpA
 have hRl : ROW.toList.length = C * 3 := by simpa using hRs
 obtain ⟨R1, hR1⟩ : ∃ R1, R1 = ROW.toList.take (k * 3) ++ X ++ ROW.toList.drop (k * 3 + 3) := ⟨_, rfl⟩
 rw [← hR1] at hcpA
 have hR1l : R1.length = C * 3 := by rw [hR1]; simp [hRs, hX]; omega
 have hR1t : R1.take (k * 3 + 3) = cur.toList.take (k * 3) ++ X := by
   rw [hR1, List.take_append_of_le_length (by simp [hRs, hX]; omega), List.take_of_length_le (by simp [hX]; omega), hRt]
 obtain ⟨W2, hW2⟩ : ∃ W2, W2 = W1.setRow w.heap.size R1.toArray := ⟨_, rfl⟩
 rw [← hW2] at hcpA
 have hW2n : W2.heap[w.heap.size]? = some (.cells R1.toArray 75 (0, 0)) := by rw [hW2]; exact setRow_heap W1 _ ROW _ 75 (0, 0) hW1n
 have hW2o : ∀ q, q < w.heap.size → W2.heap[q]? = w.heap[q]? := fun q hq => by rw [hW2]; exact (setRow_other W1 _ q _ (by omega)).trans (hW1o q hq)
 have hg2 : w.grownBy W2 none := by rw [hW2]; exact ⟨by simp [hg1.os], by simp [hg1.tape], by simp [hg1.output], by simpa using hg1.size, fun q hq h => (setRow_other W1 _ q _ (by omega)).trans (hg1.block q hq h)⟩
 have hs2 : W2.heap.size = w.heap.size + 1 := by rw [hW2]; simpa using hs1
 have hd : ((cur.toList.drop (k * 3)).take (n * 3 - k * 3)).length = (n - k) * 3 := by simp [hcur]; omega
 have HRZ := Lib.hid hrz
 have HCPA := Lib.hid hcpA
 have HB := Lib.hid (And.intro hb hv)
 have H1 := Lib.hid h1c
 have HC := Lib.hid (And.intro hC1 hC2)
 have HR := Lib.hid (And.intro hR1l hR1t)
 have HW := Lib.hid (And.intro hW2n (And.intro hW2o hg2))
 have HS2 := Lib.hid hs2
 have HD := Lib.hid hd
 have HCUR := Lib.hid hcur
 have hCb : C ≤ 9223372036854775807 := by unfold maxLen at hC2; omega
 have hCk : k + 1 ≤ C := by omega
 have hCn : (n : Int) + 1 ≤ (C : Int) := by omega
 have hk1 : IntKind.i64.wrap ((k : Int) + 1) = (k : Int) + 1 := IntWalk.i64_in _ (by omega)
 have hk2 : (0 : Int) ≤ (k : Int) + 1 := by omega
 have hk3 : ((k : Int) + 1).toNat = k + 1 := by omega
 have hkb : (k : Int) + 1 ≤ (n : Int) + 1 := by omega
 have hkn : (k : Int) ≤ (n : Int) := by omega
 clear hb hv h1c hXc h1X hold hrz hC1 hC2 hRs hRt hi hz0 hz1 hz2 i0 hW1 hW1n hW1o hg1 hs1 hcpA hRl hR1 hR1l hR1t hW2 hW2n hW2o hg2 hs2 hd hcur ROW
 go_enter Tryz.func91, Tryz.ntmps91
 go_wp2_with (first | (refine wpList_append_eq w rfl _ _ 23 3 rfl _ _ rfl rfl (HRZ.out _) ?_) | (refine wpList_copy_eq W1 rfl _ _ 23 23 rfl _ _ rfl rfl (HCPA.out _) ?_))
 (apply rg_region_tail 8 (by kernel_rfl) (by kernel_rfl) (by kernel_rfl); intro env)
 repeat (apply rg_det rfl; (intro W K hW _ hK; obtain ⟨hc, hf⟩ := bcell hW; go_simp; first | (rw [IntWalk.i64_in]; (exact hK _ (Below.refl _ _)); omega) | exact hK _ (Below.refl _ _)); rfl)
 (apply rg_tail; rfl; (simp only [List.drop_succ_cons, List.drop_zero]; rfl); intro W hW hF)
 have hcur := HCUR.out
 have hd := HD.out
 have hWn : W.heap[w.heap.size]? = some (.cells R1.toArray 75 (0, 0)) := (hW.block _ (by rw [HS2.out]; omega)).trans HW.out.1
 have hWb : W.heap[b]? = some (.cells cur 75 (0, 0)) := (hW.block b (by rw [HS2.out]; omega)).trans ((HW.out.2.1 b hbw).trans HB.out.1)
 have hcpB := run_copy_row (P := Tryz.prog) W 23 23 3 75 3 w.heap.size ((k + 1) * 3) (n - k) (C - (k + 1)) R1.toArray 75 ⟨b, k * 3, none⟩ (n - k) (n - k) ((cur.toList.drop (k * 3)).take (n * 3 - k * 3)) (n - k) U23 hsz (by simp) hd hWn
   (fun j u hj => by
     rw [aadd, rowL hWb]
     rw [List.getElem?_take] at hj
     split at hj
     · rw [List.getElem?_drop, Array.getElem?_toList] at hj; exact hj
     · cases hj) (by have := HR.out.1; rw [hd]; simp [this]; omega) (fun u hu => H1.out u (by
     obtain ⟨q, hq, rfl⟩ := List.mem_iff_getElem.1 hu
     simp only [List.getElem_take, List.getElem_drop]
     rw [hd] at hq
     refine List.mem_iff_getElem.2 ⟨k * 3 + q, by simp [hcur]; omega, by simp⟩))
 rw [hd] at hcpB
 obtain ⟨R2, hR2⟩ : ∃ R2, R2 = R1.toArray.toList.take ((k + 1) * 3) ++ (cur.toList.drop (k * 3)).take (n * 3 - k * 3) ++ R1.toArray.toList.drop ((k + 1) * 3 + (n - k) * 3) := ⟨_, rfl⟩
 rw [← hR2] at hcpB
 have hfin := setRow_heap W w.heap.size R1.toArray R2.toArray 75 (0, 0) hWn
 have hgr : w.grownBy (W.setRow w.heap.size R2.toArray) none := by
   have h3 := HW.out.2.2
   exact ⟨by simp [hW.os, h3.os], by simp [hW.tape, h3.tape], by simp [hW.output, h3.output], by simpa using Nat.le_trans h3.size hW.size, fun q hq h => (setRow_other W _ q _ (by omega)).trans ((hW.block q (by rw [HS2.out]; omega)).trans (h3.block q hq h))⟩
 have hr2l : R2.length = C * 3 := by rw [hR2]; have := HR.out.1; simp [this, hcur]; omega
 have hr2t : R2.take ((n + 1) * 3) = cur.toList.take (k * 3) ++ X ++ (cur.toList.take (n * 3)).drop (k * 3) := by
   rw [hR2, List.toList_toArray, show (k + 1) * 3 = k * 3 + 3 by omega, HR.out.2, List.take_append_of_le_length (by simp [hcur, hX]; omega), List.take_of_length_le (by simp [hcur, hX]; omega), List.drop_take]
 have HF := Lib.hid (And.intro hfin (And.intro hgr (And.intro hr2l hr2t)))
 clear hfin hgr hr2l hr2t hR2 hWn hWb hW hF hd hcur
 refine wpList_copy_eq W rfl _ _ 23 23 rfl _ _ rfl rfl hcpB ?_
 clear hcpB
 go_wp2_with fail
 go_ret
 exact ⟨C, R2, rfl, HC.out.1, HC.out.2, HF.out.1, HF.out.2.2.1, HF.out.2.2.2, HF.out.2.1⟩
theorem flat_take {z : Nat} : ∀ (xs : List AV) (k : Nat), (∀ x, x ∈ xs → x.cells.length = z) → k ≤ xs.length → (xs.take k).flatMap AV.cells = (xs.flatMap AV.cells).take (k * z) ∧ (xs.drop k).flatMap AV.cells = (xs.flatMap AV.cells).drop (k * z) := by
 intro xs
 induction xs with
 | nil => intro k _ hk; simp
 | cons x xs ih =>
   intro k hz hk
   cases k with
   | zero => simp
   | succ k =>
     have hx := hz x List.mem_cons_self
     obtain ⟨h1, h2⟩ := ih k (fun y hy => hz y (List.mem_cons_of_mem _ hy)) (by simpa using hk)
     rw [List.take_succ_cons, List.drop_succ_cons, List.flatMap_cons, List.flatMap_cons, h1, h2]
     rw [show (k + 1) * z = x.cells.length + k * z by rw [hx, Nat.add_mul]; omega, List.take_length_add_append, List.drop_length_add_append]
     exact ⟨rfl, rfl⟩
theorem insRow_one {β : List Hd} {w : World} {us : List Value} {xs : List AV} (h4 : ∀ (j : Nat) (u : Value) (y : AV), us[j]? = some u → (xs.flatMap AV.cells)[j]? = some y → VRep β w u y) (hl : us.length = (xs.flatMap AV.cells).length) (ho : (xs.all fun x => x.cells.all AV.one) = true) : ∀ u ∈ us, u.oneCell' = true := by
 intro u hu
 obtain ⟨q, hq, rfl⟩ := List.mem_iff_getElem.1 hu
 have hq2 : q < (xs.flatMap AV.cells).length := by omega
 refine (h4 q _ _ (List.getElem?_eq_getElem hq) (List.getElem?_eq_getElem hq2)).one ?_
 obtain ⟨x, hx, hy⟩ := List.mem_flatMap.1 (List.getElem_mem hq2)
 exact List.all_eq_true.1 (List.all_eq_true.1 ho x hx) _ hy
theorem insertSe_fn (xs : List AV) (y : AV) (k : Nat) (hk : k ≤ xs.length) (hl : xs.length + 1 ≤ 1000000) (ho : (xs.all fun x => x.cells.all AV.one) = true) (hoy : y.cells.all AV.one = true) {H : List AO} {i g i2 g2 : Nat}
   {q : Int} (hq : q = (k : Int)) (hi : H[i]? = some (.row g 75 3 xs)) (hi2 : H[i2]? = some (.row g2 75 3 [y])) (hne : i ≠ i2) :
   FnH Tryz.prog 91 [.own i g, .int .i64 q, .own i2 g2] H (.own i (g + 1)) (H.set i (.row (g + 1) 75 3 (xs.take k ++ [y] ++ xs.drop k))) := by
 subst hq
 intro w β vs hH hv
 obtain ⟨hsz, hvr⟩ := hv
 obtain ⟨v, v1, v2, rfl⟩ : ∃ v v1 v2, vs = #[v, v1, v2] := by
   have h3 : vs.size = 3 := hsz
   exact ⟨vs[0], vs[1], vs[2], Array.ext (by simpa using h3) fun q h1 h2 => by
     have : q = 0 ∨ q = 1 ∨ q = 2 := by simp at h2; omega
     rcases this with rfl | rfl | rfl <;> rfl⟩
 obtain rfl := (hvr 1 v1 _ rfl rfl).int_inv
 obtain ⟨us, e1, e2, e3, e4⟩ := (hvr 0 v _ rfl rfl).own_at hH hi
 obtain ⟨X, f1, f2, f3, f4⟩ := (hvr 2 v2 _ rfl rfl).own_at hH hi2
 have hy : y.cells.length = 3 := f3 y (by simp)
 have hul : us.length = (xs.flatMap AV.cells).length := by rw [e2.1, flat_len' xs e3]
 have hXl : X.length = 3 := by have := f2.1; simpa using this
 have h1us := insRow_one e4 hul ho
 have h1X := insRow_one f4 (by rw [f2.1, flat_len' [y] f3]) (by simpa using hoy)
 have hflat : (xs.take k ++ [y] ++ xs.drop k).flatMap AV.cells = (xs.flatMap AV.cells).take (k * 3) ++ y.cells ++ (xs.flatMap AV.cells).drop (k * 3) := by
   obtain ⟨a1, a2⟩ := flat_take xs k e3 hk
   rw [List.flatMap_append, List.flatMap_append, a1, a2]; simp
 have hzz : ∀ x, x ∈ xs.take k ++ [y] ++ xs.drop k → x.cells.length = 3 := by
   intro x hx
   simp only [List.mem_append, List.mem_singleton] at hx
   rcases hx with (hx | rfl) | hx
   · exact e3 x (List.mem_of_mem_take hx)
   · exact hy
   · exact e3 x (List.mem_of_mem_drop hx)
 have hlen : (xs.take k ++ [y] ++ xs.drop k).length = xs.length + 1 := by simp; omega
 have hkz : k * 3 ≤ us.length := by rw [e2.1]; omega
 have fin : ∀ (v' : Value) (w' : World), w'.ownsRow 0 75 3 v' (xs.length + 1) (us.take (k * 3) ++ X ++ us.drop (k * 3)) → w.grownBy w' v.ownBlock → (v'.ownBlock = v.ownBlock ∨ v'.ownBlock = some w.heap.size) →
     ∃ v β', Ending.returned v' = .returned v ∧ Ext β w β' w' ∧ HRel β' (H.set i (.row (g + 1) 75 3 (xs.take k ++ [y] ++ xs.drop k))) w' ∧ VRep β' w' v (.own i (g + 1)) := by
   intro v' w' q1 q2 q3
   have hlt := (List.getElem?_eq_some_iff.1 e1).1
   have hgrow := hH.grow e1 q2 q3 (o := .row (g + 1) 75 3 (xs.take k ++ [y] ++ xs.drop k)) (fun hx => ⟨rfl, _, by rw [hlen]; exact q1, hzz, fun q u y' p1 p2 => by
     refine VRep.ext hx ?_
     rw [hflat] at p2
     have hfl : (xs.flatMap AV.cells).length = us.length := hul.symm
     by_cases c1 : q < k * 3
     · rw [List.append_assoc, List.getElem?_append_left (by rw [List.length_take]; omega), List.getElem?_take_of_lt c1] at p1
       rw [List.append_assoc, List.getElem?_append_left (by rw [List.length_take]; omega), List.getElem?_take_of_lt c1] at p2
       exact e4 q u y' p1 p2
     · by_cases c2 : q < k * 3 + 3
       · rw [List.append_assoc, List.getElem?_append_right (by rw [List.length_take]; omega), List.length_take, Nat.min_eq_left hkz, List.getElem?_append_left (by rw [hXl]; omega)] at p1
         rw [List.append_assoc, List.getElem?_append_right (by rw [List.length_take]; omega), List.length_take, Nat.min_eq_left (by omega), List.getElem?_append_left (by rw [hy]; omega)] at p2
         exact f4 _ u y' p1 (by simpa using p2)
       · rw [List.getElem?_append_right (by rw [List.length_append, List.length_take, hXl]; omega), List.getElem?_drop, List.length_append, List.length_take, hXl, Nat.min_eq_left hkz] at p1
         rw [List.getElem?_append_right (by rw [List.length_append, List.length_take, hy]; omega), List.getElem?_drop, List.length_append, List.length_take, hy, Nat.min_eq_left (by omega)] at p2
         exact e4 _ u y' p1 p2⟩)
   refine ⟨v', _, rfl, hgrow.1, hgrow.2, .own _ _ _ (by simpa using hlt) (fun u g' hb => ?_) (ownsRow_one q1)⟩
   rw [List.getElem?_set_self hlt] at hb
   cases hb
   exact ⟨Nat.le_refl _, fun _ => rfl⟩
 by_cases hkn : k = xs.length
 · subst hkn
   refine (insertSe_end w v v2 xs.length us X e2 (by simpa using f2) h1X hl).mono ?_
   rintro e w' ⟨v', rfl, q1, q2, q3⟩
   have hull : us.length = xs.length * 3 := e2.1
   exact fin v' w' (by rw [List.take_of_length_le (by omega), List.drop_eq_nil_of_le (by omega), List.append_nil]; exact q1) q2 q3
 · rcases e2.2 with ⟨_, h0⟩ | ⟨b, cap, cur, hvv, _, hg, hnc, hcm, hcs, htk⟩
   · omega
   rcases f2.2 with ⟨_, h0⟩ | ⟨vb, vc, vcur, hvv2, _, hg2, hnc2, hcm2, hcs2, htk2⟩
   · simp at h0
   subst hvv
   subst hvv2
   have hnb : vb ≠ b := fun e => by subst e; exact hH.ap i i2 _ _ vb hne e1 f1 (opt_mem.2 rfl) (opt_mem.2 rfl)
   have hXc : ∀ (j : Nat) (u : Value), X[j]? = some u → vcur[j]? = some u := by
     intro j u hj
     rw [← htk2, List.getElem?_take] at hj
     split at hj
     · simpa using hj
     · cases hj
   have hc0 : 0 < vcur.size := by simp at hnc2; omega
   have h1c : ∀ u ∈ cur.toList.take (xs.length * 3), u.oneCell' = true := by rw [htk]; exact h1us
   have hulz : us.length = xs.length * 3 := e2.1
   have hmid : cur.toList.take (k * 3) = us.take (k * 3) ∧ (cur.toList.take (xs.length * 3)).drop (k * 3) = us.drop (k * 3) := by
     constructor
     · rw [← htk, List.take_take]; congr 1; omega
     · rw [htk]
   by_cases hroom : xs.length + 1 ≤ cap
   · unfold maxLen at hcm
     refine (insertSe_shift w b xs.length cap k cur vb vc vcur X hg hcs (by omega) hroom hcm hg2 hnb hXl hXc h1X h1c hc0).mono ?_
     rintro e w' ⟨rfl, q1, q2⟩
     have hcl : cur.toList.length = cap * 3 := by simpa using hcs
     obtain ⟨m1, m2⟩ := midRow_take cur.toList X (k * 3) (xs.length * 3) 3 (by omega) hXl (by rw [hcl]; omega)
     rw [hmid.1, hmid.2] at m1
     have hull : us.length = xs.length * 3 := hulz
     exact fin _ w' ⟨by simp [hXl]; omega, .inr ⟨b, cap, _, rfl, Nat.zero_le _, q1, hroom, by unfold maxLen; omega, by simp [m2, hcs], by rw [show (xs.length + 1) * 3 = xs.length * 3 + 3 by omega]; simpa using m1⟩⟩ q2 (.inl rfl)
   · refine (insertSe_grow w b xs.length cap k cur vb vc vcur X hg hcs (by omega) hnc (by omega) hl hg2 hXl hXc h1X h1c).mono ?_
     rintro e w' ⟨C, row, rfl, q1, q2, q3, q4, q5, q6⟩
     rw [hmid.1, hmid.2] at q5
     have hull : us.length = xs.length * 3 := hulz
     exact fin _ w' ⟨by simp [hXl]; omega, .inr ⟨_, C, _, rfl, Nat.zero_le _, q3, q1, q2, by simp [q4], by simpa using q5⟩⟩ ⟨q6.os, q6.tape, q6.output, q6.size, fun q hq h => q6.block q hq (by simp)⟩ (.inr rfl)
end Go.Proofs.YtcndnllmlhhjiaaGreatDoor.Ssn
namespace Go.Proofs.YtcndnllmlhhjiaaGreatDoor.Ssn
open Go.RowKit
open SessP
def putP (l : List Se) (s : Se) : List Se :=
 if 0 ≤ idxOf (fun x => decide (x.client = s.client)) l then l.set (idxOf (fun x => decide (x.client = s.client)) l).toNat s
 else if idxOf (fun x => decide (s.client < x.client)) l < 0 then l.take l.length ++ [s] ++ l.drop l.length
 else l.take (idxOf (fun x => decide (s.client < x.client)) l).toNat ++ [s] ++ l.drop (idxOf (fun x => decide (s.client < x.client)) l).toNat
def noteP (l : List Se) (s : Se) : List Se × Int :=
 if (askP l s.client s.seq).2.2 = 0 then if may s = true then if (askP l s.client s.seq).2.1 = true then ([], 41) else (putP l s, 0) else ([], 2)
 else ([], (askP l s.client s.seq).2.2)
theorem ins_map (l : List Se) (s : Se) (k : Nat) : (l.take k ++ [s] ++ l.drop k).map aSe = (l.map aSe).take k ++ [aSe s] ++ (l.map aSe).drop k := by
 rw [List.map_append, List.map_append, List.map_take, List.map_drop]; rfl
theorem set_cells {z : Nat} {xs : List AV} {k : Nat} {X : AV} (h : ∀ x, x ∈ xs → x.cells.length = z) (hX : X.cells.length = z) : ∀ x, x ∈ xs.set k X → x.cells.length = z := by
 intro x hx
 rcases List.mem_or_eq_of_mem_set hx with hx | rfl
 · exact h x hx
 exact hX
theorem clone_new (l : List Se) (hl : l.length ≤ 1000000) : FnNew Tryz.prog 87 [.sl (l.map aSe)] 75 3 (l.map aSe) :=
 FnNew.of_owns encSe aSe 3 encSe_len (fun x => rfl) (fun x u hu => by simp [encSe] at hu; rcases hu with rfl | rfl | rfl <;> rfl) l (fun w a cap hr _ _ _ => cloneSe_any a cap l w hr hl)
theorem noteF_fn (x s : Se) : FnP Tryz.prog 90 [aSe x, .pe (aSe s).cells] (.bool (decide (s.client < x.client))) := by
 refine FnP.of Tryz.func90 rfl rfl (by simp) (by simp [AV.cells, aSe]) (fun G hG => ?_)
 have hN : NoH G.length (.bool (decide (s.client < x.client))) := (by simp [AV.cells, aSe])
 refine sr fun _ => ?_
 refine ARun.box (j := 0) hG rfl rfl rfl rfl rfl (ep rfl) rfl rfl optN ?_
 refine mz (sr fun _ => ?_)
 refine ρa (fo := 0) U75 sz3 ?_
 refine ρd U3 ?_
 first | refine ρ6 U75 sz3 ?_ | refine ρa (fo := 0) U75 sz3 ?_
 first | refine ρ5 U3 ?_ | refine ρd U3 ?_
 refine ρ1 ?_
 refine mz ?_
 refine AWP.ret ?_
 refine ρc ?_
 rfl
theorem note_fn (l : List Se) (s : Se) (hl : l.length ≤ 1000) (hs : s.reply.size ≤ 9223372036854775807) : FnP Tryz.prog 56 [.sl (l.map aSe), aSe s] (.tup [.sl ((noteP l s).1.map aSe), .int .i64 (noteP l s).2]) := by
 have hr1 := idx_range (fun x : Se => decide (x.client = s.client)) l
 have hr2 := idx_range (fun x : Se => decide (s.client < x.client)) l
 refine FnP.of Tryz.func56 rfl rfl (by simp) (by simp [AV.cells, aSe]) (fun G hG => ?_)
 have hN : NoH G.length (.tup [.sl ((noteP l s).1.map aSe), .int .i64 (noteP l s).2]) := (by simp [AV.cells, aSe])
 refine sr fun _ => ?_
 refine ARun.box (j := 0) hG rfl rfl rfl rfl rfl (ep rfl) rfl rfl optN ?_
 refine ma ?_
 refine mz (sr fun _ => ?_)
 refine mv ?_
 refine ρa (fo := 0) U75 sz3 ?_
 refine ρd U3 ?_
 refine ρa (fo := 1) U75 sz3 ?_
 refine ρd U3 ?_
 refine ARun.call rfl rfl rfl rfl cf54 (ep rfl) (.cons (ep rfl) (.cons (ep rfl) (.cons (ep rfl) .nil))) rfl (fun hg => ask_fn l s.client s.seq (by omega)) optN ?_
 refine mv ?_
 refine ρ4 ?_
 refine ρ4 ?_
 refine ρ4 ?_
 refine ma ?_
 refine ma ?_
 refine mz ?_
 refine AWP.seq (AWP.block (sr fun _ => ?_))
 refine mv ?_
 refine ρ1 ?_
 refine mz ?_
 refine ρq (fun h0 => ?_) (fun h0 => ?_)
 · try simp at h0
   refine sr fun _ => ?_
   refine mv ?_
   refine ma ?_
   refine mz ?_
   refine AWP.ret (blockA_r (thenA_r ?_))
   refine ρl (rs := [.tmp 4, .tmp 5]) (.cons (.tmp rfl) (.cons (.tmp rfl) .nil)) ?_
   rw [show noteP l s = ([], (askP l s.client s.seq).2.2) from by unfold noteP; rw [if_neg h0]]; rfl
 try simp at h0
 refine sr fun _ => ?_
 refine ρo U75 sz75 ?_
 refine ρj cf86 (fun hg => may_fn s) ?_
 refine ARun.not rfl rfl rfl rfl (ep rfl) optN ?_
 refine mz ?_
 refine ρq (fun h1 => ?_) (fun h1 => ?_)
 · try simp at h1
   refine sr fun _ => ?_
   refine ma ?_
   refine mz ?_
   refine AWP.ret (blockA_r (thenA_r ?_))
   refine ρl (rs := [.tmp 4, .tmp 5]) (.cons (.tmp rfl) (.cons (.tmp rfl) .nil)) ?_
   rw [show noteP l s = ([], 2) from by unfold noteP; rw [if_pos h0, if_neg (by simp [h1])]]; rfl
 try simp at h1
 refine sr fun _ => ?_
 refine mv ?_
 refine mz ?_
 refine ρq (fun h2 => ?_) (fun h2 => ?_)
 · try simp at h2
   refine sr fun _ => ?_
   refine ma ?_
   refine mz ?_
   refine AWP.ret (blockA_r (thenA_r ?_))
   refine ρl (rs := [.tmp 4, .tmp 5]) (.cons (.tmp rfl) (.cons (.tmp rfl) .nil)) ?_
   rw [show noteP l s = ([], 41) from by unfold noteP; rw [if_pos h0, if_pos h1, if_pos h2]]; rfl
 try simp at h2
 refine AWP.skip (blockA_n (thenA_n (sr fun _ => ?_)))
 refine mv ?_
 refine ARun.callNew (j := 1) hG rfl rfl rfl rfl rfl cf87 (ep rfl) (.cons (ep rfl) .nil) rfl (clone_new l (by omega)) optN ?_
 refine mz ?_
 refine AWP.seq (sr fun _ => ?_)
 refine mv ?_
 refine ρa (fo := 0) U75 sz3 ?_
 refine ρd U3 ?_
 refine ρj cf89 (fun hg => of_fn _) ?_
 refine ARun.callLent rfl rfl rfl rfl cf88 (ep rfl) (.cons (ep rfl) (.cons (ep rfl) .nil)) rfl (.own ((hG.at _ _).trans rfl) (by simp [maxLen]; omega) (.same .nil)) (indexSe 130 [] [.pe [.int .i64 s.client]] (fun x => decide (x.client = s.client)) l (by omega) cf130 (by simp) (fun x _ => off_fn x s.client)) (by simp [AV.cells, aSe]) optN ?_
 refine mz (sr fun _ => ?_)
 refine mv ?_
 refine ρ1 ?_
 refine ez ?_
 refine ρq (fun h3 => ?_) (fun h3 => ?_)
 · try simp at h3
   refine sr fun _ => ?_
   refine mv ?_
   refine mv ?_
   refine ρo U75 sz75 ?_
   refine ARun.indexOwn (j := (idxOf (fun x => decide (x.client = s.client)) l).toNat) rfl rfl rfl rfl U23 sz75 ((hG.at _ _).trans rfl) (ep rfl) (ep rfl) (fun hg => ofNonneg (by omega)) (fun hg => (by simp; omega)) optN ?_
   refine ARun.storeEltL (zs := (l.map aSe).set (idxOf (fun x => decide (x.client = s.client)) l).toNat (aSe s)) hG rfl rfl rfl sz75 (ep rfl) (ep rfl) rfl rfl rfl rfl rfl (by simp; omega) (flat_set _ _ (aSe s) (by simp [aSe, AV.cells]) rfl (by simp; omega)) (by simp) (set_cells (by simp [aSe, AV.cells]) rfl) rfl ?_
   refine ez (sr fun _ => ?_)
   refine mv ?_
   refine ma ?_
   refine mz ?_
   refine AWP.frzOwn 4 hG rfl rfl (by decide) (by simp [maxLen]; omega) rfl ?_
   refine AWP.ret (thenA_r ?_)
   refine ρl (rs := [.tmp 4, .tmp 5]) (.cons (.tmp rfl) (.cons (.tmp rfl) .nil)) ?_
   rw [show noteP l s = (putP l s, 0) from by unfold noteP; rw [if_pos h0, if_pos h1, if_neg (by simp [h2])], show (putP l s).map aSe = _ from by unfold putP; rw [if_pos (by omega), List.map_set]]; rfl
 try simp at h3
 refine AWP.skip (thenA_n (AWP.seq ?_))
 refine AWP.frzBox 3 hG rfl rfl rfl ?_
 refine AWP.region (fun _ => ?_)
 refine mv ?_
 refine ARun.makeFunc rfl rfl rfl rfl .nil (.cons (ep rfl) .nil) optN ?_
 refine ARun.callLent rfl rfl rfl rfl cf88 (ep rfl) (.cons (ep rfl) (.cons (ep rfl) .nil)) rfl (.own ((hG.at _ _).trans rfl) (by simp [maxLen]; omega) (.same .nil)) (indexSe 90 [] [.pe (aSe s).cells] (fun x => decide (s.client < x.client)) l (by omega) cf90 (by simp [aSe, AV.cells]) (fun x _ => noteF_fn x s)) (by simp [AV.cells, aSe]) optN ?_
 refine mz ?_
 refine AWP.seq (sr fun _ => ?_)
 refine mv ?_
 refine ρ1 ?_
 refine ez ?_
 refine ρq (fun h4 => ?_) (fun h4 => ?_)
 · try simp at h4
   refine AWP.region (fun _ => ?_)
   refine mv ?_
   refine ARun.lenOwn rfl rfl rfl rfl U23 (ep rfl) ((hG.at _ _).trans rfl) optN ?_
   refine mz (sr fun _ => ?_)
   refine mv ?_
   refine mv ?_
   refine ρk U75 sz75 ?_
   refine ARun.buildOwn (j := 2) hG rfl rfl rfl rfl rfl U23 sz75 zv75 rfl (by decide) (.cons (ep rfl) .nil) rfl rfl rfl rfl (by decide) rfl rfl optN ?_
   refine ARun.callSet (j := 1) hG rfl rfl rfl rfl cf91 (ep rfl) (.cons (ep rfl) (.cons (ep rfl) (.cons (ep rfl) .nil))) rfl (insertSe_fn (l.map aSe) (aSe s) l.length (by simp) (by simp; omega) (by simp [aSe, AV.cells, AV.one]) rfl (i := G.length + 1) (i2 := G.length + 2) (by simp) ((hG.at _ _).trans rfl) ((hG.at _ _).trans rfl) (by omega)) rfl optN ?_
   refine ma ?_
   refine mz ?_
   refine AWP.frzOwn 4 hG rfl rfl (by decide) (by simp [maxLen]; omega) rfl ?_
   refine AWP.ret ?_
   refine ρl (rs := [.tmp 4, .tmp 5]) (.cons (.tmp rfl) (.cons (.tmp rfl) .nil)) ?_
   rw [show noteP l s = (putP l s, 0) from by unfold noteP; rw [if_pos h0, if_pos h1, if_neg (by simp [h2])], show (putP l s).map aSe = (l.map aSe).take l.length ++ [aSe s] ++ (l.map aSe).drop l.length from by unfold putP; rw [if_neg (by omega), if_pos (by omega)]; exact ins_map _ _ _]; rfl
 try simp at h4
 refine AWP.skip (thenA_n (sr fun _ => ?_))
 refine mv ?_
 refine mv ?_
 refine ρk U75 sz75 ?_
 refine ARun.buildOwn (j := 2) hG rfl rfl rfl rfl rfl U23 sz75 zv75 rfl (by decide) (.cons (ep rfl) .nil) rfl rfl rfl rfl (by decide) rfl rfl optN ?_
 refine ARun.callSet (j := 1) hG rfl rfl rfl rfl cf91 (ep rfl) (.cons (ep rfl) (.cons (ep rfl) (.cons (ep rfl) .nil))) rfl (insertSe_fn (l.map aSe) (aSe s) (idxOf (fun x => decide (s.client < x.client)) l).toNat (by simp; omega) (by simp; omega) (by simp [aSe, AV.cells, AV.one]) rfl (i := G.length + 1) (i2 := G.length + 2) (by omega) ((hG.at _ _).trans rfl) ((hG.at _ _).trans rfl) (by omega)) rfl optN ?_
 refine ma ?_
 refine mz ?_
 refine AWP.frzOwn 4 hG rfl rfl (by decide) (by simp [maxLen]; omega) rfl ?_
 refine AWP.ret ?_
 refine ρl (rs := [.tmp 4, .tmp 5]) (.cons (.tmp rfl) (.cons (.tmp rfl) .nil)) ?_
 rw [show noteP l s = (putP l s, 0) from by unfold noteP; rw [if_pos h0, if_pos h1, if_neg (by simp [h2])], show (putP l s).map aSe = (l.map aSe).take (idxOf (fun x => decide (s.client < x.client)) l).toNat ++ [aSe s] ++ (l.map aSe).drop (idxOf (fun x => decide (s.client < x.client)) l).toNat from by unfold putP; rw [if_neg (by omega), if_neg (by omega)]; exact ins_map _ _ _]; rfl
end Go.Proofs.YtcndnllmlhhjiaaGreatDoor.Ssn
namespace Go.Proofs.YtcndnllmlhhjiaaGreatDoor.Ssn
open SessP
theorem idxOf_nil {α : Type} (p : α → Bool) : idxOf p [] = -1 := by simp [idxOf]
theorem idxOf_cons {α : Type} (p : α → Bool) (x : α) (l : List α) : idxOf p (x :: l) = if p x = true then 0 else if 0 ≤ idxOf p l then idxOf p l + 1 else -1 := by
 unfold idxOf
 rw [List.findIdx?_cons]
 by_cases h : p x = true
 · simp [h]
 · rw [if_neg h, if_neg h]
   cases l.findIdx? p with
   | none => simp
   | some i => simp
theorem idxOf_hit {α : Type} {p : α → Bool} {x : α} (l : List α) (h : p x = true) : idxOf p (x :: l) = 0 := by rw [idxOf_cons, if_pos h]
theorem idxOf_far {α : Type} {p : α → Bool} {x : α} {l : List α} (h : p x = false) (h2 : 0 ≤ idxOf p l) : idxOf p (x :: l) = idxOf p l + 1 := by rw [idxOf_cons, if_neg (by simp [h]), if_pos h2]
theorem idxOf_mis {α : Type} {p : α → Bool} {x : α} {l : List α} (h : p x = false) (h2 : ¬ 0 ≤ idxOf p l) : idxOf p (x :: l) = -1 := by rw [idxOf_cons, if_neg (by simp [h]), if_neg h2]
theorem idxOf_ge {α : Type} (p : α → Bool) (l : List α) : -1 ≤ idxOf p l := (idx_range p l).1
def asc : Int → List Se → Prop
 | _, [] => True
 | p, x :: l => p < x.client ∧ asc x.client l
theorem asc_of_ok : ∀ (l : List Se) (p : Int), okFrom p l = true → asc p l := by
 intro l
 induction l with
 | nil => intro p _; trivial
 | cons x l ih =>
   intro p h
   simp only [okFrom, Bool.and_eq_true, decide_eq_true_eq] at h
   exact ⟨h.1.2, ih _ h.2⟩
theorem asc_all : ∀ (l : List Se) (p : Int), asc p l → ∀ x, x ∈ l → p < x.client := by
 intro l
 induction l with
 | nil => intro p _ x hx; cases hx
 | cons y l ih =>
   intro p h x hx
   rcases List.mem_cons.1 hx with rfl | hx
   · exact h.1
   · exact Int.lt_trans h.1 (ih _ h.2 x hx)
theorem idxOf_no {α : Type} (p : α → Bool) (l : List α) (h : ∀ x, x ∈ l → p x = false) : idxOf p l = -1 := by
 unfold idxOf
 rw [List.findIdx?_eq_none_iff.2 (fun x hx => by simp [h x hx])]
def putR : List Se → Se → List Se
 | [], s => [s]
 | x :: t, s => if x.client < s.client then x :: putR t s else if x.client = s.client then s :: t else s :: x :: t
theorem putP_eq : ∀ (l : List Se) (s : Se) (p : Int), asc p l → putP l s = putR l s := by
 intro l
 induction l with
 | nil => intro s p _; simp [putP, putR, idxOf_nil]
 | cons x l ih =>
   intro s p h
   have hr1 := idxOf_ge (fun x : Se => decide (x.client = s.client)) l
   have hr2 := idxOf_ge (fun x : Se => decide (s.client < x.client)) l
   unfold putR
   by_cases h1 : x.client < s.client
   · rw [if_pos h1, ← ih s _ h.2]
     have n1 : (fun x : Se => decide (x.client = s.client)) x = false := by simp; omega
     have n2 : (fun x : Se => decide (s.client < x.client)) x = false := by simp; omega
     unfold putP
     by_cases c1 : 0 ≤ idxOf (fun x : Se => decide (x.client = s.client)) l
     · rw [idxOf_far (p := fun x : Se => decide (x.client = s.client)) (x := x) (l := l) n1 c1, if_pos (by omega), if_pos c1, show (idxOf (fun x : Se => decide (x.client = s.client)) l + 1).toNat = (idxOf (fun x : Se => decide (x.client = s.client)) l).toNat + 1 by omega]
       rfl
     · rw [idxOf_mis (p := fun x : Se => decide (x.client = s.client)) (x := x) (l := l) n1 c1, if_neg (by omega), if_neg c1]
       by_cases c2 : 0 ≤ idxOf (fun x : Se => decide (s.client < x.client)) l
       · rw [idxOf_far (p := fun x : Se => decide (s.client < x.client)) (x := x) (l := l) n2 c2, if_neg (by omega), if_neg (by omega), show (idxOf (fun x : Se => decide (s.client < x.client)) l + 1).toNat = (idxOf (fun x : Se => decide (s.client < x.client)) l).toNat + 1 by omega]
         rfl
       · rw [idxOf_mis (p := fun x : Se => decide (s.client < x.client)) (x := x) (l := l) n2 c2, if_pos (by omega), if_pos (by omega)]
         rfl
   · rw [if_neg h1]
     by_cases h2 : x.client = s.client
     · rw [if_pos h2]
       unfold putP
       rw [idxOf_hit l (p := fun x : Se => decide (x.client = s.client)) (by simpa using h2), if_pos (by omega)]
       rfl
     · rw [if_neg h2]
       have hn := asc_all l _ h.2
       have n1 : (fun x : Se => decide (x.client = s.client)) x = false := by simpa using h2
       have n2 : (fun x : Se => decide (s.client < x.client)) x = true := by simp; omega
       unfold putP
       rw [idxOf_mis (p := fun x : Se => decide (x.client = s.client)) (x := x) (l := l) n1 (by rw [idxOf_no _ l (fun y hy => by have := hn y hy; simp; omega)]; omega), if_neg (by omega), idxOf_hit (p := fun x : Se => decide (s.client < x.client)) (x := x) l n2, if_neg (by omega)]
       rfl
theorem okE_ok {l : List Se} (h : okE l = 0) : l.length ≤ 20 ∧ okFrom 0 l = true := by
 unfold okE ok at h
 split at h
 · rename_i h2; simpa using h2
 · cases h
theorem askP_ok {l : List Se} {c q : Int} (h : (askP l c q).2.2 = 0) : okE l = 0 ∧ numB c = true ∧ numB q = true := by
 unfold askP at h
 split at h
 · assumption
 · cases h
theorem numB_iff (n : Int) : numB n = true ↔ 1 ≤ n ∧ n ≤ 99999 := by unfold numB; simp
theorem map_snoc {α β : Type} (f : α → β) (l : List α) (x : α) : l.map f ++ [f x] = (l ++ [x]).map f := by simp
theorem flt_yes {q : Se → Bool} {l : List Se} {k : Nat} (hk : k < l.length) (h : q (l.getD k default) = true) : (l.take k).filter q ++ [l.getD k default] = (l.take (k + 1)).filter q := by
 rw [List.take_succ_eq_append_getElem hk, List.filter_append, ← Se_idx hk]; congr 1; simp only [List.filter, h]
theorem flt_no {q : Se → Bool} {l : List Se} {k : Nat} (hk : k < l.length) (h : q (l.getD k default) = false) : (l.take k).filter q = (l.take (k + 1)).filter q := by
 rw [List.take_succ_eq_append_getElem hk, List.filter_append, ← Se_idx hk]; simp only [List.filter, h, List.append_nil]
/-! ### what the laws ask -/
theorem okFrom_iff : ∀ (l : List Se) (p : Int), okFrom p l = true ↔ (∀ x, x ∈ l → may x = true) ∧ asc p l := by
 intro l
 induction l with
 | nil => intro p; simp [okFrom, asc]
 | cons x l ih =>
   intro p
   simp only [okFrom, Bool.and_eq_true, decide_eq_true_eq, ih, asc, List.mem_cons, forall_eq_or_imp]
   constructor
   · rintro ⟨⟨a, b⟩, c, d⟩; exact ⟨⟨a, c⟩, b, d⟩
   · rintro ⟨⟨a, c⟩, b, d⟩; exact ⟨⟨a, b⟩, c, d⟩
theorem putR_asc : ∀ (l : List Se) (s : Se) (p : Int), asc p l → p < s.client → asc p (putR l s) := by
 intro l
 induction l with
 | nil => intro s p _ h; exact ⟨h, trivial⟩
 | cons x l ih =>
   intro s p h hp
   unfold putR
   split
   · rename_i h1; exact ⟨h.1, ih s _ h.2 h1⟩
   · split
     · rename_i h1 h2; exact ⟨hp, h2 ▸ h.2⟩
     · rename_i h1 h2; exact ⟨hp, by omega, h.2⟩
theorem putR_mem : ∀ (l : List Se) (s x : Se), x ∈ putR l s → x = s ∨ x ∈ l := by
 intro l
 induction l with
 | nil => intro s x h; simpa [putR] using h
 | cons y l ih =>
   intro s x h
   unfold putR at h
   split at h
   · rcases List.mem_cons.1 h with rfl | h
     · exact .inr List.mem_cons_self
     · rcases ih s x h with h | h
       · exact .inl h
       · exact .inr (List.mem_cons_of_mem _ h)
   · split at h
     · rcases List.mem_cons.1 h with rfl | h
       · exact .inl rfl
       · exact .inr (List.mem_cons_of_mem _ h)
     · rcases List.mem_cons.1 h with rfl | h
       · exact .inl rfl
       · exact .inr h
theorem findP_nil (c : Int) : findP [] c = (default, false) := by unfold findP; rw [idxOf_nil, if_neg (by omega)]
theorem findP_cons (x : Se) (l : List Se) (c : Int) : findP (x :: l) c = if x.client = c then (x, true) else findP l c := by
 by_cases h : x.client = c
 · rw [if_pos h]
   unfold findP
   rw [idxOf_hit l (p := fun x : Se => decide (x.client = c)) (by simpa using h), if_pos (by omega)]; rfl
 · rw [if_neg h]
   have n1 : (fun x : Se => decide (x.client = c)) x = false := by simpa using h
   unfold findP
   by_cases h2 : 0 ≤ idxOf (fun x : Se => decide (x.client = c)) l
   · rw [idxOf_far (p := fun x : Se => decide (x.client = c)) (x := x) (l := l) n1 h2, if_pos h2, if_pos (by omega), show (idxOf (fun x : Se => decide (x.client = c)) l + 1).toNat = (idxOf (fun x : Se => decide (x.client = c)) l).toNat + 1 by omega]; rfl
   · rw [idxOf_mis (p := fun x : Se => decide (x.client = c)) (x := x) (l := l) n1 h2, if_neg h2, if_neg (by omega)]
theorem findP_no {l : List Se} {c : Int} (h : ∀ x, x ∈ l → x.client ≠ c) : findP l c = (default, false) := by
 unfold findP
 rw [idxOf_no _ l (fun x hx => by simpa using h x hx), if_neg (by omega)]
theorem findP_putR : ∀ (l : List Se) (s : Se) (c : Int), findP (putR l s) c = if c = s.client then (s, true) else findP l c := by
 intro l
 induction l with
 | nil => intro s c; unfold putR; rw [findP_cons, findP_nil]; by_cases h : c = s.client <;> simp [h]; intro h2; exact absurd h2.symm h
 | cons x l ih =>
   intro s c
   unfold putR
   split
   · rename_i h1
     rw [findP_cons, ih, findP_cons]
     by_cases h : c = s.client
     · rw [if_pos h, if_neg (by omega), if_pos h]
     · rw [if_neg h, if_neg h]
   · split
     · rename_i h1 h2
       rw [findP_cons, findP_cons]
       by_cases h : c = s.client
       · rw [if_pos h, if_pos h.symm]
       · rw [if_neg h, if_neg (fun e => h e.symm), if_neg (by omega)]
     · rename_i h1 h2
       rw [findP_cons]
       by_cases h : c = s.client
       · rw [if_pos h, if_pos h.symm]
       · rw [if_neg h, if_neg (fun e => h e.symm)]
theorem putR_len : ∀ (l : List Se) (s : Se) (p : Int), asc p l → (putR l s).length ≤ l.length + 1 ∧ ((findP l s.client).2 = true → (putR l s).length = l.length) := by
 intro l
 induction l with
 | nil => intro s p _; simp [putR, findP_nil]
 | cons x l ih =>
   intro s p h
   obtain ⟨h1, h2⟩ := ih s _ h.2
   have hn := asc_all l _ h.2
   unfold putR
   rw [findP_cons]
   split
   · rename_i hx
     rw [if_neg (by omega)]
     simp only [List.length_cons]
     exact ⟨by omega, fun h => by rw [h2 h]⟩
   · split
     · simp
     · rename_i a b
       rw [findP_no (fun y hy => by have := hn y hy; omega)]
       simp
end Go.Proofs.YtcndnllmlhhjiaaGreatDoor.Ssn
namespace Go.Proofs.YtcndnllmlhhjiaaGreatDoor.Ssn
open Go.RowKit
open SessP
def fewB (l : List Se) : Bool := decide (l.length ≤ 60) && l.all fun x => decide (x.reply.size ≤ 1000)
theorem few_bad {l : List Se} {k : Nat} (hk : k < l.length) (h : 1000 < (l.getD k default).reply.size) : fewB l = false := by
 unfold fewB
 rw [Bool.and_eq_false_iff]; right
 rw [List.all_eq_false]
 exact ⟨l[k], List.getElem_mem hk, by rw [Se_idx hk] at h; simp; omega⟩
theorem few_good {l : List Se} (h : l.length ≤ 60) (h2 : ∀ j, j < l.length → (l.getD j default).reply.size ≤ 1000) : fewB l = true := by
 unfold fewB
 rw [decide_eq_true h, Bool.true_and, List.all_eq_true]
 intro x hx
 obtain ⟨j, hj, rfl⟩ := List.mem_iff_getElem.1 hx
 have := h2 j hj
 rw [Se_idx hj] at this
 exact decide_eq_true this
theorem few_fn (l : List Se) : FnP Tryz.prog 22 [.sl (l.map aSe)] (.bool (fewB l)) := by
 refine FnP.of Tryz.func22 rfl rfl (by simp) (by simp [AV.cells, aSe]) (fun G hG => ?_)
 have hN : NoH G.length (.bool (fewB l)) := (by simp [AV.cells, aSe])
 refine sr fun _ => ?_
 refine mz ?_
 refine AWP.seq (sr fun _ => ?_)
 refine mv ?_
 refine ρr U23 ?_
 refine ρ1 ?_
 refine ez ?_
 refine ρq (fun h0 => ?_) (fun h0 => ?_)
 · simp [-List.getD_eq_getElem?_getD] at h0
   refine sr fun _ => ?_
   refine mz ?_
   refine AWP.ret (thenA_r ?_)
   refine ρc ?_
   rw [show fewB l = false from by unfold fewB; rw [decide_eq_false (by omega)]; rfl]; rfl
 simp [-List.getD_eq_getElem?_getD] at h0
 refine AWP.skip (thenA_n (AWP.seq (sr fun _ => ?_)))
 refine mz ?_
 refine AWP.block ?_
 refine AWP.rounds (fun k => k ≤ l.length ∧ ∀ j, j < k → (l.getD j default).reply.size ≤ 1000) (fun k => [(0, .sl (l.map aSe)), (3, .int .i64 (k : Int))]) (fun k => []) (fun k => l.length - k) 0 0 ⟨by omega, fun j h => by omega⟩ (by repeat (first | exact .nil | refine .cons rfl ?_)) rfl (fun _ => rfl) (fun _ => (by simp [AO.conts, AV.cells, aSe])) (fun k hI => ?_)
 obtain ⟨hk, hno⟩ := hI
 refine AWP.seq (sr fun _ => ?_)
 refine mv ?_
 refine mv ?_
 refine ρr U23 ?_
 refine ρ1 ?_
 refine ez ?_
 refine ρq (fun h1 => ?_) (fun h1 => ?_)
 · simp [-List.getD_eq_getElem?_getD] at h1
   refine AWP.skip (thenA_n ?_)
   refine AWP.seq (AWP.block (sr fun _ => ?_))
   refine mv ?_
   refine mv ?_
   first | refine ρ9 U23 sz75 ?_ | refine ρ3 U23 sz75 ?_
   refine ρ6 U75 sz9 ?_
   refine ρ5 U9 ?_
   refine ARun.lenStr rfl rfl rfl rfl U9 (ep rfl) optN ?_
   refine ρ1 ?_
   refine ez ?_
   refine ρq (fun h2 => ?_) (fun h2 => ?_)
   · simp [-List.getD_eq_getElem?_getD] at h2
     refine sr fun _ => ?_
     refine mz ?_
     refine AWP.ret (blockA_r ?_)
     refine thenA_r (thenA_r ?_)
     refine blockA_r (thenA_r ?_)
     refine ρc ?_
     rw [few_bad h1 (by omega)]; rfl
   simp [-List.getD_eq_getElem?_getD] at h2
   refine AWP.skip (blockA_n (thenA_n ?_))
   refine AWP.region (fun _ => ?_)
   refine mv ?_
   first | refine ρ7 ?_ | refine ρg ?_
   refine ma ?_
   refine ⟨_, _, rfl, hG, ?_⟩
   refine thenA_n ⟨rfl, k + 1, _, ?_, ?_, rfl, ?_⟩
   · refine ⟨by omega, fun j hj => ?_⟩
     by_cases e : j = k
     · subst e; omega
     exact hno j (by omega)
   · repeat (first | exact .nil | refine .cons rfl ?_)
   omega
 simp [-List.getD_eq_getElem?_getD] at h1
 refine AWP.exit ?_
 refine thenA_x ?_
 refine thenA_x ?_
 refine blockA_h ?_
 refine thenA_n (sr fun _ => ?_)
 refine mz ?_
 refine AWP.ret ?_
 refine ρc ?_
 rw [few_good (by omega) (fun j hj => hno j (by omega))]; rfl
end Go.Proofs.YtcndnllmlhhjiaaGreatDoor.Ssn
namespace Go.Proofs.YtcndnllmlhhjiaaGreatDoor.Ssn
open SessP
theorem note_good {l : List Se} {s : Se} (h : (noteP l s).2 = 0) : (askP l s.client s.seq).2.2 = 0 ∧ may s = true ∧ (askP l s.client s.seq).2.1 = false ∧ (noteP l s).1 = putR l s := by
 unfold noteP at h ⊢
 by_cases h1 : (askP l s.client s.seq).2.2 = 0
 · rw [if_pos h1] at h ⊢
   by_cases h2 : may s = true
   · rw [if_pos h2] at h ⊢
     by_cases h3 : (askP l s.client s.seq).2.1 = true
     · rw [if_pos h3] at h; cases h
     · rw [if_neg h3]
       exact ⟨h1, h2, by simpa using h3, putP_eq l s 0 (asc_of_ok l 0 (okE_ok (askP_ok h1).1).2)⟩
   · rw [if_neg h2] at h; cases h
 · rw [if_neg h1] at h; exact absurd h h1
theorem ask_room {l : List Se} {c q : Int} (h : (askP l c q).2.2 = 0) (hf : (findP l c).2 = false) : l.length < 20 := by
 have h1 := askP_ok h
 unfold askP at h
 rw [if_pos h1, if_neg (by simp [hf])] at h
 split at h
 · cases h
 · omega
theorem note_ok {l : List Se} {s : Se} (h : (noteP l s).2 = 0) : okE (noteP l s).1 = 0 := by
 obtain ⟨h1, h2, h3, h4⟩ := note_good h
 obtain ⟨hl, ho⟩ := okE_ok (askP_ok h1).1
 have ha := (okFrom_iff l 0).1 ho
 have hlen := putR_len l s 0 ha.2
 rw [h4]
 refine okE_good ?_ ((okFrom_iff _ _).2 ⟨fun x hx => ?_, putR_asc l s 0 ha.2 (may_pos h2)⟩)
 · cases hf : (findP l s.client).2 with
   | true => rw [hlen.2 hf]; exact hl
   | false => have := ask_room h1 hf; omega
 · rcases putR_mem l s x hx with rfl | hx
   · exact h2
   · exact ha.1 x hx
theorem find_note {l : List Se} {s : Se} (h : (noteP l s).2 = 0) (c : Int) : findP (noteP l s).1 c = if c = s.client then (s, true) else findP l c := by
 rw [(note_good h).2.2.2, findP_putR]
theorem ask_after {l : List Se} {s : Se} (h : (noteP l s).2 = 0) (n : Int) : askP (noteP l s).1 s.client n = if numB n = true then (if s.seq = n then (s.reply, true, 0) else if n < s.seq then (⟨#[]⟩, false, 45) else (⟨#[]⟩, false, 0)) else (⟨#[]⟩, false, 2) := by
 have h1 := (askP_ok (note_good h).1).2.1
 have h2 := note_ok h
 have h3 : findP (noteP l s).1 s.client = (s, true) := by rw [find_note h, if_pos rfl]
 unfold askP
 by_cases hn : numB n = true
 · rw [if_pos ⟨h2, h1, hn⟩, if_pos hn, h3, if_pos rfl]
 · rw [if_neg (fun e => hn e.2.2), if_neg hn]
end Go.Proofs.YtcndnllmlhhjiaaGreatDoor.Ssn
namespace Go.Proofs.YtcndnllmlhhjiaaGreatDoor.StockP
def okLFrom : Int → List Ln → Bool
 | _, [] => true
 | p, x :: l => decide (p < x.item ∧ x.item ≤ 99999 ∧ 1 ≤ x.qty ∧ x.qty ≤ 1000000) && okLFrom x.item l
def okL (l : List Ln) : Bool := decide (1 ≤ l.length ∧ l.length ≤ 5) && okLFrom 0 l
def okLE (l : List Ln) : Int := if okL l = true then 0 else 2
def lastL : Int → List Ln → Int
 | p, [] => p
 | _, x :: l => lastL x.item l
theorem okLFrom_snoc (l : List Ln) (x : Ln) : ∀ p, okLFrom p (l ++ [x]) = (okLFrom p l && decide (lastL p l < x.item ∧ x.item ≤ 99999 ∧ 1 ≤ x.qty ∧ x.qty ≤ 1000000)) := by
 induction l with
 | nil => intro p; simp only [List.nil_append, okLFrom, lastL, Bool.and_true, Bool.true_and]; rfl
 | cons y l ih => intro p; simp only [List.cons_append, okLFrom, ih, lastL, Bool.and_assoc]; rfl
theorem okLFrom_prefix (l m : List Ln) : ∀ p, okLFrom p (l ++ m) = true → okLFrom p l = true := by
 induction l with
 | nil => intro p _; rfl
 | cons y l ih =>
   intro p h
   simp only [List.cons_append, okLFrom, Bool.and_eq_true] at h ⊢
   exact ⟨h.1, ih _ h.2⟩
theorem lastL_snoc (l : List Ln) (x : Ln) : ∀ p, lastL p (l ++ [x]) = x.item := by
 induction l with
 | nil => intro p; rfl
 | cons y l ih => intro p; exact ih y.item
theorem okLFrom_cut {xs : List Ln} {k : Nat} (h : okLFrom 0 (xs.take k) = false) : okLFrom 0 xs = false := by
 cases h2 : okLFrom 0 xs with
 | false => rfl
 | true =>
   rw [← List.take_append_drop k xs] at h2
   rw [okLFrom_prefix _ _ _ h2] at h
   exact absurd h (by decide)
theorem okLFrom_mem {l : List Ln} : ∀ {p : Int}, okLFrom p l = true → ∀ x, x ∈ l → p < x.item ∧ x.item ≤ 99999 ∧ 1 ≤ x.qty ∧ x.qty ≤ 1000000 := by
 induction l with
 | nil => intro p _ x hx; cases hx
 | cons y l ih =>
   intro p h x hx
   simp only [okLFrom, Bool.and_eq_true, decide_eq_true_eq] at h
   cases hx with
   | head => exact h.1
   | tail _ hx => have := ih h.2 x hx; omega
def goesP (f : List It → Int → Int → List It × Int) : Int → List It → List Ln → List It × Int × Int
 | i, items, [] => (items, i, 0)
 | i, items, x :: l => if (f items x.item x.qty).2 ≠ 0 then ([], i, (f items x.item x.qty).2) else goesP f (i + 1) (f items x.item x.qty).1 l
theorem goesP_cons (f : List It → Int → Int → List It × Int) (i : Int) (items : List It) (x : Ln) (l : List Ln) : goesP f i items (x :: l) = if (f items x.item x.qty).2 ≠ 0 then ([], i, (f items x.item x.qty).2) else goesP f (i + 1) (f items x.item x.qty).1 l := rfl
def allP (f : List It → Int → Int → List It × Int) (items : List It) (l : List Ln) : List It × Int × Int :=
 if ok items = true ∧ okL l = true then goesP f 0 items l else ([], 0, 2)
def sumF : List Ln → Int
 | [] => 0
 | x :: l => x.qty + sumF l
theorem sumF_snoc (l : List Ln) (x : Ln) : sumF (l ++ [x]) = sumF l + x.qty := by
 induction l with
 | nil => simp [sumF]
 | cons y l ih => simp only [List.cons_append, sumF, ih]; omega
def totalP (l : List Ln) : Int := if okL l = true then sumF l else 0
end Go.Proofs.YtcndnllmlhhjiaaGreatDoor.StockP
namespace Go.Proofs.YtcndnllmlhhjiaaGreatDoor.StockP
def can (ys : List It) (l : Ln) : Prop := (findT ys l.item).2 = true ∧ l.qty ≤ (findT ys l.item).1.free
def canF (ys : List It) (l : Ln) : Prop := (findT ys l.item).2 = true ∧ l.qty ≤ (findT ys l.item).1.held
instance (ys : List It) (l : Ln) : Decidable (can ys l) := by unfold can; infer_instance
instance (ys : List It) (l : Ln) : Decidable (canF ys l) := by unfold canF; infer_instance
end Go.Proofs.YtcndnllmlhhjiaaGreatDoor.StockP
namespace Go.Proofs.YtcndnllmlhhjiaaGreatDoor.StockP
abbrev holdF (ys : List It) (i q : Int) : List It × Int := withP (holdG q) ys i q
end Go.Proofs.YtcndnllmlhhjiaaGreatDoor.StockP
namespace Go.Proofs.YtcndnllmlhhjiaaGreatDoor.Stk
open Go.RowKit
open StockP
theorem put_fn (l : List It) (x : It) (hl : l.length ≤ 1000) : FnP Tryz.prog 135 [.sl (l.map aIt), aIt x] (.sl ((put l x).map aIt)) := by
 refine FnP.of Tryz.func135 rfl rfl (by simp) (by simp [AV.cells, aIt]) (fun G hG => ?_)
 have hN : NoH G.length (.sl ((put l x).map aIt)) := (by simp [AV.cells, aIt])
 refine sr fun _ => ?_
 refine ARun.box (j := 0) hG rfl rfl rfl rfl rfl (ep rfl) rfl rfl optN ?_
 refine mz (sr fun _ => ?_)
 refine ARun.nilOwn (e := 108) (z := 4) (j := 1) hG rfl ⟨.inl rfl, rfl⟩ (fun _ => rfl) rfl rfl rfl optN ?_
 refine ez ?_
 refine AWP.seq (sr fun _ => ?_)
 refine mz ?_
 refine AWP.block ?_
 refine AWP.rounds (fun s => s.1 ≤ l.length ∧ s.2 = l.take s.1 ∧ ∀ j, j < s.1 → (l.getD j default).id < x.id) (fun s => [(0, .sl (l.map aIt)), (3, .box (G.length + 0) 0), (5, .own (G.length + 1) s.1), (6, .int .i64 (s.1 : Int))]) (fun s => [.box [.int .i64 x.id, .int .i64 x.free, .int .i64 x.held, .int .i64 x.gone], .row s.1 108 4 (s.2.map aIt)]) (fun s => l.length - s.1) 2 ((0, []) : Nat × List It) ⟨by dsimp only; omega, rfl, fun j h => by dsimp only at h; omega⟩ (by repeat (first | exact .nil | refine .cons rfl ?_)) rfl (fun _ => rfl) (fun _ => (by simp [AO.conts, AV.cells, aIt]; rintro y a _ (rfl | rfl | rfl | rfl) <;> simp)) (fun s hI => ?_)
 obtain ⟨k, acc⟩ := s
 dsimp only at hI
 show AWP _ _ _ _ _ [(0, .sl (l.map aIt)), (3, .box (G.length + 0) 0), (5, .own (G.length + 1) k), (6, .int .i64 (k : Int))] _ [.box [.int .i64 x.id, .int .i64 x.free, .int .i64 x.held, .int .i64 x.gone], .row k 108 4 (acc.map aIt)]
 obtain ⟨hk, hacc0, hno⟩ := hI
 have hl0 : acc.length ≤ 1000 := by rw [hacc0]; simp; omega
 refine AWP.seq (AWP.seq ?_)
 refine AWP.draw mixed (by kernel_rfl) (fun _ => ?_)
 refine mv ?_
 refine mv ?_
 refine ρr U22 ?_
 refine ρ1 ?_
 refine mv ?_
 refine ρi ?_
 refine ρi ?_
 first | refine ARun.indexSl rfl rfl rfl rfl U22 sz108 (Ev.opt rfl (fun h => h)) (Ev.opt rfl (fun h => h)) (fun _ => rfl) (fun hg => getMap _ _ _ (by (try simp at hg); omega)) rfl rfl optS ?_ | refine ARun.indexSl rfl rfl rfl rfl U22 sz108 (Ev.opt rfl (fun h => h)) (Ev.opt rfl (fun h => h)) (fun hg => ofNonneg (by (try simp at hg); omega)) (fun hg => getMap _ _ _ (by (try simp at hg); omega)) rfl rfl optS ?_
 refine ARun.fieldPe rfl rfl rfl rfl U108 rfl rfl sz3 (by decide) (Ev.opt rfl (fun h => h)) rfl optS ?_
 refine ρb U3 ?_
 refine ρt (fo := 0) U108 sz3 ?_
 refine ρs U3 ?_
 refine ρw ?_
 refine ρ0 ?_
 refine ⟨by kernel_rfl, _, _, rfl, hG, ?_⟩
 refine thenA_n ?_
 refine ρq (fun h0 => ?_) (fun h0 => ?_)
 · try simp [-List.getD_eq_getElem?_getD] at h0
   refine AWP.skip (thenA_n ?_)
   refine AWP.seq (AWP.block ?_)
   refine AWP.region (fun _ => ?_)
   refine mv ?_
   refine mv ?_
   refine mv ?_
   first | refine ρ9 U22 sz108 ?_ | refine ρ3 U22 sz108 ?_
   refine ρk U108 sz108 ?_
   refine ARun.buildSl rfl rfl rfl rfl U22 sz108 zv108 rfl (by decide) (.cons (ep rfl) .nil) rfl rfl rfl rfl (by decide) rfl rfl optN ?_
   refine ARun.appendL hG rfl rfl rfl rfl U22 ti108 rfl (by decide) (ep rfl) (ep rfl) rfl rfl (by simp [maxLen]; omega) (by simp; omega) (map_snoc aIt acc (l.getD k default)) optN rfl ?_
   refine ma ?_
   refine ⟨_, _, rfl, hG, ?_⟩
   refine blockA_n (thenA_n ?_)
   refine AWP.region (fun _ => ?_)
   refine mv ?_
   first | refine ρ7 ?_ | refine ρg ?_
   refine ma ?_
   refine ⟨_, _, rfl, hG, ?_⟩
   refine thenA_n ⟨rfl, (k + 1, acc ++ [l.getD k default]), _, ?_, ?_, rfl, ?_⟩
   · refine ⟨by dsimp only; omega, by dsimp only; rw [hacc0]; exact (take_snoc2 h0.1), fun j hj => ?_⟩
     dsimp only at hj
     by_cases e : j = k
     · subst e; omega
     exact hno j (by omega)
   · repeat (first | exact .nil | refine .cons rfl ?_)
   dsimp only; omega
 try simp [-List.getD_eq_getElem?_getD] at h0
 refine AWP.exit ?_
 refine thenA_x ?_
 refine thenA_x ?_
 refine blockA_h ?_
 refine thenA_n (sr fun _ => ?_)
 refine mv ?_
 refine ρo U108 sz108 ?_
 refine ARun.buildSl rfl rfl rfl rfl U22 sz108 zv108 rfl (by decide) (.cons (ep rfl) .nil) rfl rfl rfl rfl (by decide) rfl rfl optN ?_
 refine ARun.appendL hG rfl rfl rfl rfl U22 ti108 rfl (by decide) (ep rfl) (ep rfl) rfl rfl (by simp [maxLen]; omega) (by simp; omega) (map_snoc aIt acc x) optN rfl ?_
 refine mz ?_
 refine AWP.seq (sr fun _ => ?_)
 refine mz ?_
 refine AWP.block ?_
 refine AWP.rounds (fun s => s.1 ≤ l.length ∧ s.2.2 = l.takeWhile (fun y => decide (y.id < x.id)) ++ [x] ++ (l.take s.1).filter (fun y => decide (x.id < y.id)) ∧ s.2.2.length ≤ l.length + 1 + s.1) (fun s => [(0, .sl (l.map aIt)), (3, .box (G.length + 0) 0), (5, .own (G.length + 1) s.2.1), (7, .int .i64 (s.1 : Int))]) (fun s => [.box [.int .i64 x.id, .int .i64 x.free, .int .i64 x.held, .int .i64 x.gone], .row s.2.1 108 4 (s.2.2.map aIt)]) (fun s => l.length - s.1) 2 ((0, k + 1, acc ++ [x]) : Nat × Nat × List It) ⟨by dsimp only; omega, by dsimp only; rw [hacc0, tw_is hk hno (by omega)]; simp, by rw [hacc0]; simp; omega⟩ (by repeat (first | exact .nil | refine .cons rfl ?_)) rfl (fun _ => rfl) (fun _ => (by simp [AO.conts, AV.cells, aIt]; rintro y a _ (rfl | rfl | rfl | rfl) <;> simp)) (fun s hI => ?_)
 obtain ⟨kk, gg, acc⟩ := s
 dsimp only at hI
 show AWP _ _ _ _ _ [(0, .sl (l.map aIt)), (3, .box (G.length + 0) 0), (5, .own (G.length + 1) gg), (7, .int .i64 (kk : Int))] _ [.box [.int .i64 x.id, .int .i64 x.free, .int .i64 x.held, .int .i64 x.gone], .row gg 108 4 (acc.map aIt)]
 obtain ⟨hk2, hacc, hlen⟩ := hI
 refine AWP.seq (sr fun _ => ?_)
 refine mv ?_
 refine mv ?_
 refine ρr U22 ?_
 refine ρ1 ?_
 refine ez ?_
 refine ρq (fun h1 => ?_) (fun h1 => ?_)
 · try simp [-List.getD_eq_getElem?_getD] at h1
   refine AWP.skip (thenA_n ?_)
   refine AWP.seq (AWP.block (AWP.seq ?_))
   refine AWP.draw mixed (by kernel_rfl) (fun _ => ?_)
   refine mv ?_
   refine mv ?_
   first | refine ρ9 U22 sz108 ?_ | refine ρ3 U22 sz108 ?_
   refine ρ6 U108 sz3 ?_
   refine ρ5 U3 ?_
   refine ρa (fo := 0) U108 sz3 ?_
   refine ρd U3 ?_
   refine ρ1 ?_
   refine ⟨by kernel_rfl, _, _, rfl, hG, ?_⟩
   refine thenA_n ?_
   refine ρq (fun h2 => ?_) (fun h2 => ?_)
   · try simp [-List.getD_eq_getElem?_getD] at h2
     refine AWP.region (fun _ => ?_)
     refine mv ?_
     refine mv ?_
     refine mv ?_
     first | refine ρ9 U22 sz108 ?_ | refine ρ3 U22 sz108 ?_
     refine ρk U108 sz108 ?_
     refine ARun.buildSl rfl rfl rfl rfl U22 sz108 zv108 rfl (by decide) (.cons (ep rfl) .nil) rfl rfl rfl rfl (by decide) rfl rfl optN ?_
     refine ARun.appendL hG rfl rfl rfl rfl U22 ti108 rfl (by decide) (ep rfl) (ep rfl) rfl rfl (by simp [maxLen]; omega) (by simp; omega) (map_snoc aIt acc (l.getD kk default)) optN rfl ?_
     refine ma ?_
     refine ⟨_, _, rfl, hG, ?_⟩
     refine blockA_n (thenA_n ?_)
     refine AWP.region (fun _ => ?_)
     refine mv ?_
     first | refine ρ7 ?_ | refine ρg ?_
     refine ma ?_
     refine ⟨_, _, rfl, hG, ?_⟩
     refine thenA_n ⟨rfl, (kk + 1, gg + 1, acc ++ [l.getD kk default]), _, ?_, ?_, rfl, ?_⟩
     · refine ⟨by dsimp only; omega, ?_, by simp; omega⟩
       dsimp only; rw [hacc, List.append_assoc]; congr 1; exact flt_yes h1 (by simpa using h2)
     · repeat (first | exact .nil | refine .cons rfl ?_)
     dsimp only; omega
   try simp [-List.getD_eq_getElem?_getD] at h2
   refine AWP.skip (blockA_n (thenA_n ?_))
   refine AWP.region (fun _ => ?_)
   refine mv ?_
   first | refine ρ7 ?_ | refine ρg ?_
   refine ma ?_
   refine ⟨_, _, rfl, hG, ?_⟩
   refine thenA_n ⟨rfl, (kk + 1, gg, acc), _, ?_, ?_, rfl, ?_⟩
   · refine ⟨by dsimp only; omega, ?_, by dsimp only; omega⟩
     dsimp only; rw [hacc]; congr 1; exact flt_no h1 (by simpa using h2)
   · repeat (first | exact .nil | refine .cons rfl ?_)
   dsimp only; omega
 try simp [-List.getD_eq_getElem?_getD] at h1
 refine AWP.exit ?_
 refine thenA_x ?_
 refine thenA_x ?_
 refine blockA_h ?_
 refine thenA_n (sr fun _ => ?_)
 refine mv ?_
 refine mz ?_
 refine AWP.frzOwn 4 hG rfl rfl (by decide) (by simp [maxLen]; omega) rfl ?_
 refine AWP.ret ?_
 refine ρc ?_
 unfold put; rw [hacc, List.take_of_length_le h1, List.append_assoc]; rfl
end Go.Proofs.YtcndnllmlhhjiaaGreatDoor.Stk
namespace Go.Proofs.YtcndnllmlhhjiaaGreatDoor.Stk
open Go.RowKit
open StockP
abbrev holdF (ys : List It) (i q : Int) : List It × Int := withP (holdG q) ys i q
theorem ln_get {m : List Ln} {k : Nat} (h : k < m.length) : m.getD k default = m[k] := by simp [List.getD, h]
theorem stepL (m : List Ln) (k : Nat) (h : k < m.length) : okLFrom 0 (m.take (k + 1)) = (okLFrom 0 (m.take k) && decide (lastL 0 (m.take k) < (m.getD k default).item ∧ (m.getD k default).item ≤ 99999 ∧ 1 ≤ (m.getD k default).qty ∧ (m.getD k default).qty ≤ 1000000)) := by
 rw [ln_get h, show m.take (k + 1) = m.take k ++ [m[k]] by simp]; exact okLFrom_snoc _ _ _
theorem lastL_at (m : List Ln) (k : Nat) (h : k < m.length) : lastL 0 (m.take (k + 1)) = (m.getD k default).item := by
 rw [ln_get h, show m.take (k + 1) = m.take k ++ [m[k]] by simp]; exact lastL_snoc _ _ _
theorem lastL_ge (l : List Ln) : ∀ p, okLFrom p l = true → p ≤ lastL p l := by
 induction l with
 | nil => intro p _; exact Int.le_refl _
 | cons x l ih =>
   intro p h
   simp only [okLFrom, Bool.and_eq_true, decide_eq_true_eq] at h
   have := ih _ h.2
   show p ≤ lastL x.item l
   omega
theorem okLE_bad {m : List Ln} {k : Nat} (h : okLFrom 0 (m.take (k + 1)) = false) : okLE m = 2 := by
 unfold okLE okL; rw [okLFrom_cut h]; simp
theorem okLE_big {m : List Ln} (h : m.length < 1 ∨ 5 < m.length) : okLE m = 2 := by
 unfold okLE okL; rw [decide_eq_false (by omega)]; simp
theorem okLE_good {m : List Ln} (h : 1 ≤ m.length ∧ m.length ≤ 5) (h2 : okLFrom 0 (m.take m.length) = true) : okLE m = 0 := by
 rw [List.take_length] at h2
 unfold okLE okL; rw [decide_eq_true h, h2]; simp
theorem okLE_ok {m : List Ln} : okLE m = 0 ↔ okL m = true := by unfold okLE; split <;> simp_all
theorem okL_len {m : List Ln} (h : okL m = true) : 1 ≤ m.length ∧ m.length ≤ 5 := by unfold okL at h; simp at h; exact h.1
theorem okL_at {m : List Ln} (h : okL m = true) {k : Nat} (hk : k < m.length) : 1 ≤ (m.getD k default).qty ∧ (m.getD k default).qty ≤ 1000000 := by
 have h2 : okLFrom 0 m = true := by unfold okL at h; simp at h; exact h.2
 have := okLFrom_mem h2 m[k] (List.getElem_mem hk)
 rw [ln_get hk]; omega
theorem sumF_at (m : List Ln) (k : Nat) (h : k < m.length) : sumF (m.take (k + 1)) = sumF (m.take k) + (m.getD k default).qty := by
 rw [ln_get h, show m.take (k + 1) = m.take k ++ [m[k]] by simp]; exact sumF_snoc _ _
theorem sumF_bd {m : List Ln} (h : okL m = true) : ∀ k, k ≤ m.length → 0 ≤ sumF (m.take k) ∧ sumF (m.take k) ≤ 1000000 * (k : Int) := by
 intro k
 induction k with
 | zero => intro _; simp [sumF]
 | succ k ih =>
   intro hk
   have h1 := ih (by omega)
   have h2 := okL_at h (k := k) (by omega)
   rw [sumF_at m k (by omega)]; omega
theorem goes_step {fn : List It → Int → Int → List It × Int} {cur : List It} {m : List Ln} {k : Nat} (h : k < m.length) : goesP fn k cur (m.drop k) = if (fn cur (m.getD k default).item (m.getD k default).qty).2 ≠ 0 then ([], (k : Int), (fn cur (m.getD k default).item (m.getD k default).qty).2) else goesP fn ((k + 1 : Nat) : Int) (fn cur (m.getD k default).item (m.getD k default).qty).1 (m.drop (k + 1)) := by
 rw [List.drop_eq_getElem_cons h, ← ln_get h, goesP_cons]; rfl
theorem goes_end {fn : List It → Int → Int → List It × Int} {cur : List It} {m : List Ln} : goesP fn m.length cur (m.drop m.length) = (cur, (m.length : Int), 0) := by
 rw [List.drop_length]; rfl
theorem hold_len (l : List It) (i q : Int) : (holdF l i q).1.length ≤ l.length := with_len (holdG q) l i q
theorem allP_no {fn : List It → Int → Int → List It × Int} {l : List It} {m : List Ln} (h : ¬ (ok l = true ∧ okL m = true)) : allP fn l m = ([], 0, 2) := if_neg h
theorem allP_yes {fn : List It → Int → Int → List It × Int} {l : List It} {m : List Ln} (h : ok l = true ∧ okL m = true) : allP fn l m = goesP fn 0 l m := if_pos h
theorem checkL_fn (m : List Ln) : FnP Tryz.prog 173 [.sl (m.map aLn)] (.int .i64 (okLE m)) := by
 refine FnP.of Tryz.func173 rfl rfl (by simp) (by simp [AV.cells, aIt, aLn]) (fun G hG => ?_)
 have hN : NoH G.length (.int .i64 (okLE m)) := (by simp [AV.cells, aIt, aLn])
 refine sr fun _ => ?_
 refine mz ?_
 refine AWP.seq (sr fun _ => ?_)
 refine mv ?_
 refine ρr U82 ?_
 refine ρ1 ?_
 refine mv ?_
 refine ρi ?_
 refine ARun.lenSl rfl rfl rfl rfl U82 (Ev.opt rfl (fun h => h)) optS ?_
 refine ρf ?_
 refine ρ8 ?_
 refine ez ?_
 refine ρq (fun h0 => ?_) (fun h0 => ?_)
 · simp only [Bool.or_eq_true, decide_eq_true_eq, List.length_map] at h0
   refine sr fun _ => ?_
   refine mz ?_
   refine AWP.ret (thenA_r ?_)
   refine ρc ?_
   rw [okLE_big (by omega)]; rfl
 simp only [Bool.or_eq_false_iff, decide_eq_false_iff_not, List.length_map] at h0
 refine AWP.skip (thenA_n (sr fun _ => ?_))
 refine mz ?_
 refine AWP.seq (sr fun _ => ?_)
 refine mv ?_
 refine ρr U82 ?_
 refine mv ?_
 refine ez ?_
 refine AWP.block ?_
 refine AWP.rounds (fun k => k ≤ m.length ∧ okLFrom 0 (m.take k) = true) (fun k => [(3, .int .i64 (lastL 0 (m.take k))), (14, .sl (m.map aLn)), (15, .int .i64 ((m.map aLn).length : Int)), (16, .int .i64 (k : Int))]) (fun k => []) (fun k => m.length - k) 0 0 ⟨by omega, rfl⟩ (by repeat (first | exact .nil | refine .cons rfl ?_)) rfl (fun _ => rfl) (fun _ => (by simp [AO.conts, AV.cells, aIt, aLn])) (fun k hI => ?_)
 obtain ⟨hk, hok⟩ := hI
 refine sr fun _ => ?_
 refine ρ1 ?_
 refine ez ?_
 refine AWP.seq ?_
 refine ρq (fun h1 => ?_) (fun h1 => ?_)
 · try simp [-List.getD_eq_getElem?_getD] at h1
   refine AWP.skip (thenA_n ?_)
   refine AWP.seq (AWP.block (sr fun _ => ?_))
   first | refine ρ9 U82 sz127 ?_ | refine ρ3 U82 sz127 ?_
   refine ρk U127 sz127 ?_
   refine ρp (j := 0) zv127 ?_
   refine ρ2 sz127 ?_
   refine ez ?_
   refine AWP.seq (sr fun _ => ?_)
   refine ρa (fo := 0) U127 sz3 ?_
   refine ρd U3 ?_
   refine mv ?_
   refine ρ1 ?_
   refine mv ?_
   refine ρt (fo := 0) U127 sz3 ?_
   refine ρs U3 ?_
   refine ρf ?_
   refine ρ8 ?_
   refine mv ?_
   refine ρt (fo := 1) U127 sz3 ?_
   refine ρs U3 ?_
   refine ρf ?_
   refine ρ8 ?_
   refine mv ?_
   refine ρt (fo := 1) U127 sz3 ?_
   refine ρs U3 ?_
   refine ρf ?_
   refine ρ8 ?_
   refine ez ?_
   refine ρq (fun h2 => ?_) (fun h2 => ?_)
   · simp [-List.getD_eq_getElem?_getD] at h2
     have hst := stepL m k (by omega)
     have hln := lastL_ge (m.take k) 0 hok
     rw [decide_eq_false (by omega), Bool.and_false] at hst
     refine sr fun _ => ?_
     refine mz ?_
     refine AWP.ret (thenA_r ?_)
     refine blockA_r (thenA_r ?_)
     refine thenA_r (blockA_r (thenA_r ?_))
     refine ρc ?_
     rw [okLE_bad hst]; rfl
   simp [-List.getD_eq_getElem?_getD] at h2
   have hst := stepL m k (by omega)
   rw [decide_eq_true (by omega), hok, Bool.true_and] at hst
   refine AWP.skip (thenA_n ?_)
   refine AWP.region (fun _ => ?_)
   refine ρa (fo := 0) U127 sz3 ?_
   refine ρd U3 ?_
   refine ma ?_
   refine ⟨_, _, rfl, hG, ?_⟩
   refine blockA_n (thenA_n ?_)
   refine AWP.region (fun _ => ?_)
   first | refine ρ7 ?_ | refine ρg ?_
   refine mv ?_
   refine ⟨_, _, rfl, hG, ?_⟩
   refine thenA_n ⟨rfl, k + 1, _, ?_, ?_, rfl, ?_⟩
   · exact ⟨by omega, hst⟩
   · rw [lastL_at m k (by omega)]
     repeat (first | exact .nil | refine .cons rfl ?_)
   omega
 simp at h1
 obtain rfl : k = m.length := by omega
 refine AWP.exit ?_
 refine thenA_x ?_
 refine thenA_x ?_
 refine blockA_h ?_
 refine thenA_n (sr fun _ => ?_)
 refine mz ?_
 refine AWP.ret ?_
 refine ρc ?_
 rw [okLE_good (by omega) hok]; rfl
theorem mayB_fn (l : List It) (m : List Ln) : FnP Tryz.prog 185 [.sl (l.map aIt), .sl (m.map aLn)] (.bool (ok l && okL m)) := by
 refine FnP.of Tryz.func185 rfl rfl (by simp) (by simp [AV.cells, aIt, aLn]) (fun G hG => ?_)
 have hN : NoH G.length (.bool (ok l && okL m)) := (by simp [AV.cells, aIt, aLn])
 refine sr fun _ => ?_
 refine mz (sr fun _ => ?_)
 refine mv ?_
 refine ρj cf65 (fun hg => check_fn l) ?_
 refine ρ1 ?_
 refine mv ?_
 refine ρi ?_
 refine ρn cf173 (fun hg => checkL_fn m) ?_
 refine ρf ?_
 refine ρ0 ?_
 refine mz ?_
 refine AWP.ret ?_
 refine ρc ?_
 simp [okE_ok, okLE_ok]
def stp (l : List It) (x : Ln) : List It := if (holdF l x.item x.qty).2 = 0 then (holdF l x.item x.qty).1 else l
theorem doing_fn (l : List It) : FnNewB Tryz.prog 186 [.sl (l.map aIt), .fn (.func 157) [] []] (fun i => .fn (.func 192) [] [.pe [.fn (.func 157) [] []], .box i 0]) [.sl (l.map aIt)] := by
 refine FnNewB.of Tryz.func186 rfl rfl (by simp) (fun G hG => ?_)
 refine sr fun _ => ?_
 refine ARun.box1 (j := 0) hG rfl rfl rfl rfl rfl (ep rfl) (by first | rfl | exact aEr_one _ | exact aFl_one _) optN ?_
 refine ARun.boxPe1 rfl rfl rfl rfl (ep rfl) (by first | rfl | exact aEr_one _ | exact aFl_one _) optN ?_
 refine mz (sr fun _ => ?_)
 refine ARun.makeFunc rfl rfl rfl rfl .nil (.cons (ep rfl) (.cons (ep rfl) .nil)) optN ?_
 refine mz ?_
 refine AWP.ret ?_
 refine endN.one (.inr rfl) rfl (.tmp rfl) ?_ (by simp [AV.cells, aIt]) (by simp [AV.cells, aIt])
 rfl
theorem step_fn (l : List It) (x : Ln) (hl : l.length ≤ 1000) : FnM Tryz.prog 192 (fun i => [aLn x, .pe [.fn (.func 157) [] []], .box i 0]) [.sl (l.map aIt)] (.tup [.sl ((holdF l x.item x.qty).1.map aIt), .int .i64 (holdF l x.item x.qty).2]) [.sl ((stp l x).map aIt)] := by
 refine FnM.of Tryz.func192 rfl rfl (fun i => by simp) (fun H i m hHm hi hG => ?_)
 have hN : NoH H.length (.tup [.sl ((holdF l x.item x.qty).1.map aIt), .int .i64 (holdF l x.item x.qty).2]) := (by simp [AV.cells, aIt])
 refine sr fun _ => ?_
 refine ρv ?_
 refine ma ?_
 refine mz (sr fun _ => ?_)
 first | refine ρ5 U240 ?_ | refine ρd U240 ?_
 refine ARun.loadBox rfl rfl rfl rfl U22 rfl (ep rfl) (atO hi) rfl optN ?_
 refine ρ6 U127 sz3 ?_
 refine ρ5 U3 ?_
 refine ρ6 U127 sz3 ?_
 refine ρ5 U3 ?_
 refine ARun.call rfl rfl rfl rfl cf157 (ep rfl) (.cons (ep rfl) (.cons (ep rfl) (.cons (ep rfl) .nil))) rfl (fun hg => reserve_fn l x.item x.qty hl) optN ?_
 refine mv ?_
 refine ρ4 ?_
 refine ρ4 ?_
 refine ma ?_
 refine mz ?_
 refine AWP.seq (sr fun _ => ?_)
 refine mv ?_
 refine ρ1 ?_
 refine ez ?_
 refine ρq (fun h0 => ?_) (fun h0 => ?_)
 · try simp [-List.getD_eq_getElem?_getD] at h0
   refine AWP.region (fun _ => ?_)
   refine mv ?_
   refine ARun.storeO1 hi hG rfl rfl rfl sz22 (ep rfl) (ep rfl) (by first | rfl | exact aEr_one _ | exact aFl_one _) (Nat.le_of_ble_eq_true rfl) rfl (by simp [AV.cells, aIt]) (fun hG => ?_)
   refine ez (sr fun _ => ?_)
   refine mv ?_
   refine mv ?_
   refine ma ?_
   refine mz ?_
   refine AWP.ret ?_
   refine endF.toG (congrArg (fun c => H.set i (AO.box c)) (by rw [stp, if_pos h0]; rfl)) ?_
   refine endF.many (.inr rfl) (rs := [.tmp 4, .tmp 5]) rfl (.cons (.tmp rfl) (.cons (.tmp rfl) .nil)) (by simp) ?_ (by rw [List.length_set]; exact hN)
   rfl
 try simp [-List.getD_eq_getElem?_getD] at h0
 refine AWP.skip (thenA_n (sr fun _ => ?_))
 refine mv ?_
 refine mv ?_
 refine ma ?_
 refine mz ?_
 refine AWP.ret ?_
 refine endF.toG (congrArg (fun c => H.set i (AO.box c)) (by rw [stp, if_neg h0])) ?_
 refine endF.many (.inr rfl) (rs := [.tmp 4, .tmp 5]) rfl (.cons (.tmp rfl) (.cons (.tmp rfl) .nil)) (by simp) ?_ (by rw [List.length_set]; exact hN)
 rfl
theorem all_fn (l : List It) (m : List Ln) (hl : l.length ≤ 1000) : FnP Tryz.prog 172 [.sl (l.map aIt), .sl (m.map aLn), .fn (.func 157) [] []] (.tup [.sl ((allP holdF l m).1.map aIt), .int .i64 (allP holdF l m).2.1, .int .i64 (allP holdF l m).2.2]) := by
 refine FnP.of Tryz.func172 rfl rfl (by simp) (by simp [AV.cells, aIt, aLn]) (fun G hG => ?_)
 have hN : NoH G.length (.tup [.sl ((allP holdF l m).1.map aIt), .int .i64 (allP holdF l m).2.1, .int .i64 (allP holdF l m).2.2]) := (by simp [AV.cells, aIt, aLn])
 refine sr fun _ => ?_
 refine ma ?_
 refine ma ?_
 refine mz ?_
 refine AWP.seq (sr fun _ => ?_)
 refine mv ?_
 refine mv ?_
 refine ρm cf185 (fun hg => mayB_fn l m) ?_
 refine ARun.not rfl rfl rfl rfl (ep rfl) optN ?_
 refine ez ?_
 refine ρq (fun h0 => ?_) (fun h0 => ?_)
 · simp at h0
   refine sr fun _ => ?_
   refine ma ?_
   refine ma ?_
   refine mz ?_
   refine AWP.ret (thenA_r ?_)
   refine ρl (rs := [.tmp 6, .tmp 7, .tmp 8]) (.cons (.tmp rfl) (.cons (.tmp rfl) (.cons (.tmp rfl) .nil))) ?_
   rw [allP_no (by rintro ⟨a, b⟩; rw [a, b] at h0; simp at h0)]; rfl
 simp at h0
 have hml := okL_len h0.2
 have hdef := allP_yes (fn := holdF) h0
 refine AWP.skip (thenA_n (sr fun _ => ?_))
 refine mv ?_
 refine mv ?_
 refine ARun.callNewB (j := 0) hG rfl rfl rfl rfl rfl cf186 (ep rfl) (.cons (ep rfl) (.cons (ep rfl) .nil)) rfl (doing_fn l) optN ?_
 refine mz ?_
 refine AWP.seq (sr fun _ => ?_)
 refine mv ?_
 refine ρr U82 ?_
 refine mv ?_
 refine ez ?_
 refine AWP.block ?_
 refine AWP.rounds (fun s => s.1 ≤ m.length ∧ s.2.length ≤ 1000 ∧ goesP holdF 0 l m = goesP holdF s.1 s.2 (m.drop s.1)) (fun s => [(1, .sl (m.map aLn)), (6, .sl ((if s.1 = 0 then [] else s.2).map aIt)), (9, .fn (.func 192) [] [.pe [.fn (.func 157) [] []], .box (G.length + 0) 0]), (21, .sl (m.map aLn)), (22, .int .i64 ((m.map aLn).length : Int)), (23, .int .i64 (s.1 : Int))]) (fun s => [.box [.sl (s.2.map aIt)]]) (fun s => m.length - s.1) 1 ((0, l) : Nat × List It) ⟨by omega, hl, rfl⟩ (by repeat (first | exact .nil | refine .cons rfl ?_)) rfl (fun _ => rfl) (fun _ => ⟨by simp [AV.cells, aIt, aLn]; intro x a _ _ e y hy; subst e; simp at hy; rcases hy with rfl | rfl | rfl | rfl <;> simp, by simp [AO.conts, AV.cells, aIt]⟩) (fun s hI => ?_)
 obtain ⟨k, cur⟩ := s
 dsimp only at hI
 show AWP _ _ _ _ _ [(1, .sl (m.map aLn)), (6, .sl ((if k = 0 then [] else cur).map aIt)), (9, .fn (.func 192) [] [.pe [.fn (.func 157) [] []], .box (G.length + 0) 0]), (21, .sl (m.map aLn)), (22, .int .i64 ((m.map aLn).length : Int)), (23, .int .i64 (k : Int))] _ [.box [.sl (cur.map aIt)]]
 obtain ⟨hk, hc, hg2⟩ := hI
 have hhl := hold_len cur (m.getD k default).item (m.getD k default).qty
 refine sr fun _ => ?_
 refine ρ1 ?_
 refine ez ?_
 refine AWP.seq ?_
 refine ρq (fun h1 => ?_) (fun h1 => ?_)
 · try simp [-List.getD_eq_getElem?_getD] at h1
   refine AWP.skip (thenA_n ?_)
   refine AWP.seq (AWP.block (sr fun _ => ?_))
   refine mv ?_
   first | refine ρ9 U82 sz127 ?_ | refine ρ3 U82 sz127 ?_
   refine ρk U127 sz127 ?_
   refine ρp (j := 1) zv127 ?_
   refine ma ?_
   refine ρ2 sz127 ?_
   refine ez (sr fun _ => ?_)
   refine mv ?_
   refine ρo U127 sz127 ?_
   refine ARun.callSet (j := 0) hG rfl rfl rfl rfl cf192 (ep rfl) (.cons (ep rfl) .nil) rfl (step_fn cur (m.getD k default) hc _ _ ((hG.at _ _).trans rfl)) rfl optN ?_
   refine mv ?_
   refine ρ4 ?_
   refine ρ4 ?_
   refine ma ?_
   refine mz ?_
   refine AWP.seq (sr fun _ => ?_)
   refine mv ?_
   refine ρ1 ?_
   refine ez ?_
   refine ρq (fun h2 => ?_) (fun h2 => ?_)
   · simp [-List.getD_eq_getElem?_getD] at h2
     rw [goes_step (by omega), if_pos h2] at hg2
     refine sr fun _ => ?_
     refine mv ?_
     refine mv ?_
     refine ma ?_
     refine ma ?_
     refine mz ?_
     refine AWP.ret (thenA_r ?_)
     refine blockA_r (thenA_r ?_)
     refine thenA_r (blockA_r (thenA_r ?_))
     refine ρl (rs := [.tmp 6, .tmp 7, .tmp 8]) (.cons (.tmp rfl) (.cons (.tmp rfl) (.cons (.tmp rfl) .nil))) ?_
     rw [hdef, hg2]; rfl
   simp [-List.getD_eq_getElem?_getD] at h2
   rw [goes_step (by omega), if_neg (by rw [h2]; simp)] at hg2
   have hst : stp cur (m.getD k default) = (holdF cur (m.getD k default).item (m.getD k default).qty).1 := by rw [stp, if_pos h2]
   rw [hst]
   refine AWP.skip (thenA_n ?_)
   refine AWP.region (fun _ => ?_)
   refine mv ?_
   refine ma ?_
   refine ⟨_, _, rfl, hG, ?_⟩
   refine blockA_n (thenA_n ?_)
   refine AWP.region (fun _ => ?_)
   first | refine ρ7 ?_ | refine ρg ?_
   refine mv ?_
   refine ⟨_, _, rfl, hG, ?_⟩
   refine thenA_n ⟨rfl, (k + 1, (holdF cur (m.getD k default).item (m.getD k default).qty).1), _, ?_, ?_, rfl, ?_⟩
   · exact ⟨by dsimp only; omega, by dsimp only; omega, hg2⟩
   · repeat (first | exact .nil | refine .cons rfl ?_)
   dsimp only; omega
 simp at h1
 obtain rfl : k = m.length := by omega
 rw [goes_end] at hg2
 have hk0 : ¬ m.length = 0 := by omega
 refine AWP.exit ?_
 refine thenA_x ?_
 refine thenA_x ?_
 refine blockA_h ?_
 refine thenA_n (sr fun _ => ?_)
 refine mv ?_
 refine mv ?_
 refine ρr U82 ?_
 refine ma ?_
 refine ma ?_
 refine mz ?_
 refine AWP.ret ?_
 refine ρl (rs := [.tmp 6, .tmp 7, .tmp 8]) (.cons (.tmp rfl) (.cons (.tmp rfl) (.cons (.tmp rfl) .nil))) ?_
 rw [hdef, hg2, if_neg hk0, List.length_map]; rfl
theorem holdB_fn (l : List It) (m : List Ln) (hl : l.length ≤ 1000) : FnP Tryz.prog 153 [.sl (l.map aIt), .sl (m.map aLn)] (.tup [.sl ((allP holdF l m).1.map aIt), .int .i64 (allP holdF l m).2.1, .int .i64 (allP holdF l m).2.2]) := by
 refine FnP.of Tryz.func153 rfl rfl (by simp) (by simp [AV.cells, aIt, aLn]) (fun G hG => ?_)
 have hN : NoH G.length (.tup [.sl ((allP holdF l m).1.map aIt), .int .i64 (allP holdF l m).2.1, .int .i64 (allP holdF l m).2.2]) := (by simp [AV.cells, aIt, aLn])
 refine sr fun _ => ?_
 refine ma ?_
 refine ma ?_
 refine mz (sr fun _ => ?_)
 refine mv ?_
 refine mv ?_
 refine ARun.call rfl rfl rfl rfl cf172 (ep rfl) (.cons (ep rfl) (.cons (ep rfl) (.cons (ep rfl) .nil))) rfl (fun hg => all_fn l m hl) optN ?_
 refine ρ4 ?_
 refine ρ4 ?_
 refine ρ4 ?_
 refine ma ?_
 refine ma ?_
 refine mz ?_
 refine AWP.ret ?_
 refine ρl (rs := [.tmp 4, .tmp 5, .tmp 6]) (.cons (.tmp rfl) (.cons (.tmp rfl) (.cons (.tmp rfl) .nil))) ?_
 rfl
theorem total_fn (m : List Ln) (hm : m.length ≤ 1000) : FnP Tryz.prog 154 [.sl (m.map aLn)] (.int .i64 (totalP m)) := by
 refine FnP.of Tryz.func154 rfl rfl (by simp) (by simp [AV.cells, aIt, aLn]) (fun G hG => ?_)
 have hN : NoH G.length (.int .i64 (totalP m)) := (by simp [AV.cells, aIt, aLn])
 refine sr fun _ => ?_
 refine mz (sr fun _ => ?_)
 refine mz ?_
 refine AWP.seq (sr fun _ => ?_)
 refine mv ?_
 refine ρr U82 ?_
 refine mv ?_
 refine ez ?_
 refine AWP.block ?_
 refine AWP.rounds (fun k => k ≤ m.length) (fun k => [(0, .sl (m.map aLn)), (3, .int .i64 (if okL m = true then sumF (m.take k) else 0)), (6, .sl (m.map aLn)), (7, .int .i64 ((m.map aLn).length : Int)), (8, .int .i64 (k : Int))]) (fun k => []) (fun k => m.length - k) 0 0 (Nat.zero_le _) (by rw [show (if okL m = true then sumF (m.take 0) else 0) = 0 from by split <;> rfl]; repeat (first | exact .nil | refine .cons rfl ?_)) rfl (fun _ => rfl) (fun _ => (by simp [AO.conts, AV.cells, aIt, aLn])) (fun k hI => ?_)
 refine sr fun _ => ?_
 refine ρ1 ?_
 refine ez ?_
 refine AWP.seq ?_
 refine ρq (fun h0 => ?_) (fun h0 => ?_)
 · try simp [-List.getD_eq_getElem?_getD] at h0
   refine AWP.skip (thenA_n ?_)
   refine AWP.seq (AWP.block (sr fun _ => ?_))
   first | refine ρ9 U82 sz127 ?_ | refine ρ3 U82 sz127 ?_
   refine ρk U127 sz127 ?_
   refine ρp (j := 0) zv127 ?_
   refine ρ2 sz127 ?_
   refine ez (sr fun _ => ?_)
   refine mv ?_
   refine ρj cf173 (fun hg => checkL_fn m) ?_
   refine ρ1 ?_
   refine ez ?_
   refine ρq (fun h1 => ?_) (fun h1 => ?_)
   · simp [okLE_ok] at h1
     have hb := sumF_bd h1 k (by omega)
     have hq := okL_at h1 (k := k) (by omega)
     have hml := okL_len h1
     have hif : (if okL m = true then sumF (m.take k) else 0) = sumF (m.take k) := if_pos h1
     refine AWP.region (fun _ => ?_)
     refine mv ?_
     refine ρa (fo := 1) U127 sz3 ?_
     refine ρd U3 ?_
     first | refine ρ7 ?_ | refine ρg ?_
     refine ma ?_
     refine ⟨_, _, rfl, hG, ?_⟩
     refine blockA_n (thenA_n ?_)
     refine AWP.region (fun _ => ?_)
     first | refine ρ7 ?_ | refine ρg ?_
     refine mv ?_
     refine ⟨_, _, rfl, hG, ?_⟩
     refine thenA_n ⟨rfl, k + 1, _, ?_, ?_, rfl, ?_⟩
     · omega
     · rw [if_pos h1, if_pos h1, sumF_at m k (by omega)]
       repeat (first | exact .nil | refine .cons rfl ?_)
     omega
   simp [okLE_ok] at h1
   refine AWP.skip (blockA_n (thenA_n ?_))
   refine AWP.region (fun _ => ?_)
   first | refine ρ7 ?_ | refine ρg ?_
   refine mv ?_
   refine ⟨_, _, rfl, hG, ?_⟩
   refine thenA_n ⟨rfl, k + 1, _, ?_, ?_, rfl, ?_⟩
   · omega
   · rw [if_neg (by simp [h1]), if_neg (by simp [h1])]
     repeat (first | exact .nil | refine .cons rfl ?_)
   omega
 simp at h0
 obtain rfl : k = m.length := by omega
 rw [List.take_length]
 refine AWP.exit ?_
 refine thenA_x ?_
 refine thenA_x ?_
 refine blockA_h ?_
 refine thenA_n (sr fun _ => ?_)
 refine mv ?_
 refine mz ?_
 refine AWP.ret ?_
 refine ρc ?_
 rfl
end Go.Proofs.YtcndnllmlhhjiaaGreatDoor.Stk
namespace Go.Proofs.YtcndnllmlhhjiaaGreatDoor
open NumP
abbrev Its := List StockP.It
abbrev Ses := List SessP.Se
abbrev St := Its × Ses
abbrev tF (l : Its) (id : Int) : StockP.It := (StockP.findT l id).1
def numsP (l : Its) (id : Int) : List Int := [(tF l id).free, (tF l id).held, (tF l id).gone]
def oneP (l : Its) (c : Cl) : Its × Int :=
 if c.kind = 1 then Stk.createP l c.item c.qty else if c.kind = 2 then StockP.withP (StockP.inG c.qty) l c.item c.qty else
 if c.kind = 3 then StockP.withP (StockP.holdG c.qty) l c.item c.qty else if c.kind = 4 then StockP.withP (StockP.freeG c.qty) l c.item c.qty else StockP.withP (StockP.shipG c.qty) l c.item c.qty
def oneR (l : Its) (c : Cl) : Its × Rp := if (oneP l c).2 = 0 then ((oneP l c).1, ⟨0, numsP (oneP l c).1 c.item⟩) else (l, ⟨(oneP l c).2, []⟩)
abbrev mvP (l : Its) (c : Cl) : Its × Int := Stk.moveP l c.item c.to_ c.qty
def moveR (l : Its) (c : Cl) : Its × Rp := if (mvP l c).2 = 0 then ((mvP l c).1, ⟨0, [(tF (mvP l c).1 c.item).free, (tF (mvP l c).1 c.to_).free]⟩) else (l, ⟨(mvP l c).2, []⟩)
def queryR (l : Its) (c : Cl) : Its × Rp := if (StockP.findT l c.item).2 = true then (l, ⟨0, numsP l c.item⟩) else (l, ⟨40, []⟩)
abbrev orP (l : Its) (c : Cl) : Its × Int × Int := StockP.allP Stk.holdF l c.lines
def orderR (l : Its) (c : Cl) : Its × Rp := if (orP l c).2.2 = 0 then ((orP l c).1, ⟨0, [StockP.totalP c.lines]⟩) else (l, ⟨(orP l c).2.2, [(orP l c).2.1]⟩)
def kindR (l : Its) (c : Cl) : Its × Rp := if c.kind = 6 then moveR l c else if c.kind = 7 then queryR l c else if c.kind = 8 then orderR l c else oneR l c
def doP (l : Its) (c : Cl) : Its × Rp := if Stk.okE l = 0 then (if checkP c = 0 then kindR l c else (l, ⟨checkP c, []⟩)) else (l, ⟨2, []⟩)
def chkP (s : St) : Int := if Stk.okE s.1 = 0 ∧ SessP.okE s.2 = 0 then 0 else 2
abbrev asP (s : St) (p : ByteArray) : ByteArray × Bool × Int := Ssn.askP s.2 (takeC p).client (takeC p).seq
abbrev nwP (s : St) (p : ByteArray) : SessP.Se := ⟨(takeC p).client, (takeC p).seq, putR (doP s.1 (takeC p)).2⟩
abbrev ntP (s : St) (p : ByteArray) : Ses × Int := Ssn.noteP s.2 (nwP s p)
def applyP (s : St) (p : ByteArray) : St × ByteArray :=
 if chkP s = 0 then
   if takeE p = 0 then
     if (asP s p).2.2 = 0 then
       if (asP s p).2.1 = true then (s, (asP s p).1) else (((doP s.1 (takeC p)).1, (ntP s p).1), putR (doP s.1 (takeC p)).2)
     else (s, putR ⟨(asP s p).2.2, []⟩)
   else (s, putR ⟨takeE p, []⟩)
 else (s, putR ⟨2, []⟩)
def stepP (a : St × List ByteArray) (p : ByteArray) : St × List ByteArray := ((applyP a.1 p).1, a.2 ++ [(applyP a.1 p).2])
def foldP (s : St) (l : List ByteArray) : St × List ByteArray := l.foldl stepP (s, [])
/-! ### what it keeps -/
theorem ok_len {l : Its} (h : StockP.ok l = true) : l.length ≤ 20 := StockP.ok_len h
theorem find_bd {l : Its} (h : StockP.ok l = true) (id : Int) : (0 ≤ (tF l id).free ∧ (tF l id).free ≤ 1000000) ∧ (0 ≤ (tF l id).held ∧ (tF l id).held ≤ 1000000) ∧ (0 ≤ (tF l id).gone ∧ (tF l id).gone ≤ 1000000) := by
 unfold tF
 cases hf : (StockP.findT l id).2 with
 | false => rw [Stk.find_no2 hf]; exact ⟨by decide, by decide, by decide⟩
 | true =>
   have := StockP.may_bd (Stk.found_may (q := 1) (by unfold StockP.askedB; rw [h]; decide) hf)
   omega
theorem nums_fit {l : Its} (h : StockP.ok l = true) (id : Int) : ∀ x, x ∈ numsP l id → 0 ≤ x ∧ x ≤ 5000000 := by
 intro x hx
 have := find_bd h id
 simp only [numsP, List.mem_cons, List.not_mem_nil, or_false] at hx
 rcases hx with rfl | rfl | rfl <;> omega
theorem one_ok {l : Its} {c : Cl} (h : (oneP l c).2 = 0) : StockP.ok (oneP l c).1 = true := by
 unfold oneP at h ⊢
 by_cases h1 : c.kind = 1
 · rw [if_pos h1] at h ⊢; exact (Stk.create_sums h).2.ok
 rw [if_neg h1] at h ⊢
 by_cases h2 : c.kind = 2
 · rw [if_pos h2] at h ⊢; exact (Stk.with_sums 0 c.qty h (Stk.in_g c.qty)).2.ok
 rw [if_neg h2] at h ⊢
 by_cases h3 : c.kind = 3
 · rw [if_pos h3] at h ⊢; exact (Stk.with_sums 0 0 h (Stk.hold_g c.qty)).2.ok
 rw [if_neg h3] at h ⊢
 by_cases h4 : c.kind = 4
 · rw [if_pos h4] at h ⊢; exact (Stk.with_sums 0 0 h (Stk.free_g c.qty)).2.ok
 rw [if_neg h4] at h ⊢
 exact (Stk.with_sums 0 0 h (Stk.ship_g c.qty)).2.ok
theorem goes_ok (m : List Ln) : ∀ (i : Int) (l : Its), StockP.ok l = true → (StockP.goesP Stk.holdF i l m).2.2 = 0 → StockP.ok (StockP.goesP Stk.holdF i l m).1 = true := by
 induction m with
 | nil => intro i l h _; exact h
 | cons x m ih =>
   intro i l h h0
   rw [StockP.goesP_cons] at h0 ⊢
   by_cases e : (Stk.holdF l x.item x.qty).2 ≠ 0
   · rw [if_pos e] at h0; exact absurd h0 e
   · rw [if_neg e] at h0 ⊢
     exact ih _ _ (Stk.with_sums 0 0 (by simpa using e) (Stk.hold_g x.qty)).2.ok h0
theorem order_ok {l : Its} {c : Cl} (h : (orP l c).2.2 = 0) : StockP.ok (orP l c).1 = true := by
 unfold orP StockP.allP at h ⊢
 by_cases e : StockP.ok l = true ∧ StockP.okL c.lines = true
 · rw [if_pos e] at h ⊢; exact goes_ok _ _ _ e.1 h
 · rw [if_neg e] at h; simp at h
theorem kind_ok {l : Its} {c : Cl} (h : StockP.ok l = true) : StockP.ok (kindR l c).1 = true := by
 unfold kindR
 split
 · unfold moveR; split
   · rename_i h1; exact (Stk.move_sums h1).2.ok
   · exact h
 · split
   · unfold queryR; split <;> exact h
   · split
     · unfold orderR; split
       · rename_i h1; exact order_ok h1
       · exact h
     · unfold oneR; split
       · rename_i h1; exact one_ok h1
       · exact h
theorem do_ok {l : Its} {c : Cl} (h : StockP.ok l = true) : StockP.ok (doP l c).1 = true := by
 unfold doP; split
 · split
   · exact kind_ok h
   · exact h
 · exact h
/-! ### its answers -/
theorem with_rng {g : StockP.It → StockP.It × Int} {l : Its} {id q : Int} (hg : ∀ x, 0 ≤ (g x).2 ∧ (g x).2 ≤ 255) : 0 ≤ (StockP.withP g l id q).2 ∧ (StockP.withP g l id q).2 ≤ 255 := by
 unfold StockP.withP
 split
 · split
   · split
     · exact (by constructor <;> first | decide | (dsimp only; decide))
     · exact hg _
   · exact (by constructor <;> first | decide | (dsimp only; decide))
 · exact (by constructor <;> first | decide | (dsimp only; decide))
theorem lent_rng (b c : Int) : 0 ≤ StockP.lentE b c ∧ StockP.lentE b c ≤ 255 := by unfold StockP.lentE; split <;> omega
theorem in_rng (q : Int) (x : StockP.It) : 0 ≤ (StockP.inG q x).2 ∧ (StockP.inG q x).2 ≤ 255 := by unfold StockP.inG; split <;> exact (by constructor <;> first | decide | (dsimp only; decide))
theorem create_rng (l : Its) (i q : Int) : 0 ≤ (Stk.createP l i q).2 ∧ (Stk.createP l i q).2 ≤ 255 := by
 unfold Stk.createP; split
 · split
   · exact (by constructor <;> first | decide | (dsimp only; decide))
   · split <;> exact (by constructor <;> first | decide | (dsimp only; decide))
 · exact (by constructor <;> first | decide | (dsimp only; decide))
theorem move_rng (l : Its) (a b q : Int) : 0 ≤ (Stk.moveP l a b q).2 ∧ (Stk.moveP l a b q).2 ≤ 255 := by
 unfold Stk.moveP; split
 · split
   · exact (by constructor <;> first | decide | (dsimp only; decide))
   · split
     · exact with_rng (in_rng q)
     · exact with_rng (fun x => lent_rng _ _)
 · exact (by constructor <;> first | decide | (dsimp only; decide))
theorem one_rng (l : Its) (c : Cl) : 0 ≤ (oneP l c).2 ∧ (oneP l c).2 ≤ 255 := by
 unfold oneP
 split
 · exact create_rng _ _ _
 · split
   · exact with_rng (in_rng _)
   · split
     · exact with_rng (fun x => lent_rng _ _)
     · split
       · exact with_rng (fun x => lent_rng _ _)
       · exact with_rng (fun x => lent_rng _ _)
theorem goes_rng (m : List Ln) : ∀ (i : Int) (l : Its), 0 ≤ i → (0 ≤ (StockP.goesP Stk.holdF i l m).2.2 ∧ (StockP.goesP Stk.holdF i l m).2.2 ≤ 255) ∧ (0 ≤ (StockP.goesP Stk.holdF i l m).2.1 ∧ (StockP.goesP Stk.holdF i l m).2.1 ≤ i + m.length) := by
 induction m with
 | nil => intro i l h; exact ⟨⟨(show (0 : Int) ≤ 0 by decide), (show (0 : Int) ≤ 255 by decide)⟩, by show 0 ≤ i; omega, by show i ≤ _; simp⟩
 | cons x m ih =>
   intro i l h
   rw [StockP.goesP_cons]
   split
   · exact ⟨with_rng (fun x => lent_rng _ _), h, by simp only [List.length_cons]; omega⟩
   · have := ih (i + 1) (Stk.holdF l x.item x.qty).1 (by omega)
     rw [List.length_cons]; omega
theorem order_rng (l : Its) (c : Cl) : (0 ≤ (orP l c).2.2 ∧ (orP l c).2.2 ≤ 255) ∧ (0 ≤ (orP l c).2.1 ∧ (orP l c).2.1 ≤ 5) := by
 unfold orP StockP.allP
 split
 · rename_i h
   have := goes_rng c.lines 0 l (by omega)
   have h2 := Stk.okL_len h.2
   omega
 · exact ⟨(by constructor <;> first | decide | (dsimp only; decide)), (by constructor <;> first | decide | (dsimp only; decide))⟩
theorem total_bd (m : List Ln) : 0 ≤ StockP.totalP m ∧ StockP.totalP m ≤ 5000000 := by
 unfold StockP.totalP
 split
 · rename_i h
   have h1 := Stk.sumF_bd h m.length (Nat.le_refl _)
   rw [List.take_length] at h1
   have h2 := Stk.okL_len h
   omega
 · exact (by constructor <;> first | decide | (dsimp only; decide))
structure Fine (r : Rp) : Prop where
 code : 0 ≤ r.code ∧ r.code ≤ 255
 len : r.nums.length ≤ 3
 fit : ∀ x, x ∈ r.nums → 0 ≤ x ∧ x ≤ 5000000
theorem Fine.bare {e : Int} (h : 0 ≤ e ∧ e ≤ 255) : Fine ⟨e, []⟩ := ⟨h, Nat.zero_le _, fun x hx => by cases hx⟩
theorem Fine.one {e n : Int} (h : 0 ≤ e ∧ e ≤ 255) (hn : 0 ≤ n ∧ n ≤ 5000000) : Fine ⟨e, [n]⟩ := ⟨h, Nat.le_add_left 1 2, fun x hx => by simp at hx; subst hx; exact hn⟩
theorem Fine.rep {r : Rp} (h : Fine r) : repE r = 0 := by
 unfold repE
 rw [if_neg]
 have h1 := h.code
 have h2 := h.len
 have h3 : nneg r.nums = true := nneg_of fun x hx => (h.fit x hx).1
 rw [h3]; simp; omega
theorem Fine.num {r : Rp} (h : Fine r) : ∀ x, x ∈ r.nums → -9223372036854775808 ≤ x ∧ x ≤ 9223372036854775807 := fun x hx => by have := h.fit x hx; omega
theorem Fine.small {r : Rp} (h : Fine r) : (putR r).size ≤ 100 := by
 have he := h.rep
 have hl := h.len
 have hn : nneg r.nums = true := nneg_of fun x hx => (h.fit x hx).1
 unfold putR
 rw [if_pos he, layR_ok he]
 unfold WrS.out
 rw [if_pos rfl]
 show ((putN r.code).1 ++ (rowN r.nums).1).length ≤ 100
 rw [List.length_append]
 have h1 := putN_len r.code
 unfold rowN
 rw [if_pos hn]
 have h2 := putN_len (r.nums.length : Int)
 have h3 := rowBytes_len r.nums
 rw [List.length_append]; omega
theorem kind_fine {l : Its} {c : Cl} (h : StockP.ok l = true) : Fine (kindR l c).2 := by
 unfold kindR
 split
 · unfold moveR; split
   · rename_i h1
     have hk := (Stk.move_sums h1).2.ok
     refine ⟨(by constructor <;> first | decide | (dsimp only; decide)), Nat.le_succ _, fun x hx => ?_⟩
     have b1 := find_bd hk c.item
     have b2 := find_bd hk c.to_
     simp only [List.mem_cons, List.not_mem_nil, or_false] at hx
     rcases hx with rfl | rfl
     · exact ⟨b1.1.1, Int.le_trans b1.1.2 (by decide)⟩
     · exact ⟨b2.1.1, Int.le_trans b2.1.2 (by decide)⟩
   · exact .bare (move_rng _ _ _ _)
 · split
   · unfold queryR; split
     · exact ⟨(by constructor <;> first | decide | (dsimp only; decide)), Nat.le_refl _, nums_fit h _⟩
     · exact .bare (by constructor <;> first | decide | (dsimp only; decide))
   · split
     · unfold orderR; split
       · exact .one (by constructor <;> first | decide | (dsimp only; decide)) (total_bd _)
       · have := order_rng l c
         exact .one this.1 (by omega)
     · unfold oneR; split
       · rename_i h1
         exact ⟨(by constructor <;> first | decide | (dsimp only; decide)), Nat.le_refl _, nums_fit (one_ok h1) _⟩
       · exact .bare (one_rng _ _)
theorem check_rng (c : Cl) : 0 ≤ checkP c ∧ checkP c ≤ 255 := by rcases check_two c with h | h | h <;> rw [h] <;> exact (by constructor <;> first | decide | (dsimp only; decide))
theorem do_fine (l : Its) (c : Cl) : Fine (doP l c).2 := by
 unfold doP; split
 · rename_i h
   split
   · exact kind_fine (Stk.okE_ok.1 h)
   · exact .bare (check_rng c)
 · exact .bare (by constructor <;> first | decide | (dsimp only; decide))
theorem do_len (l : Its) (c : Cl) (hl : l.length ≤ 60) : (doP l c).1.length ≤ 60 := by
 by_cases h : Stk.okE l = 0
 · have := ok_len (do_ok (c := c) (Stk.okE_ok.1 h)); omega
 · unfold doP; rw [if_neg h]; exact hl
/-! ### what a payload is told -/
theorem chk_zero {s : St} (h : chkP s = 0) : Stk.okE s.1 = 0 ∧ SessP.okE s.2 = 0 := by unfold chkP at h; split at h <;> simp_all
theorem chk_mk {s : St} (h1 : Stk.okE s.1 = 0) (h2 : SessP.okE s.2 = 0) : chkP s = 0 := if_pos ⟨h1, h2⟩
theorem note_zero {s : St} {p : ByteArray} (ht : takeE p = 0) (hp : p.size ≤ 1000000) (h : (asP s p).2.2 = 0) (h2 : (asP s p).2.1 = false) : (ntP s p).2 = 0 := by
 unfold ntP Ssn.noteP
 have hm : SessP.may (nwP s p) = true := by
   have ha := (Ssn.askP_ok h).2
   have hsz := (do_fine s.1 (takeC p)).small
   rw [Ssn.may_iff]
   have n1 := Ssn.numB_iff (takeC p).client
   have n2 := Ssn.numB_iff (takeC p).seq
   refine ⟨?_, ?_, ?_⟩
   · exact n1.1 ha.1
   · exact n2.1 ha.2
   · show ((putR (doP s.1 (takeC p)).2).size : Int) ≤ 300; omega
 rw [if_pos h, if_pos hm, if_neg (by rw [show (Ssn.askP s.2 (nwP s p).client (nwP s p).seq).2.1 = (asP s p).2.1 from rfl, h2]; simp)]
theorem ses_len {l : Ses} (h : SessP.okE l = 0) : l.length ≤ 20 := (Ssn.okE_ok h).1
theorem apply_len (s : St) (p : ByteArray) (hp : p.size ≤ 1000000) (h1 : s.1.length ≤ 60) (h2 : s.2.length ≤ 60) : (applyP s p).1.1.length ≤ 60 ∧ (applyP s p).1.2.length ≤ 60 := by
 unfold applyP
 split
 · split
   · rename_i ht
     split
     · rename_i ha
       split
       · exact ⟨h1, h2⟩
       · rename_i hg
         have := ses_len (Ssn.note_ok (note_zero ht hp ha (by simpa using hg)))
         exact ⟨do_len _ _ h1, Nat.le_trans this (by decide)⟩
     · exact ⟨h1, h2⟩
   · exact ⟨h1, h2⟩
 · exact ⟨h1, h2⟩
theorem fold_snoc (s : St) (l : List ByteArray) (x : ByteArray) : foldP s (l ++ [x]) = stepP (foldP s l) x := by unfold foldP; rw [List.foldl_append]; rfl
theorem fold_at (s : St) (l : List ByteArray) (k : Nat) (h : k < l.length) : foldP s (l.take (k + 1)) = stepP (foldP s (l.take k)) (l.getD k default) := by
 rw [List.take_succ_eq_append_getElem h, fold_snoc]; simp [List.getD, h]
theorem fold_len (s : St) (l : List ByteArray) (hl : ∀ x, x ∈ l → x.size ≤ 1000000) (h1 : s.1.length ≤ 60) (h2 : s.2.length ≤ 60) : ∀ k, k ≤ l.length → ((foldP s (l.take k)).1.1.length ≤ 60 ∧ (foldP s (l.take k)).1.2.length ≤ 60) ∧ (foldP s (l.take k)).2.length = k := by
 intro k
 induction k with
 | zero => intro _; exact ⟨⟨h1, h2⟩, rfl⟩
 | succ k ih =>
   intro hk
   obtain ⟨⟨i1, i2⟩, i3⟩ := ih (by omega)
   rw [fold_at s l k (by omega)]
   have hx : (l.getD k default).size ≤ 1000000 := by rw [show l.getD k default = l[k] from by simp [List.getD, show k < l.length by omega]]; exact hl _ (List.getElem_mem _)
   refine ⟨apply_len _ _ hx i1 i2, ?_⟩
   show ((foldP s (l.take k)).2 ++ [_]).length = k + 1
   rw [List.length_append, i3]; rfl
end Go.Proofs.YtcndnllmlhhjiaaGreatDoor
namespace Go.Proofs.YtcndnllmlhhjiaaGreatDoor
open Go.RowKit
open NumP
def aSt (s : St) : AV := .agg [.sl (s.1.map Stk.aIt), .sl (s.2.map Ssn.aSe)]
theorem cloneIt_fn (l : Its) (hl : l.length ≤ 1000000) : FnP Tryz.prog 57 [.sl (l.map Stk.aIt)] (.sl (l.map Stk.aIt)) :=
 FnP.of_owns Stk.encIt Stk.aIt 4 Stk.encIt_len (fun x => rfl) (fun x u hu => by simp [Stk.encIt] at hu; rcases hu with rfl | rfl | rfl | rfl <;> rfl) l (fun w a cap hr _ _ _ => Stk.cloneIt_any a cap l w hr hl)
theorem okE_two {l : Its} (h : ¬ Stk.okE l = 0) : Stk.okE l = 2 := by unfold Stk.okE at h ⊢; split <;> simp_all
theorem chk_two {s : St} (h : ¬ chkP s = 0) : chkP s = 2 := by unfold chkP at h ⊢; split <;> simp_all
theorem do_0 {l : Its} {c : Cl} (h : ¬ Stk.okE l = 0) : doP l c = (l, ⟨2, []⟩) := if_neg h
theorem do_1 {l : Its} {c : Cl} (h : Stk.okE l = 0) (h1 : ¬ checkP c = 0) : doP l c = (l, ⟨checkP c, []⟩) := by unfold doP; rw [if_pos h, if_neg h1]
theorem do_2 {l : Its} {c : Cl} (h : Stk.okE l = 0) (h1 : checkP c = 0) : doP l c = kindR l c := by unfold doP; rw [if_pos h, if_pos h1]
theorem kind_6 {l : Its} {c : Cl} (h : c.kind = 6) : kindR l c = moveR l c := if_pos h
theorem kind_7 {l : Its} {c : Cl} (h : c.kind = 7) : kindR l c = queryR l c := by unfold kindR; rw [if_neg (by omega), if_pos h]
theorem kind_8 {l : Its} {c : Cl} (h : c.kind = 8) : kindR l c = orderR l c := by unfold kindR; rw [if_neg (by omega), if_neg (by omega), if_pos h]
theorem kind_o {l : Its} {c : Cl} (h : c.kind ≠ 6 ∧ c.kind ≠ 7 ∧ c.kind ≠ 8) : kindR l c = oneR l c := by unfold kindR; rw [if_neg h.1, if_neg h.2.1, if_neg h.2.2]
theorem oneR_y {l : Its} {c : Cl} {m : Its × Int} (hm : oneP l c = m) (h : m.2 = 0) : oneR l c = (m.1, ⟨0, numsP m.1 c.item⟩) := by subst hm; exact if_pos h
theorem oneR_n {l : Its} {c : Cl} {m : Its × Int} (hm : oneP l c = m) (h : ¬ m.2 = 0) : oneR l c = (l, ⟨m.2, []⟩) := by subst hm; exact if_neg h
theorem one_1 {l : Its} {c : Cl} (h : c.kind = 1) : oneP l c = Stk.createP l c.item c.qty := if_pos h
theorem one_2 {l : Its} {c : Cl} (h : c.kind = 2) : oneP l c = StockP.withP (StockP.inG c.qty) l c.item c.qty := by unfold oneP; rw [if_neg (by omega), if_pos h]
theorem one_3 {l : Its} {c : Cl} (h : c.kind = 3) : oneP l c = StockP.withP (StockP.holdG c.qty) l c.item c.qty := by unfold oneP; rw [if_neg (by omega), if_neg (by omega), if_pos h]
theorem one_4 {l : Its} {c : Cl} (h : c.kind = 4) : oneP l c = StockP.withP (StockP.freeG c.qty) l c.item c.qty := by unfold oneP; rw [if_neg (by omega), if_neg (by omega), if_neg (by omega), if_pos h]
theorem one_5 {l : Its} {c : Cl} (h : c.kind = 5) : oneP l c = StockP.withP (StockP.shipG c.qty) l c.item c.qty := by unfold oneP; rw [if_neg (by omega), if_neg (by omega), if_neg (by omega), if_neg (by omega)]
theorem one_len (l : Its) (i q : Int) : (Stk.createP l i q).1.length ≤ l.length + 1 ∧ (StockP.withP (StockP.inG q) l i q).1.length ≤ l.length ∧ (StockP.withP (StockP.holdG q) l i q).1.length ≤ l.length ∧ (StockP.withP (StockP.freeG q) l i q).1.length ≤ l.length ∧ (StockP.withP (StockP.shipG q) l i q).1.length ≤ l.length := ⟨Stk.create_len l i q, Stk.with_len _ l i q, Stk.with_len _ l i q, Stk.with_len _ l i q, Stk.with_len _ l i q⟩
theorem toldS_fn (l : Its) (id : Int) (hl : l.length ≤ 1000) : FnP Tryz.prog 152 [.sl (l.map Stk.aIt), .int .i64 id] (aRp ⟨0, numsP l id⟩) := by
 refine FnP.of Tryz.func152 rfl rfl (by simp) (by simp [AV.cells, aIn, aOut, aLn, aCl, aRp, Stk.aIt, Ssn.aSe, aSt]) (fun G hG => ?_)
 have hN : NoH G.length (aRp ⟨0, numsP l id⟩) := (by simp [AV.cells, aIn, aOut, aLn, aCl, aRp, Stk.aIt, Ssn.aSe, aSt])
 refine sr fun _ => ?_
 refine ρp (j := 0) zv93 ?_
 refine ez (sr fun _ => ?_)
 refine mv ?_
 refine mv ?_
 refine ρh cf151 ?_ (hF := fun hg => Stk.find_fn l id (by omega))
 refine mv ?_
 refine ρ4 ?_
 refine ρ4 ?_
 refine ρp (j := 1) zv108 ?_
 refine ρ2 sz108 ?_
 refine mz (sr fun _ => ?_)
 refine ρa (fo := 1) U108 sz3 ?_
 refine ρd U3 ?_
 refine ρa (fo := 2) U108 sz3 ?_
 refine ρd U3 ?_
 refine ρa (fo := 3) U108 sz3 ?_
 refine ρd U3 ?_
 refine ARun.buildSl rfl rfl rfl rfl U40 sz3 zv3 rfl (by decide) (.cons (ep rfl) (.cons (ep rfl) (.cons (ep rfl) .nil))) rfl rfl rfl rfl (by decide) rfl rfl optN ?_
 refine ρh cf51 ?_ (hF := fun hg => told_fn 0 [(tF l id).free, (tF l id).held, (tF l id).gone] (by simp))
 refine ρ2 sz93 ?_
 refine ez ?_
 refine AWP.ret ?_
 refine endF.one (.inr rfl) rfl (.cellA rfl ((hG.at _ _).trans rfl) U93 rfl sz93 rfl rfl) ?_ hN
 rfl
theorem one1_fn (l : Its) (c : Cl) (hl : l.length ≤ 100) (hk : c.kind = 1) : FnP Tryz.prog 129 [.sl (l.map Stk.aIt), aCl c] (.tup [.sl ((oneR l c).1.map Stk.aIt), aRp (oneR l c).2]) := by
 have hol := one_len l c.item c.qty
 refine FnP.of Tryz.func129 rfl rfl (by simp) (by simp [AV.cells, aIn, aOut, aLn, aCl, aRp, Stk.aIt, Ssn.aSe, aSt]) (fun G hG => ?_)
 have hN : NoH G.length (.tup [.sl ((oneR l c).1.map Stk.aIt), aRp (oneR l c).2]) := (by simp [AV.cells, aIn, aOut, aLn, aCl, aRp, Stk.aIt, Ssn.aSe, aSt])
 refine sr fun _ => ?_
 refine ρv ?_
 refine ma ?_
 refine ρp (j := 0) zv93 ?_
 refine ez (sr fun _ => ?_)
 refine mz (sr fun _ => ?_)
 refine mz ?_
 refine AWP.seq (sr fun _ => ?_)
 refine ρ6 U84 sz3 ?_
 refine ρ5 U3 ?_
 refine ez ?_
 refine AWP.block (sr fun _ => ?_)
 refine ρ1 ?_
 refine mz ?_
 refine ρq (fun h0 => ?_) (fun h0 => ?_)
 · refine AWP.region (fun _ => ?_)
   refine mv ?_
   refine ρ6 U84 sz3 ?_
   refine ρ5 U3 ?_
   refine ρ6 U84 sz3 ?_
   refine ρ5 U3 ?_
   refine ARun.call rfl rfl rfl rfl cf155 (ep rfl) (.cons (ep rfl) (.cons (ep rfl) (.cons (ep rfl) .nil))) rfl (fun hg => Stk.create_fn l c.item c.qty (by omega)) optN ?_
   refine mv ?_
   refine ρ4 ?_
   refine ρ4 ?_
   refine ma ?_
   refine ma ?_
   refine ⟨_, _, rfl, hG, ?_⟩
   refine blockA_n (thenA_n (AWP.seq ?_))
   refine sr fun _ => ?_
   refine mv ?_
   refine ρ1 ?_
   refine ez ?_
   refine ρq (fun h1 => ?_) (fun h1 => ?_)
   · simp at h1
     refine sr fun _ => ?_
     refine mv ?_
     refine mv ?_
     refine ρh cf51 ?_ (hF := fun hg => told_fn (Stk.createP l c.item c.qty).2 [] (by simp))
     refine ma ?_
     refine ρ2 sz93 ?_
     refine ez ?_
     refine AWP.ret (thenA_r ?_)
     refine ρl (rs := [.tmp 4, .cell 5 93]) (.cons (.tmp rfl) (.cons (.cellA rfl ((hG.at _ _).trans rfl) U93 rfl sz93 rfl rfl) .nil)) ?_
     rw [oneR_n (one_1 hk) h1]; rfl
   simp at h1
   refine AWP.skip (thenA_n (sr fun _ => ?_))
   refine mv ?_
   refine mv ?_
   refine ρ6 U84 sz3 ?_
   refine ρ5 U3 ?_
   refine ρh cf152 ?_ (hF := fun hg => toldS_fn (Stk.createP l c.item c.qty).1 c.item (by omega))
   refine ma ?_
   refine ρ2 sz93 ?_
   refine ez ?_
   refine AWP.ret ?_
   refine ρl (rs := [.tmp 4, .cell 5 93]) (.cons (.tmp rfl) (.cons (.cellA rfl ((hG.at _ _).trans rfl) U93 rfl sz93 rfl rfl) .nil)) ?_
   rw [oneR_y (one_1 hk) h1]; rfl
 simp [hk] at h0
theorem one2_fn (l : Its) (c : Cl) (hl : l.length ≤ 100) (hk : c.kind = 2) : FnP Tryz.prog 129 [.sl (l.map Stk.aIt), aCl c] (.tup [.sl ((oneR l c).1.map Stk.aIt), aRp (oneR l c).2]) := by
 have hol := one_len l c.item c.qty
 refine FnP.of Tryz.func129 rfl rfl (by simp) (by simp [AV.cells, aIn, aOut, aLn, aCl, aRp, Stk.aIt, Ssn.aSe, aSt]) (fun G hG => ?_)
 have hN : NoH G.length (.tup [.sl ((oneR l c).1.map Stk.aIt), aRp (oneR l c).2]) := (by simp [AV.cells, aIn, aOut, aLn, aCl, aRp, Stk.aIt, Ssn.aSe, aSt])
 refine sr fun _ => ?_
 refine ρv ?_
 refine ma ?_
 refine ρp (j := 0) zv93 ?_
 refine ez (sr fun _ => ?_)
 refine mz (sr fun _ => ?_)
 refine mz ?_
 refine AWP.seq (sr fun _ => ?_)
 refine ρ6 U84 sz3 ?_
 refine ρ5 U3 ?_
 refine ez ?_
 refine AWP.block (sr fun _ => ?_)
 refine ρ1 ?_
 refine mz ?_
 refine ρq (fun h0 => ?_) (fun h0 => ?_)
 · simp [hk] at h0
 refine sr fun _ => ?_
 refine ρ1 ?_
 refine mz ?_
 refine ρq (fun h1 => ?_) (fun h1 => ?_)
 · refine AWP.region (fun _ => ?_)
   refine mv ?_
   refine ρ6 U84 sz3 ?_
   refine ρ5 U3 ?_
   refine ρ6 U84 sz3 ?_
   refine ρ5 U3 ?_
   refine ARun.call rfl rfl rfl rfl cf156 (ep rfl) (.cons (ep rfl) (.cons (ep rfl) (.cons (ep rfl) .nil))) rfl (fun hg => Stk.restock_fn l c.item c.qty (by omega)) optN ?_
   refine mv ?_
   refine ρ4 ?_
   refine ρ4 ?_
   refine ma ?_
   refine ma ?_
   refine ⟨_, _, rfl, hG, ?_⟩
   refine blockA_n (thenA_n (AWP.seq ?_))
   refine sr fun _ => ?_
   refine mv ?_
   refine ρ1 ?_
   refine ez ?_
   refine ρq (fun h2 => ?_) (fun h2 => ?_)
   · simp at h2
     refine sr fun _ => ?_
     refine mv ?_
     refine mv ?_
     refine ρh cf51 ?_ (hF := fun hg => told_fn (StockP.withP (StockP.inG c.qty) l c.item c.qty).2 [] (by simp))
     refine ma ?_
     refine ρ2 sz93 ?_
     refine ez ?_
     refine AWP.ret (thenA_r ?_)
     refine ρl (rs := [.tmp 4, .cell 5 93]) (.cons (.tmp rfl) (.cons (.cellA rfl ((hG.at _ _).trans rfl) U93 rfl sz93 rfl rfl) .nil)) ?_
     rw [oneR_n (one_2 hk) h2]; rfl
   simp at h2
   refine AWP.skip (thenA_n (sr fun _ => ?_))
   refine mv ?_
   refine mv ?_
   refine ρ6 U84 sz3 ?_
   refine ρ5 U3 ?_
   refine ρh cf152 ?_ (hF := fun hg => toldS_fn (StockP.withP (StockP.inG c.qty) l c.item c.qty).1 c.item (by omega))
   refine ma ?_
   refine ρ2 sz93 ?_
   refine ez ?_
   refine AWP.ret ?_
   refine ρl (rs := [.tmp 4, .cell 5 93]) (.cons (.tmp rfl) (.cons (.cellA rfl ((hG.at _ _).trans rfl) U93 rfl sz93 rfl rfl) .nil)) ?_
   rw [oneR_y (one_2 hk) h2]; rfl
 simp [hk] at h1
theorem one3_fn (l : Its) (c : Cl) (hl : l.length ≤ 100) (hk : c.kind = 3) : FnP Tryz.prog 129 [.sl (l.map Stk.aIt), aCl c] (.tup [.sl ((oneR l c).1.map Stk.aIt), aRp (oneR l c).2]) := by
 have hol := one_len l c.item c.qty
 refine FnP.of Tryz.func129 rfl rfl (by simp) (by simp [AV.cells, aIn, aOut, aLn, aCl, aRp, Stk.aIt, Ssn.aSe, aSt]) (fun G hG => ?_)
 have hN : NoH G.length (.tup [.sl ((oneR l c).1.map Stk.aIt), aRp (oneR l c).2]) := (by simp [AV.cells, aIn, aOut, aLn, aCl, aRp, Stk.aIt, Ssn.aSe, aSt])
 refine sr fun _ => ?_
 refine ρv ?_
 refine ma ?_
 refine ρp (j := 0) zv93 ?_
 refine ez (sr fun _ => ?_)
 refine mz (sr fun _ => ?_)
 refine mz ?_
 refine AWP.seq (sr fun _ => ?_)
 refine ρ6 U84 sz3 ?_
 refine ρ5 U3 ?_
 refine ez ?_
 refine AWP.block (sr fun _ => ?_)
 refine ρ1 ?_
 refine mz ?_
 refine ρq (fun h0 => ?_) (fun h0 => ?_)
 · simp [hk] at h0
 refine sr fun _ => ?_
 refine ρ1 ?_
 refine mz ?_
 refine ρq (fun h1 => ?_) (fun h1 => ?_)
 · simp [hk] at h1
 refine sr fun _ => ?_
 refine ρ1 ?_
 refine mz ?_
 refine ρq (fun h2 => ?_) (fun h2 => ?_)
 · refine AWP.region (fun _ => ?_)
   refine mv ?_
   refine ρ6 U84 sz3 ?_
   refine ρ5 U3 ?_
   refine ρ6 U84 sz3 ?_
   refine ρ5 U3 ?_
   refine ARun.call rfl rfl rfl rfl cf157 (ep rfl) (.cons (ep rfl) (.cons (ep rfl) (.cons (ep rfl) .nil))) rfl (fun hg => Stk.reserve_fn l c.item c.qty (by omega)) optN ?_
   refine mv ?_
   refine ρ4 ?_
   refine ρ4 ?_
   refine ma ?_
   refine ma ?_
   refine ⟨_, _, rfl, hG, ?_⟩
   refine blockA_n (thenA_n (AWP.seq ?_))
   refine sr fun _ => ?_
   refine mv ?_
   refine ρ1 ?_
   refine ez ?_
   refine ρq (fun h3 => ?_) (fun h3 => ?_)
   · simp at h3
     refine sr fun _ => ?_
     refine mv ?_
     refine mv ?_
     refine ρh cf51 ?_ (hF := fun hg => told_fn (StockP.withP (StockP.holdG c.qty) l c.item c.qty).2 [] (by simp))
     refine ma ?_
     refine ρ2 sz93 ?_
     refine ez ?_
     refine AWP.ret (thenA_r ?_)
     refine ρl (rs := [.tmp 4, .cell 5 93]) (.cons (.tmp rfl) (.cons (.cellA rfl ((hG.at _ _).trans rfl) U93 rfl sz93 rfl rfl) .nil)) ?_
     rw [oneR_n (one_3 hk) h3]; rfl
   simp at h3
   refine AWP.skip (thenA_n (sr fun _ => ?_))
   refine mv ?_
   refine mv ?_
   refine ρ6 U84 sz3 ?_
   refine ρ5 U3 ?_
   refine ρh cf152 ?_ (hF := fun hg => toldS_fn (StockP.withP (StockP.holdG c.qty) l c.item c.qty).1 c.item (by omega))
   refine ma ?_
   refine ρ2 sz93 ?_
   refine ez ?_
   refine AWP.ret ?_
   refine ρl (rs := [.tmp 4, .cell 5 93]) (.cons (.tmp rfl) (.cons (.cellA rfl ((hG.at _ _).trans rfl) U93 rfl sz93 rfl rfl) .nil)) ?_
   rw [oneR_y (one_3 hk) h3]; rfl
 simp [hk] at h2
theorem one4_fn (l : Its) (c : Cl) (hl : l.length ≤ 100) (hk : c.kind = 4) : FnP Tryz.prog 129 [.sl (l.map Stk.aIt), aCl c] (.tup [.sl ((oneR l c).1.map Stk.aIt), aRp (oneR l c).2]) := by
 have hol := one_len l c.item c.qty
 refine FnP.of Tryz.func129 rfl rfl (by simp) (by simp [AV.cells, aIn, aOut, aLn, aCl, aRp, Stk.aIt, Ssn.aSe, aSt]) (fun G hG => ?_)
 have hN : NoH G.length (.tup [.sl ((oneR l c).1.map Stk.aIt), aRp (oneR l c).2]) := (by simp [AV.cells, aIn, aOut, aLn, aCl, aRp, Stk.aIt, Ssn.aSe, aSt])
 refine sr fun _ => ?_
 refine ρv ?_
 refine ma ?_
 refine ρp (j := 0) zv93 ?_
 refine ez (sr fun _ => ?_)
 refine mz (sr fun _ => ?_)
 refine mz ?_
 refine AWP.seq (sr fun _ => ?_)
 refine ρ6 U84 sz3 ?_
 refine ρ5 U3 ?_
 refine ez ?_
 refine AWP.block (sr fun _ => ?_)
 refine ρ1 ?_
 refine mz ?_
 refine ρq (fun h0 => ?_) (fun h0 => ?_)
 · simp [hk] at h0
 refine sr fun _ => ?_
 refine ρ1 ?_
 refine mz ?_
 refine ρq (fun h1 => ?_) (fun h1 => ?_)
 · simp [hk] at h1
 refine sr fun _ => ?_
 refine ρ1 ?_
 refine mz ?_
 refine ρq (fun h2 => ?_) (fun h2 => ?_)
 · simp [hk] at h2
 refine sr fun _ => ?_
 refine ρ1 ?_
 refine mz ?_
 refine ρq (fun h3 => ?_) (fun h3 => ?_)
 · refine AWP.region (fun _ => ?_)
   refine mv ?_
   refine ρ6 U84 sz3 ?_
   refine ρ5 U3 ?_
   refine ρ6 U84 sz3 ?_
   refine ρ5 U3 ?_
   refine ARun.call rfl rfl rfl rfl cf158 (ep rfl) (.cons (ep rfl) (.cons (ep rfl) (.cons (ep rfl) .nil))) rfl (fun hg => Stk.release_fn l c.item c.qty (by omega)) optN ?_
   refine mv ?_
   refine ρ4 ?_
   refine ρ4 ?_
   refine ma ?_
   refine ma ?_
   refine ⟨_, _, rfl, hG, ?_⟩
   refine blockA_n (thenA_n (AWP.seq ?_))
   refine sr fun _ => ?_
   refine mv ?_
   refine ρ1 ?_
   refine ez ?_
   refine ρq (fun h4 => ?_) (fun h4 => ?_)
   · simp at h4
     refine sr fun _ => ?_
     refine mv ?_
     refine mv ?_
     refine ρh cf51 ?_ (hF := fun hg => told_fn (StockP.withP (StockP.freeG c.qty) l c.item c.qty).2 [] (by simp))
     refine ma ?_
     refine ρ2 sz93 ?_
     refine ez ?_
     refine AWP.ret (thenA_r ?_)
     refine ρl (rs := [.tmp 4, .cell 5 93]) (.cons (.tmp rfl) (.cons (.cellA rfl ((hG.at _ _).trans rfl) U93 rfl sz93 rfl rfl) .nil)) ?_
     rw [oneR_n (one_4 hk) h4]; rfl
   simp at h4
   refine AWP.skip (thenA_n (sr fun _ => ?_))
   refine mv ?_
   refine mv ?_
   refine ρ6 U84 sz3 ?_
   refine ρ5 U3 ?_
   refine ρh cf152 ?_ (hF := fun hg => toldS_fn (StockP.withP (StockP.freeG c.qty) l c.item c.qty).1 c.item (by omega))
   refine ma ?_
   refine ρ2 sz93 ?_
   refine ez ?_
   refine AWP.ret ?_
   refine ρl (rs := [.tmp 4, .cell 5 93]) (.cons (.tmp rfl) (.cons (.cellA rfl ((hG.at _ _).trans rfl) U93 rfl sz93 rfl rfl) .nil)) ?_
   rw [oneR_y (one_4 hk) h4]; rfl
 simp [hk] at h3
theorem one5_fn (l : Its) (c : Cl) (hl : l.length ≤ 100) (hk : c.kind = 5) : FnP Tryz.prog 129 [.sl (l.map Stk.aIt), aCl c] (.tup [.sl ((oneR l c).1.map Stk.aIt), aRp (oneR l c).2]) := by
 have hol := one_len l c.item c.qty
 refine FnP.of Tryz.func129 rfl rfl (by simp) (by simp [AV.cells, aIn, aOut, aLn, aCl, aRp, Stk.aIt, Ssn.aSe, aSt]) (fun G hG => ?_)
 have hN : NoH G.length (.tup [.sl ((oneR l c).1.map Stk.aIt), aRp (oneR l c).2]) := (by simp [AV.cells, aIn, aOut, aLn, aCl, aRp, Stk.aIt, Ssn.aSe, aSt])
 refine sr fun _ => ?_
 refine ρv ?_
 refine ma ?_
 refine ρp (j := 0) zv93 ?_
 refine ez (sr fun _ => ?_)
 refine mz (sr fun _ => ?_)
 refine mz ?_
 refine AWP.seq (sr fun _ => ?_)
 refine ρ6 U84 sz3 ?_
 refine ρ5 U3 ?_
 refine ez ?_
 refine AWP.block (sr fun _ => ?_)
 refine ρ1 ?_
 refine mz ?_
 refine ρq (fun h0 => ?_) (fun h0 => ?_)
 · simp [hk] at h0
 refine sr fun _ => ?_
 refine ρ1 ?_
 refine mz ?_
 refine ρq (fun h1 => ?_) (fun h1 => ?_)
 · simp [hk] at h1
 refine sr fun _ => ?_
 refine ρ1 ?_
 refine mz ?_
 refine ρq (fun h2 => ?_) (fun h2 => ?_)
 · simp [hk] at h2
 refine sr fun _ => ?_
 refine ρ1 ?_
 refine mz ?_
 refine ρq (fun h3 => ?_) (fun h3 => ?_)
 · simp [hk] at h3
 refine AWP.region (fun _ => ?_)
 refine mv ?_
 refine ρ6 U84 sz3 ?_
 refine ρ5 U3 ?_
 refine ρ6 U84 sz3 ?_
 refine ρ5 U3 ?_
 refine ARun.call rfl rfl rfl rfl cf159 (ep rfl) (.cons (ep rfl) (.cons (ep rfl) (.cons (ep rfl) .nil))) rfl (fun hg => Stk.ship_fn l c.item c.qty (by omega)) optN ?_
 refine mv ?_
 refine ρ4 ?_
 refine ρ4 ?_
 refine ma ?_
 refine ma ?_
 refine ⟨_, _, rfl, hG, ?_⟩
 refine blockA_n (thenA_n (AWP.seq ?_))
 refine sr fun _ => ?_
 refine mv ?_
 refine ρ1 ?_
 refine ez ?_
 refine ρq (fun h4 => ?_) (fun h4 => ?_)
 · simp at h4
   refine sr fun _ => ?_
   refine mv ?_
   refine mv ?_
   refine ρh cf51 ?_ (hF := fun hg => told_fn (StockP.withP (StockP.shipG c.qty) l c.item c.qty).2 [] (by simp))
   refine ma ?_
   refine ρ2 sz93 ?_
   refine ez ?_
   refine AWP.ret (thenA_r ?_)
   refine ρl (rs := [.tmp 4, .cell 5 93]) (.cons (.tmp rfl) (.cons (.cellA rfl ((hG.at _ _).trans rfl) U93 rfl sz93 rfl rfl) .nil)) ?_
   rw [oneR_n (one_5 hk) h4]; rfl
 simp at h4
 refine AWP.skip (thenA_n (sr fun _ => ?_))
 refine mv ?_
 refine mv ?_
 refine ρ6 U84 sz3 ?_
 refine ρ5 U3 ?_
 refine ρh cf152 ?_ (hF := fun hg => toldS_fn (StockP.withP (StockP.shipG c.qty) l c.item c.qty).1 c.item (by omega))
 refine ma ?_
 refine ρ2 sz93 ?_
 refine ez ?_
 refine AWP.ret ?_
 refine ρl (rs := [.tmp 4, .cell 5 93]) (.cons (.tmp rfl) (.cons (.cellA rfl ((hG.at _ _).trans rfl) U93 rfl sz93 rfl rfl) .nil)) ?_
 rw [oneR_y (one_5 hk) h4]; rfl
theorem one_fn (l : Its) (c : Cl) (hl : l.length ≤ 100) (hk : 1 ≤ c.kind ∧ c.kind ≤ 5) : FnP Tryz.prog 129 [.sl (l.map Stk.aIt), aCl c] (.tup [.sl ((oneR l c).1.map Stk.aIt), aRp (oneR l c).2]) := by
 rcases (show c.kind = 1 ∨ c.kind = 2 ∨ c.kind = 3 ∨ c.kind = 4 ∨ c.kind = 5 by omega) with h | h | h | h | h
 · exact one1_fn l c hl h
 · exact one2_fn l c hl h
 · exact one3_fn l c hl h
 · exact one4_fn l c hl h
 exact one5_fn l c hl h
theorem moveS_fn (l : Its) (c : Cl) (hl : l.length ≤ 100) : FnP Tryz.prog 126 [.sl (l.map Stk.aIt), aCl c] (.tup [.sl ((moveR l c).1.map Stk.aIt), aRp (moveR l c).2]) := by
 have hml : (mvP l c).1.length ≤ l.length := Stk.move_len l c.item c.to_ c.qty
 refine FnP.of Tryz.func126 rfl rfl (by simp) (by simp [AV.cells, aIn, aOut, aLn, aCl, aRp, Stk.aIt, Ssn.aSe, aSt]) (fun G hG => ?_)
 have hN : NoH G.length (.tup [.sl ((moveR l c).1.map Stk.aIt), aRp (moveR l c).2]) := (by simp [AV.cells, aIn, aOut, aLn, aCl, aRp, Stk.aIt, Ssn.aSe, aSt])
 refine sr fun _ => ?_
 refine ρv ?_
 refine ma ?_
 refine ρp (j := 0) zv93 ?_
 refine ez (sr fun _ => ?_)
 refine mv ?_
 refine ρ6 U84 sz3 ?_
 refine ρ5 U3 ?_
 refine ρ6 U84 sz3 ?_
 refine ρ5 U3 ?_
 refine ρ6 U84 sz3 ?_
 refine ρ5 U3 ?_
 refine ARun.call rfl rfl rfl rfl cf150 (ep rfl) (.cons (ep rfl) (.cons (ep rfl) (.cons (ep rfl) (.cons (ep rfl) .nil)))) rfl (fun hg => Stk.move_fn l c.item c.to_ c.qty (by omega)) optN ?_
 refine mv ?_
 refine ρ4 ?_
 refine ρ4 ?_
 refine ma ?_
 refine mz ?_
 refine AWP.seq (sr fun _ => ?_)
 refine mv ?_
 refine ρ1 ?_
 refine ez ?_
 refine ρq (fun h0 => ?_) (fun h0 => ?_)
 · simp at h0
   refine sr fun _ => ?_
   refine mv ?_
   refine mv ?_
   refine ρh cf51 ?_ (hF := fun hg => told_fn (mvP l c).2 [] (by simp))
   refine ma ?_
   refine ρ2 sz93 ?_
   refine ez ?_
   refine AWP.ret (thenA_r ?_)
   refine ρl (rs := [.tmp 4, .cell 5 93]) (.cons (.tmp rfl) (.cons (.cellA rfl ((hG.at _ _).trans rfl) U93 rfl sz93 rfl rfl) .nil)) ?_
   rw [moveR, if_neg h0]; rfl
 simp at h0
 refine AWP.skip (thenA_n (sr fun _ => ?_))
 refine mv ?_
 refine ρ6 U84 sz3 ?_
 refine ρ5 U3 ?_
 refine ρh cf151 ?_ (hF := fun hg => Stk.find_fn (mvP l c).1 c.item (by omega))
 refine mv ?_
 refine ρ4 ?_
 refine ρ4 ?_
 refine ρp (j := 1) zv108 ?_
 refine ρ2 sz108 ?_
 refine mz (sr fun _ => ?_)
 refine mv ?_
 refine ρ6 U84 sz3 ?_
 refine ρ5 U3 ?_
 refine ρh cf151 ?_ (hF := fun hg => Stk.find_fn (mvP l c).1 c.to_ (by omega))
 refine mv ?_
 refine ρ4 ?_
 refine ρ4 ?_
 refine ρp (j := 2) zv108 ?_
 refine ρ2 sz108 ?_
 refine mz (sr fun _ => ?_)
 refine mv ?_
 refine ρa (fo := 1) U108 sz3 ?_
 refine ρd U3 ?_
 refine ρa (fo := 1) U108 sz3 ?_
 refine ρd U3 ?_
 refine ARun.buildSl rfl rfl rfl rfl U40 sz3 zv3 rfl (by decide) (.cons (ep rfl) (.cons (ep rfl) .nil)) rfl rfl rfl rfl (by decide) rfl rfl optN ?_
 refine ρh cf51 ?_ (hF := fun hg => told_fn 0 [(tF (mvP l c).1 c.item).free, (tF (mvP l c).1 c.to_).free] (by simp))
 refine ma ?_
 refine ρ2 sz93 ?_
 refine ez ?_
 refine AWP.ret ?_
 refine ρl (rs := [.tmp 4, .cell 5 93]) (.cons (.tmp rfl) (.cons (.cellA rfl ((hG.at _ _).trans rfl) U93 rfl sz93 rfl rfl) .nil)) ?_
 rw [moveR, if_pos h0]; rfl
theorem queryS_fn (l : Its) (c : Cl) (hl : l.length ≤ 100) : FnP Tryz.prog 127 [.sl (l.map Stk.aIt), aCl c] (.tup [.sl ((queryR l c).1.map Stk.aIt), aRp (queryR l c).2]) := by
 refine FnP.of Tryz.func127 rfl rfl (by simp) (by simp [AV.cells, aIn, aOut, aLn, aCl, aRp, Stk.aIt, Ssn.aSe, aSt]) (fun G hG => ?_)
 have hN : NoH G.length (.tup [.sl ((queryR l c).1.map Stk.aIt), aRp (queryR l c).2]) := (by simp [AV.cells, aIn, aOut, aLn, aCl, aRp, Stk.aIt, Ssn.aSe, aSt])
 refine sr fun _ => ?_
 refine ρv ?_
 refine ma ?_
 refine ρp (j := 0) zv93 ?_
 refine ez ?_
 refine AWP.seq (sr fun _ => ?_)
 refine mv ?_
 refine ρ6 U84 sz3 ?_
 refine ρ5 U3 ?_
 refine ρh cf151 ?_ (hF := fun hg => Stk.find_fn l c.item (by omega))
 refine mv ?_
 refine ρ4 ?_
 refine ρ4 ?_
 refine ρp (j := 1) zv108 ?_
 refine ρ2 sz108 ?_
 refine mz (sr fun _ => ?_)
 refine mv ?_
 refine ARun.not rfl rfl rfl rfl (ep rfl) optN ?_
 refine ez ?_
 refine ρq (fun h0 => ?_) (fun h0 => ?_)
 · simp at h0
   refine sr fun _ => ?_
   refine mv ?_
   refine ρh cf51 ?_ (hF := fun hg => told_fn 40 [] (by simp))
   refine ma ?_
   refine ρ2 sz93 ?_
   refine ez ?_
   refine AWP.ret (thenA_r ?_)
   refine ρl (rs := [.tmp 4, .cell 5 93]) (.cons (.tmp rfl) (.cons (.cellA rfl ((hG.at _ _).trans rfl) U93 rfl sz93 rfl rfl) .nil)) ?_
   rw [queryR, if_neg (by simp [h0])]; rfl
 simp at h0
 refine AWP.skip (thenA_n (sr fun _ => ?_))
 refine mv ?_
 refine mv ?_
 refine ρ6 U84 sz3 ?_
 refine ρ5 U3 ?_
 refine ρh cf152 ?_ (hF := fun hg => toldS_fn l c.item (by omega))
 refine ma ?_
 refine ρ2 sz93 ?_
 refine ez ?_
 refine AWP.ret ?_
 refine ρl (rs := [.tmp 4, .cell 5 93]) (.cons (.tmp rfl) (.cons (.cellA rfl ((hG.at _ _).trans rfl) U93 rfl sz93 rfl rfl) .nil)) ?_
 rw [queryR, if_pos h0]; rfl
theorem orderS_fn (l : Its) (c : Cl) (hl : l.length ≤ 100) (hc : c.lines.length ≤ 1000) : FnP Tryz.prog 128 [.sl (l.map Stk.aIt), aCl c] (.tup [.sl ((orderR l c).1.map Stk.aIt), aRp (orderR l c).2]) := by
 refine FnP.of Tryz.func128 rfl rfl (by simp) (by simp [AV.cells, aIn, aOut, aLn, aCl, aRp, Stk.aIt, Ssn.aSe, aSt]) (fun G hG => ?_)
 have hN : NoH G.length (.tup [.sl ((orderR l c).1.map Stk.aIt), aRp (orderR l c).2]) := (by simp [AV.cells, aIn, aOut, aLn, aCl, aRp, Stk.aIt, Ssn.aSe, aSt])
 refine sr fun _ => ?_
 refine ρv ?_
 refine ma ?_
 refine ρp (j := 0) zv93 ?_
 refine ez (sr fun _ => ?_)
 refine mv ?_
 refine ρ6 U84 sz82 ?_
 refine ρ5 U82 ?_
 refine ρh cf153 ?_ (hF := fun hg => Stk.holdB_fn l c.lines (by omega))
 refine mv ?_
 refine ρ4 ?_
 refine ρ4 ?_
 refine ρ4 ?_
 refine ma ?_
 refine ma ?_
 refine mz ?_
 refine AWP.seq (sr fun _ => ?_)
 refine mv ?_
 refine ρ1 ?_
 refine ez ?_
 refine ρq (fun h0 => ?_) (fun h0 => ?_)
 · simp at h0
   refine sr fun _ => ?_
   refine mv ?_
   refine mv ?_
   refine mv ?_
   refine ARun.buildSl rfl rfl rfl rfl U40 sz3 zv3 rfl (by decide) (.cons (ep rfl) .nil) rfl rfl rfl rfl (by decide) rfl rfl optN ?_
   refine ρh cf51 ?_ (hF := fun hg => told_fn (orP l c).2.2 [(orP l c).2.1] (by simp))
   refine ma ?_
   refine ρ2 sz93 ?_
   refine ez ?_
   refine AWP.ret (thenA_r ?_)
   refine ρl (rs := [.tmp 4, .cell 5 93]) (.cons (.tmp rfl) (.cons (.cellA rfl ((hG.at _ _).trans rfl) U93 rfl sz93 rfl rfl) .nil)) ?_
   rw [orderR, if_neg h0]; rfl
 simp at h0
 refine AWP.skip (thenA_n (sr fun _ => ?_))
 refine mv ?_
 refine ρ6 U84 sz82 ?_
 refine ρ5 U82 ?_
 refine ρj cf154 (fun hg => Stk.total_fn c.lines hc) ?_
 refine ARun.buildSl rfl rfl rfl rfl U40 sz3 zv3 rfl (by decide) (.cons (ep rfl) .nil) rfl rfl rfl rfl (by decide) rfl rfl optN ?_
 refine ρh cf51 ?_ (hF := fun hg => told_fn 0 [StockP.totalP c.lines] (by simp))
 refine ma ?_
 refine ρ2 sz93 ?_
 refine ez ?_
 refine AWP.ret ?_
 refine ρl (rs := [.tmp 4, .cell 5 93]) (.cons (.tmp rfl) (.cons (.cellA rfl ((hG.at _ _).trans rfl) U93 rfl sz93 rfl rfl) .nil)) ?_
 rw [orderR, if_pos h0]; rfl
theorem of6_fn (l : Its) (k : Int) (hk : k = 6) : FnP Tryz.prog 85 [.sl (l.map Stk.aIt), .int .i64 k] (.fn (.func 126) [.sl (l.map Stk.aIt)] []) := by
 refine FnP.of Tryz.func85 rfl rfl (by simp) (by simp [AV.cells, Stk.aIt]) (fun G hG => ?_)
 have hN : NoH G.length (.fn (.func 126) [.sl (l.map Stk.aIt)] []) := (by simp [AV.cells, Stk.aIt])
 refine sr fun _ => ?_
 refine mz ?_
 refine AWP.seq (sr fun _ => ?_)
 refine mv ?_
 refine ez ?_
 refine AWP.block (sr fun _ => ?_)
 refine ρ1 ?_
 refine mz ?_
 refine ρq (fun h0 => ?_) (fun h0 => ?_)
 · refine sr fun _ => ?_
   refine mv ?_
   refine ARun.makeFunc rfl rfl rfl rfl (.cons (ep rfl) .nil) .nil optN ?_
   refine mz ?_
   refine AWP.ret (blockA_r (thenA_r ?_))
   refine ρc ?_
   rfl
 simp [hk] at h0
theorem of7_fn (l : Its) (k : Int) (hk : k = 7) : FnP Tryz.prog 85 [.sl (l.map Stk.aIt), .int .i64 k] (.fn (.func 127) [.sl (l.map Stk.aIt)] []) := by
 refine FnP.of Tryz.func85 rfl rfl (by simp) (by simp [AV.cells, Stk.aIt]) (fun G hG => ?_)
 have hN : NoH G.length (.fn (.func 127) [.sl (l.map Stk.aIt)] []) := (by simp [AV.cells, Stk.aIt])
 refine sr fun _ => ?_
 refine mz ?_
 refine AWP.seq (sr fun _ => ?_)
 refine mv ?_
 refine ez ?_
 refine AWP.block (sr fun _ => ?_)
 refine ρ1 ?_
 refine mz ?_
 refine ρq (fun h0 => ?_) (fun h0 => ?_)
 · simp [hk] at h0
 refine sr fun _ => ?_
 refine ρ1 ?_
 refine mz ?_
 refine ρq (fun h1 => ?_) (fun h1 => ?_)
 · refine sr fun _ => ?_
   refine mv ?_
   refine ARun.makeFunc rfl rfl rfl rfl (.cons (ep rfl) .nil) .nil optN ?_
   refine mz ?_
   refine AWP.ret (blockA_r (thenA_r ?_))
   refine ρc ?_
   rfl
 simp [hk] at h1
theorem of8_fn (l : Its) (k : Int) (hk : k = 8) : FnP Tryz.prog 85 [.sl (l.map Stk.aIt), .int .i64 k] (.fn (.func 128) [.sl (l.map Stk.aIt)] []) := by
 refine FnP.of Tryz.func85 rfl rfl (by simp) (by simp [AV.cells, Stk.aIt]) (fun G hG => ?_)
 have hN : NoH G.length (.fn (.func 128) [.sl (l.map Stk.aIt)] []) := (by simp [AV.cells, Stk.aIt])
 refine sr fun _ => ?_
 refine mz ?_
 refine AWP.seq (sr fun _ => ?_)
 refine mv ?_
 refine ez ?_
 refine AWP.block (sr fun _ => ?_)
 refine ρ1 ?_
 refine mz ?_
 refine ρq (fun h0 => ?_) (fun h0 => ?_)
 · simp [hk] at h0
 refine sr fun _ => ?_
 refine ρ1 ?_
 refine mz ?_
 refine ρq (fun h1 => ?_) (fun h1 => ?_)
 · simp [hk] at h1
 refine sr fun _ => ?_
 refine ρ1 ?_
 refine mz ?_
 refine ρq (fun h2 => ?_) (fun h2 => ?_)
 · refine sr fun _ => ?_
   refine mv ?_
   refine ARun.makeFunc rfl rfl rfl rfl (.cons (ep rfl) .nil) .nil optN ?_
   refine mz ?_
   refine AWP.ret (blockA_r (thenA_r ?_))
   refine ρc ?_
   rfl
 simp [hk] at h2
theorem of1_fn (l : Its) (k : Int) (hk : k ≠ 6 ∧ k ≠ 7 ∧ k ≠ 8) : FnP Tryz.prog 85 [.sl (l.map Stk.aIt), .int .i64 k] (.fn (.func 129) [.sl (l.map Stk.aIt)] []) := by
 refine FnP.of Tryz.func85 rfl rfl (by simp) (by simp [AV.cells, Stk.aIt]) (fun G hG => ?_)
 have hN : NoH G.length (.fn (.func 129) [.sl (l.map Stk.aIt)] []) := (by simp [AV.cells, Stk.aIt])
 refine sr fun _ => ?_
 refine mz ?_
 refine AWP.seq (sr fun _ => ?_)
 refine mv ?_
 refine ez ?_
 refine AWP.block (sr fun _ => ?_)
 refine ρ1 ?_
 refine mz ?_
 refine ρq (fun h0 => ?_) (fun h0 => ?_)
 · simp [hk] at h0
 refine sr fun _ => ?_
 refine ρ1 ?_
 refine mz ?_
 refine ρq (fun h1 => ?_) (fun h1 => ?_)
 · simp [hk] at h1
 refine sr fun _ => ?_
 refine ρ1 ?_
 refine mz ?_
 refine ρq (fun h2 => ?_) (fun h2 => ?_)
 · simp [hk] at h2
 refine AWP.skip (blockA_n (thenA_n (sr fun _ => ?_)))
 refine mv ?_
 refine ARun.makeFunc rfl rfl rfl rfl (.cons (ep rfl) .nil) .nil optN ?_
 refine mz ?_
 refine AWP.ret ?_
 refine ρc ?_
 rfl
theorem do6_fn (l : Its) (c : Cl) (hl : l.length ≤ 100) (hc : c.lines.length ≤ 1000) (hk : c.kind = 6) : FnP Tryz.prog 55 [.sl (l.map Stk.aIt), aCl c] (.tup [.sl ((doP l c).1.map Stk.aIt), aRp (doP l c).2]) := by
 refine FnP.of Tryz.func55 rfl rfl (by simp) (by simp [AV.cells, aIn, aOut, aLn, aCl, aRp, Stk.aIt, Ssn.aSe, aSt]) (fun G hG => ?_)
 have hN : NoH G.length (.tup [.sl ((doP l c).1.map Stk.aIt), aRp (doP l c).2]) := (by simp [AV.cells, aIn, aOut, aLn, aCl, aRp, Stk.aIt, Ssn.aSe, aSt])
 refine sr fun _ => ?_
 refine ρv ?_
 refine ma ?_
 refine ρp (j := 0) zv93 ?_
 refine ez ?_
 refine AWP.seq (sr fun _ => ?_)
 refine mv ?_
 refine ρj cf65 (fun hg => Stk.check_fn l) ?_
 refine mz (sr fun _ => ?_)
 refine mv ?_
 refine ρ1 ?_
 refine ez ?_
 refine ρq (fun h0 => ?_) (fun h0 => ?_)
 · simp at h0
   refine sr fun _ => ?_
   refine mv ?_
   refine mv ?_
   refine ρh cf51 ?_ (hF := fun hg => told_fn (Stk.okE l) [] (by simp))
   refine ma ?_
   refine ρ2 sz93 ?_
   refine ez ?_
   refine AWP.ret (thenA_r ?_)
   refine ρl (rs := [.tmp 4, .cell 5 93]) (.cons (.tmp rfl) (.cons (.cellA rfl ((hG.at _ _).trans rfl) U93 rfl sz93 rfl rfl) .nil)) ?_
   rw [do_0 h0, okE_two h0]; rfl
 simp at h0
 refine AWP.skip (thenA_n (AWP.seq (sr fun _ => ?_)))
 refine ρk U84 sz84 ?_
 refine ARun.call rfl rfl rfl rfl cf81 (ep rfl) (.cons (ep rfl) .nil) rfl (fun hg => check_fn c (by omega)) optN ?_
 refine mz (sr fun _ => ?_)
 refine mv ?_
 refine ARun.isNil rfl rfl rfl rfl U96 (ep rfl) (fun hg => by first | rfl | exact nilA_aEr _) (.inr ⟨rfl, rfl⟩) optN ?_
 refine ez ?_
 refine ρq (fun h1 => ?_) (fun h1 => ?_)
 · simp only [new_none] at h1
   simp at h1
   refine sr fun _ => ?_
   refine mv ?_
   refine mv ?_
   refine ρj cf53 (fun hg => code_fn (Er.new tCall (checkP c))) ?_
   refine ρh cf51 ?_ (hF := fun hg => told_fn (Er.new tCall (checkP c)).code [] (by simp))
   refine ma ?_
   refine ρ2 sz93 ?_
   refine ez ?_
   refine AWP.ret (thenA_r ?_)
   refine ρl (rs := [.tmp 4, .cell 5 93]) (.cons (.tmp rfl) (.cons (.cellA rfl ((hG.at _ _).trans rfl) U93 rfl sz93 rfl rfl) .nil)) ?_
   rw [do_1 h0 h1, new_code]; rfl
 simp only [new_none] at h1
 simp at h1
 refine AWP.skip (thenA_n (sr fun _ => ?_))
 refine mv ?_
 refine ρ6 U84 sz3 ?_
 refine ρ5 U3 ?_
 refine ρm cf85 (fun hg => of6_fn l c.kind hk) ?_
 refine mz (sr fun _ => ?_)
 refine mv ?_
 refine ρk U84 sz84 ?_
 refine ρj cf126 (fun hg => moveS_fn l c hl) ?_
 refine ρ4 ?_
 refine ρ4 ?_
 refine ma ?_
 refine ρ2 sz93 ?_
 refine ez ?_
 refine AWP.ret ?_
 refine ρl (rs := [.tmp 4, .cell 5 93]) (.cons (.tmp rfl) (.cons (.cellA rfl ((hG.at _ _).trans rfl) U93 rfl sz93 rfl rfl) .nil)) ?_
 rw [do_2 h0 h1, kind_6 hk]; rfl
theorem do7_fn (l : Its) (c : Cl) (hl : l.length ≤ 100) (hc : c.lines.length ≤ 1000) (hk : c.kind = 7) : FnP Tryz.prog 55 [.sl (l.map Stk.aIt), aCl c] (.tup [.sl ((doP l c).1.map Stk.aIt), aRp (doP l c).2]) := by
 refine FnP.of Tryz.func55 rfl rfl (by simp) (by simp [AV.cells, aIn, aOut, aLn, aCl, aRp, Stk.aIt, Ssn.aSe, aSt]) (fun G hG => ?_)
 have hN : NoH G.length (.tup [.sl ((doP l c).1.map Stk.aIt), aRp (doP l c).2]) := (by simp [AV.cells, aIn, aOut, aLn, aCl, aRp, Stk.aIt, Ssn.aSe, aSt])
 refine sr fun _ => ?_
 refine ρv ?_
 refine ma ?_
 refine ρp (j := 0) zv93 ?_
 refine ez ?_
 refine AWP.seq (sr fun _ => ?_)
 refine mv ?_
 refine ρj cf65 (fun hg => Stk.check_fn l) ?_
 refine mz (sr fun _ => ?_)
 refine mv ?_
 refine ρ1 ?_
 refine ez ?_
 refine ρq (fun h0 => ?_) (fun h0 => ?_)
 · simp at h0
   refine sr fun _ => ?_
   refine mv ?_
   refine mv ?_
   refine ρh cf51 ?_ (hF := fun hg => told_fn (Stk.okE l) [] (by simp))
   refine ma ?_
   refine ρ2 sz93 ?_
   refine ez ?_
   refine AWP.ret (thenA_r ?_)
   refine ρl (rs := [.tmp 4, .cell 5 93]) (.cons (.tmp rfl) (.cons (.cellA rfl ((hG.at _ _).trans rfl) U93 rfl sz93 rfl rfl) .nil)) ?_
   rw [do_0 h0, okE_two h0]; rfl
 simp at h0
 refine AWP.skip (thenA_n (AWP.seq (sr fun _ => ?_)))
 refine ρk U84 sz84 ?_
 refine ARun.call rfl rfl rfl rfl cf81 (ep rfl) (.cons (ep rfl) .nil) rfl (fun hg => check_fn c (by omega)) optN ?_
 refine mz (sr fun _ => ?_)
 refine mv ?_
 refine ARun.isNil rfl rfl rfl rfl U96 (ep rfl) (fun hg => by first | rfl | exact nilA_aEr _) (.inr ⟨rfl, rfl⟩) optN ?_
 refine ez ?_
 refine ρq (fun h1 => ?_) (fun h1 => ?_)
 · simp only [new_none] at h1
   simp at h1
   refine sr fun _ => ?_
   refine mv ?_
   refine mv ?_
   refine ρj cf53 (fun hg => code_fn (Er.new tCall (checkP c))) ?_
   refine ρh cf51 ?_ (hF := fun hg => told_fn (Er.new tCall (checkP c)).code [] (by simp))
   refine ma ?_
   refine ρ2 sz93 ?_
   refine ez ?_
   refine AWP.ret (thenA_r ?_)
   refine ρl (rs := [.tmp 4, .cell 5 93]) (.cons (.tmp rfl) (.cons (.cellA rfl ((hG.at _ _).trans rfl) U93 rfl sz93 rfl rfl) .nil)) ?_
   rw [do_1 h0 h1, new_code]; rfl
 simp only [new_none] at h1
 simp at h1
 refine AWP.skip (thenA_n (sr fun _ => ?_))
 refine mv ?_
 refine ρ6 U84 sz3 ?_
 refine ρ5 U3 ?_
 refine ρm cf85 (fun hg => of7_fn l c.kind hk) ?_
 refine mz (sr fun _ => ?_)
 refine mv ?_
 refine ρk U84 sz84 ?_
 refine ρj cf127 (fun hg => queryS_fn l c hl) ?_
 refine ρ4 ?_
 refine ρ4 ?_
 refine ma ?_
 refine ρ2 sz93 ?_
 refine ez ?_
 refine AWP.ret ?_
 refine ρl (rs := [.tmp 4, .cell 5 93]) (.cons (.tmp rfl) (.cons (.cellA rfl ((hG.at _ _).trans rfl) U93 rfl sz93 rfl rfl) .nil)) ?_
 rw [do_2 h0 h1, kind_7 hk]; rfl
theorem do8_fn (l : Its) (c : Cl) (hl : l.length ≤ 100) (hc : c.lines.length ≤ 1000) (hk : c.kind = 8) : FnP Tryz.prog 55 [.sl (l.map Stk.aIt), aCl c] (.tup [.sl ((doP l c).1.map Stk.aIt), aRp (doP l c).2]) := by
 refine FnP.of Tryz.func55 rfl rfl (by simp) (by simp [AV.cells, aIn, aOut, aLn, aCl, aRp, Stk.aIt, Ssn.aSe, aSt]) (fun G hG => ?_)
 have hN : NoH G.length (.tup [.sl ((doP l c).1.map Stk.aIt), aRp (doP l c).2]) := (by simp [AV.cells, aIn, aOut, aLn, aCl, aRp, Stk.aIt, Ssn.aSe, aSt])
 refine sr fun _ => ?_
 refine ρv ?_
 refine ma ?_
 refine ρp (j := 0) zv93 ?_
 refine ez ?_
 refine AWP.seq (sr fun _ => ?_)
 refine mv ?_
 refine ρj cf65 (fun hg => Stk.check_fn l) ?_
 refine mz (sr fun _ => ?_)
 refine mv ?_
 refine ρ1 ?_
 refine ez ?_
 refine ρq (fun h0 => ?_) (fun h0 => ?_)
 · simp at h0
   refine sr fun _ => ?_
   refine mv ?_
   refine mv ?_
   refine ρh cf51 ?_ (hF := fun hg => told_fn (Stk.okE l) [] (by simp))
   refine ma ?_
   refine ρ2 sz93 ?_
   refine ez ?_
   refine AWP.ret (thenA_r ?_)
   refine ρl (rs := [.tmp 4, .cell 5 93]) (.cons (.tmp rfl) (.cons (.cellA rfl ((hG.at _ _).trans rfl) U93 rfl sz93 rfl rfl) .nil)) ?_
   rw [do_0 h0, okE_two h0]; rfl
 simp at h0
 refine AWP.skip (thenA_n (AWP.seq (sr fun _ => ?_)))
 refine ρk U84 sz84 ?_
 refine ARun.call rfl rfl rfl rfl cf81 (ep rfl) (.cons (ep rfl) .nil) rfl (fun hg => check_fn c (by omega)) optN ?_
 refine mz (sr fun _ => ?_)
 refine mv ?_
 refine ARun.isNil rfl rfl rfl rfl U96 (ep rfl) (fun hg => by first | rfl | exact nilA_aEr _) (.inr ⟨rfl, rfl⟩) optN ?_
 refine ez ?_
 refine ρq (fun h1 => ?_) (fun h1 => ?_)
 · simp only [new_none] at h1
   simp at h1
   refine sr fun _ => ?_
   refine mv ?_
   refine mv ?_
   refine ρj cf53 (fun hg => code_fn (Er.new tCall (checkP c))) ?_
   refine ρh cf51 ?_ (hF := fun hg => told_fn (Er.new tCall (checkP c)).code [] (by simp))
   refine ma ?_
   refine ρ2 sz93 ?_
   refine ez ?_
   refine AWP.ret (thenA_r ?_)
   refine ρl (rs := [.tmp 4, .cell 5 93]) (.cons (.tmp rfl) (.cons (.cellA rfl ((hG.at _ _).trans rfl) U93 rfl sz93 rfl rfl) .nil)) ?_
   rw [do_1 h0 h1, new_code]; rfl
 simp only [new_none] at h1
 simp at h1
 refine AWP.skip (thenA_n (sr fun _ => ?_))
 refine mv ?_
 refine ρ6 U84 sz3 ?_
 refine ρ5 U3 ?_
 refine ρm cf85 (fun hg => of8_fn l c.kind hk) ?_
 refine mz (sr fun _ => ?_)
 refine mv ?_
 refine ρk U84 sz84 ?_
 refine ρj cf128 (fun hg => orderS_fn l c hl hc) ?_
 refine ρ4 ?_
 refine ρ4 ?_
 refine ma ?_
 refine ρ2 sz93 ?_
 refine ez ?_
 refine AWP.ret ?_
 refine ρl (rs := [.tmp 4, .cell 5 93]) (.cons (.tmp rfl) (.cons (.cellA rfl ((hG.at _ _).trans rfl) U93 rfl sz93 rfl rfl) .nil)) ?_
 rw [do_2 h0 h1, kind_8 hk]; rfl
theorem do1_fn (l : Its) (c : Cl) (hl : l.length ≤ 100) (hc : c.lines.length ≤ 1000) (hk : checkP c = 0 → c.kind ≠ 6 ∧ c.kind ≠ 7 ∧ c.kind ≠ 8 ∧ 1 ≤ c.kind ∧ c.kind ≤ 5) : FnP Tryz.prog 55 [.sl (l.map Stk.aIt), aCl c] (.tup [.sl ((doP l c).1.map Stk.aIt), aRp (doP l c).2]) := by
 refine FnP.of Tryz.func55 rfl rfl (by simp) (by simp [AV.cells, aIn, aOut, aLn, aCl, aRp, Stk.aIt, Ssn.aSe, aSt]) (fun G hG => ?_)
 have hN : NoH G.length (.tup [.sl ((doP l c).1.map Stk.aIt), aRp (doP l c).2]) := (by simp [AV.cells, aIn, aOut, aLn, aCl, aRp, Stk.aIt, Ssn.aSe, aSt])
 refine sr fun _ => ?_
 refine ρv ?_
 refine ma ?_
 refine ρp (j := 0) zv93 ?_
 refine ez ?_
 refine AWP.seq (sr fun _ => ?_)
 refine mv ?_
 refine ρj cf65 (fun hg => Stk.check_fn l) ?_
 refine mz (sr fun _ => ?_)
 refine mv ?_
 refine ρ1 ?_
 refine ez ?_
 refine ρq (fun h0 => ?_) (fun h0 => ?_)
 · simp at h0
   refine sr fun _ => ?_
   refine mv ?_
   refine mv ?_
   refine ρh cf51 ?_ (hF := fun hg => told_fn (Stk.okE l) [] (by simp))
   refine ma ?_
   refine ρ2 sz93 ?_
   refine ez ?_
   refine AWP.ret (thenA_r ?_)
   refine ρl (rs := [.tmp 4, .cell 5 93]) (.cons (.tmp rfl) (.cons (.cellA rfl ((hG.at _ _).trans rfl) U93 rfl sz93 rfl rfl) .nil)) ?_
   rw [do_0 h0, okE_two h0]; rfl
 simp at h0
 refine AWP.skip (thenA_n (AWP.seq (sr fun _ => ?_)))
 refine ρk U84 sz84 ?_
 refine ARun.call rfl rfl rfl rfl cf81 (ep rfl) (.cons (ep rfl) .nil) rfl (fun hg => check_fn c (by omega)) optN ?_
 refine mz (sr fun _ => ?_)
 refine mv ?_
 refine ARun.isNil rfl rfl rfl rfl U96 (ep rfl) (fun hg => by first | rfl | exact nilA_aEr _) (.inr ⟨rfl, rfl⟩) optN ?_
 refine ez ?_
 refine ρq (fun h1 => ?_) (fun h1 => ?_)
 · simp only [new_none] at h1
   simp at h1
   refine sr fun _ => ?_
   refine mv ?_
   refine mv ?_
   refine ρj cf53 (fun hg => code_fn (Er.new tCall (checkP c))) ?_
   refine ρh cf51 ?_ (hF := fun hg => told_fn (Er.new tCall (checkP c)).code [] (by simp))
   refine ma ?_
   refine ρ2 sz93 ?_
   refine ez ?_
   refine AWP.ret (thenA_r ?_)
   refine ρl (rs := [.tmp 4, .cell 5 93]) (.cons (.tmp rfl) (.cons (.cellA rfl ((hG.at _ _).trans rfl) U93 rfl sz93 rfl rfl) .nil)) ?_
   rw [do_1 h0 h1, new_code]; rfl
 simp only [new_none] at h1
 simp at h1
 refine AWP.skip (thenA_n (sr fun _ => ?_))
 refine mv ?_
 refine ρ6 U84 sz3 ?_
 refine ρ5 U3 ?_
 refine ρm cf85 (fun hg => of1_fn l c.kind ⟨(hk h1).1, (hk h1).2.1, (hk h1).2.2.1⟩) ?_
 refine mz (sr fun _ => ?_)
 refine mv ?_
 refine ρk U84 sz84 ?_
 refine ρj cf129 (fun hg => one_fn l c hl (hk h1).2.2.2) ?_
 refine ρ4 ?_
 refine ρ4 ?_
 refine ma ?_
 refine ρ2 sz93 ?_
 refine ez ?_
 refine AWP.ret ?_
 refine ρl (rs := [.tmp 4, .cell 5 93]) (.cons (.tmp rfl) (.cons (.cellA rfl ((hG.at _ _).trans rfl) U93 rfl sz93 rfl rfl) .nil)) ?_
 rw [do_2 h0 h1, kind_o ⟨(hk h1).1, (hk h1).2.1, (hk h1).2.2.1⟩]; rfl
theorem kind_rng {c : Cl} (h : checkP c = 0) : 1 ≤ c.kind ∧ c.kind ≤ 8 := (check_ok h).2.2.1
theorem do_fn (l : Its) (c : Cl) (hl : l.length ≤ 100) (hc : c.lines.length ≤ 1000) : FnP Tryz.prog 55 [.sl (l.map Stk.aIt), aCl c] (.tup [.sl ((doP l c).1.map Stk.aIt), aRp (doP l c).2]) := by
 by_cases h6 : c.kind = 6
 · exact do6_fn l c hl hc h6
 by_cases h7 : c.kind = 7
 · exact do7_fn l c hl hc h7
 by_cases h8 : c.kind = 8
 · exact do8_fn l c hl hc h8
 exact do1_fn l c hl hc fun h => by have := kind_rng h; exact ⟨h6, h7, h8, by omega, by omega⟩
theorem chkS_fn (s : St) : FnP Tryz.prog 42 [aSt s] (.int .i64 (chkP s)) := by
 refine FnP.of Tryz.func42 rfl rfl (by simp) (by simp [AV.cells, aIn, aOut, aLn, aCl, aRp, Stk.aIt, Ssn.aSe, aSt]) (fun G hG => ?_)
 have hN : NoH G.length (.int .i64 (chkP s)) := (by simp [AV.cells, aIn, aOut, aLn, aCl, aRp, Stk.aIt, Ssn.aSe, aSt])
 refine sr fun _ => ?_
 refine ρv ?_
 refine mz ?_
 refine AWP.seq (sr fun _ => ?_)
 refine ρ6 U25 sz22 ?_
 refine ρ5 U22 ?_
 refine ρj cf65 (fun hg => Stk.check_fn s.1) ?_
 refine ρ1 ?_
 refine mv ?_
 refine ρe U25 sz23 ?_
 refine ρb U23 ?_
 refine ρn cf66 (fun hg => Ssn.check_fn s.2) ?_
 refine ρf ?_
 refine ρ8 ?_
 refine ez ?_
 refine ρq (fun h0 => ?_) (fun h0 => ?_)
 · simp at h0
   refine sr fun _ => ?_
   refine mz ?_
   refine AWP.ret (thenA_r ?_)
   refine ρc ?_
   rw [chkP, if_neg (by rintro ⟨a, b⟩; rcases h0 with h0 | h0 <;> contradiction)]; rfl
 simp at h0
 refine AWP.skip (thenA_n (sr fun _ => ?_))
 refine mz ?_
 refine AWP.ret ?_
 refine ρc ?_
 rw [chkP, if_pos h0]; rfl
theorem bytes_fn (r : Rp) (hn : r.nums.length ≤ 1000) (hf : ∀ x, x ∈ r.nums → -9223372036854775808 ≤ x ∧ x ≤ 9223372036854775807) : FnP Tryz.prog 50 [aRp r] (.str (putR r)) := by
 refine FnP.of Tryz.func50 rfl rfl (by simp) (by simp [AV.cells, aIn, aOut, aLn, aCl, aRp, Stk.aIt, Ssn.aSe, aSt]) (fun G hG => ?_)
 have hN : NoH G.length (.str (putR r)) := (by simp [AV.cells, aIn, aOut, aLn, aCl, aRp, Stk.aIt, Ssn.aSe, aSt])
 refine sr fun _ => ?_
 refine ρv ?_
 refine mz (sr fun _ => ?_)
 refine ρk U93 sz93 ?_
 refine ARun.call rfl rfl rfl rfl cf72 (ep rfl) (.cons (ep rfl) .nil) rfl (fun hg => putR_c r (by omega) hf) optN ?_
 refine mv ?_
 refine ρ4 ?_
 refine ρ4 ?_
 refine ma ?_
 refine mz (sr fun _ => ?_)
 refine mv ?_
 refine mz ?_
 refine AWP.ret ?_
 refine ρc ?_
 rfl
theorem apply_fn (s : St) (p : ByteArray) (hp : p.size ≤ 2000) (h1s : s.1.length ≤ 60) (h2s : s.2.length ≤ 60) : FnP Tryz.prog 38 [aSt s, .str p] (.tup [aSt (applyP s p).1, .str (applyP s p).2]) := by
 have hdl := do_len s.1 (takeC p) h1s
 have htl := takeC_len p
 have hrl := putR_len (doP s.1 (takeC p)).2
 refine FnP.of Tryz.func38 rfl rfl (by simp) (by simp [AV.cells, aIn, aOut, aLn, aCl, aRp, Stk.aIt, Ssn.aSe, aSt]) (fun G hG => ?_)
 have hN : NoH G.length (.tup [aSt (applyP s p).1, .str (applyP s p).2]) := (by simp [AV.cells, aIn, aOut, aLn, aCl, aRp, Stk.aIt, Ssn.aSe, aSt])
 refine sr fun _ => ?_
 refine ρv ?_
 refine ρp (j := 0) zv25 ?_
 refine mz ?_
 refine AWP.seq (sr fun _ => ?_)
 refine ρk U25 sz25 ?_
 refine ρj cf42 (fun hg => chkS_fn s) ?_
 refine mz (sr fun _ => ?_)
 refine mv ?_
 refine ρ1 ?_
 refine ez ?_
 refine ρq (fun h0 => ?_) (fun h0 => ?_)
 · simp at h0
   refine AWP.seq ?_
   refine AWP.draw mixed (by kernel_rfl) (fun _ => ?_)
   refine ρk U25 sz25 ?_
   refine mv ?_
   refine ρh cf51 ?_ (hF := fun hg => told_fn (chkP s) [] (by simp))
   refine ARun.call rfl rfl rfl rfl cf50 (ep rfl) (.cons (ep rfl) .nil) rfl (fun hg => bytes_fn ⟨chkP s, []⟩ (by simp) (by simp)) optN ?_
   refine ρ2 sz25 ?_
   refine ma ?_
   refine ⟨by kernel_rfl, _, _, rfl, hG, ?_⟩
   refine thenA_n (AWP.ret (thenA_r ?_))
   refine ρl (rs := [.cell 4 25, .tmp 5]) (.cons (.cellA rfl ((hG.at _ _).trans rfl) U25 rfl sz25 rfl rfl) (.cons (.tmp rfl) .nil)) ?_
   rw [applyP, if_neg h0, chk_two h0]; rfl
 simp at h0
 refine AWP.skip (thenA_n (sr fun _ => ?_))
 refine mv ?_
 refine ARun.call rfl rfl rfl rfl cf52 (ep rfl) (.cons (ep rfl) .nil) rfl (fun hg => take_c p (by omega)) optN ?_
 refine mv ?_
 refine ρ4 ?_
 refine ρ4 ?_
 refine ρp (j := 1) zv84 ?_
 refine ρ2 sz84 ?_
 refine mz ?_
 refine AWP.seq (sr fun _ => ?_)
 refine mv ?_
 refine ARun.isNil rfl rfl rfl rfl U96 (ep rfl) (fun hg => by first | rfl | exact nilA_aEr _) (.inr ⟨rfl, rfl⟩) optN ?_
 refine ez ?_
 refine ρq (fun h1 => ?_) (fun h1 => ?_)
 · simp only [takeErr_none] at h1
   simp at h1
   refine AWP.seq ?_
   refine AWP.draw mixed (by kernel_rfl) (fun _ => ?_)
   refine ρk U25 sz25 ?_
   refine mv ?_
   refine ρj cf53 (fun hg => code_fn (takeErr p)) ?_
   refine ρh cf51 ?_ (hF := fun hg => told_fn (takeErr p).code [] (by simp))
   refine ARun.call rfl rfl rfl rfl cf50 (ep rfl) (.cons (ep rfl) .nil) rfl (fun hg => bytes_fn ⟨(takeErr p).code, []⟩ (by simp) (by simp)) optN ?_
   refine ρ2 sz25 ?_
   refine ma ?_
   refine ⟨by kernel_rfl, _, _, rfl, hG, ?_⟩
   refine thenA_n (AWP.ret (thenA_r ?_))
   refine ρl (rs := [.cell 4 25, .tmp 5]) (.cons (.cellA rfl ((hG.at _ _).trans rfl) U25 rfl sz25 rfl rfl) (.cons (.tmp rfl) .nil)) ?_
   rw [applyP, if_pos h0, if_neg h1, takeErr_code]; rfl
 simp only [takeErr_none] at h1
 simp at h1
 refine AWP.skip (thenA_n (sr fun _ => ?_))
 refine ρ6 U25 sz23 ?_
 refine ρ5 U23 ?_
 refine ρa (fo := 0) U84 sz3 ?_
 refine ρd U3 ?_
 refine ρa (fo := 1) U84 sz3 ?_
 refine ρd U3 ?_
 refine ARun.call rfl rfl rfl rfl cf54 (ep rfl) (.cons (ep rfl) (.cons (ep rfl) (.cons (ep rfl) .nil))) rfl (fun hg => Ssn.ask_fn s.2 (takeC p).client (takeC p).seq (by omega)) optN ?_
 refine mv ?_
 refine ρ4 ?_
 refine ρ4 ?_
 refine ρ4 ?_
 refine ma ?_
 refine ma ?_
 refine mz ?_
 refine AWP.seq (AWP.block (sr fun _ => ?_))
 refine mv ?_
 refine ρ1 ?_
 refine mz ?_
 refine ρq (fun h2 => ?_) (fun h2 => ?_)
 · simp at h2
   refine AWP.seq ?_
   refine AWP.draw mixed (by kernel_rfl) (fun _ => ?_)
   refine ρk U25 sz25 ?_
   refine mv ?_
   refine ρh cf51 ?_ (hF := fun hg => told_fn (asP s p).2.2 [] (by simp))
   refine ARun.call rfl rfl rfl rfl cf50 (ep rfl) (.cons (ep rfl) .nil) rfl (fun hg => bytes_fn ⟨(asP s p).2.2, []⟩ (by simp) (by simp)) optN ?_
   refine ρ2 sz25 ?_
   refine ma ?_
   refine ⟨by kernel_rfl, _, _, rfl, hG, ?_⟩
   refine thenA_n (AWP.ret ?_)
   refine blockA_r (thenA_r ?_)
   refine ρl (rs := [.cell 4 25, .tmp 5]) (.cons (.cellA rfl ((hG.at _ _).trans rfl) U25 rfl sz25 rfl rfl) (.cons (.tmp rfl) .nil)) ?_
   rw [applyP, if_pos h0, if_pos h1, if_neg h2]; rfl
 simp at h2
 refine sr fun _ => ?_
 refine mv ?_
 refine mz ?_
 refine ρq (fun h3 => ?_) (fun h3 => ?_)
 · refine sr fun _ => ?_
   refine ρk U25 sz25 ?_
   refine mv ?_
   refine ρ2 sz25 ?_
   refine mz ?_
   refine AWP.ret (blockA_r (thenA_r ?_))
   refine ρl (rs := [.cell 4 25, .tmp 5]) (.cons (.cellA rfl ((hG.at _ _).trans rfl) U25 rfl sz25 rfl rfl) (.cons (.tmp rfl) .nil)) ?_
   rw [applyP, if_pos h0, if_pos h1, if_pos h2, if_pos h3]; rfl
 try simp at h3
 have hnz := note_zero h1 (by omega) h2 h3
 refine AWP.skip (blockA_n (thenA_n (sr fun _ => ?_)))
 refine ρ6 U25 sz22 ?_
 refine ρ5 U22 ?_
 refine ρo U84 sz84 ?_
 refine ρh cf55 ?_ (hF := fun hg => do_fn s.1 (takeC p) (by omega) (by omega))
 refine mv ?_
 refine ρ4 ?_
 refine ρ4 ?_
 refine ρp (j := 2) zv93 ?_
 refine ma ?_
 refine ρ2 sz93 ?_
 refine ez (sr fun _ => ?_)
 refine ρo U93 sz93 ?_
 refine ARun.call rfl rfl rfl rfl cf50 (ep rfl) (.cons (ep rfl) .nil) rfl (fun hg => bytes_fn (doP s.1 (takeC p)).2 (by have := (do_fine s.1 (takeC p)).len; omega) (do_fine s.1 (takeC p)).num) optN ?_
 refine mz (sr fun _ => ?_)
 refine ρ6 U25 sz23 ?_
 refine ρ5 U23 ?_
 refine ρa (fo := 0) U84 sz3 ?_
 refine ρd U3 ?_
 refine ρa (fo := 1) U84 sz3 ?_
 refine ρd U3 ?_
 refine mv ?_
 refine ARun.build rfl rfl rfl rfl so75 (.cons (ep rfl) (.cons (ep rfl) (.cons (ep rfl) .nil))) rfl rfl optN ?_
 refine ρh cf56 ?_ (hF := fun hg => Ssn.note_fn s.2 (nwP s p) (by omega) (by show (putR _).size ≤ _; omega))
 refine mv ?_
 refine ρ4 ?_
 refine ρ4 ?_
 refine ma ?_
 refine mz ?_
 refine AWP.seq (sr fun _ => ?_)
 refine mv ?_
 refine ρ1 ?_
 refine ez ?_
 refine ρq (fun h4 => ?_) (fun h4 => ?_)
 · simp [hnz] at h4
 refine AWP.skip (thenA_n (sr fun _ => ?_))
 refine mv ?_
 refine ARun.call rfl rfl rfl rfl cf57 (ep rfl) (.cons (ep rfl) .nil) rfl (fun hg => cloneIt_fn (doP s.1 (takeC p)).1 (by omega)) optN ?_
 refine mv ?_
 refine ARun.build rfl rfl rfl rfl so25 (.cons (ep rfl) (.cons (ep rfl) .nil)) rfl rfl optN ?_
 refine mv ?_
 refine ρ2 sz25 ?_
 refine mz ?_
 refine AWP.ret ?_
 refine ρl (rs := [.cell 4 25, .tmp 5]) (.cons (.cellA rfl ((hG.at _ _).trans rfl) U25 rfl sz25 rfl rfl) (.cons (.tmp rfl) .nil)) ?_
 rw [applyP, if_pos h0, if_pos h1, if_pos h2, if_neg (by simp [h3])]; rfl
end Go.Proofs.YtcndnllmlhhjiaaGreatDoor
namespace Go.Proofs.YtcndnllmlhhjiaaGreatDoor
open NumP
/-! ### what a payload does -/
theorem apply_cases {s : St} {p : ByteArray} (hp : p.size ≤ 1000000) (hc : chkP s = 0) :
   (takeE p ≠ 0 ∧ applyP s p = (s, putR ⟨takeE p, []⟩)) ∨ (takeE p = 0 ∧ (asP s p).2.2 ≠ 0 ∧ applyP s p = (s, putR ⟨(asP s p).2.2, []⟩)) ∨
   (takeE p = 0 ∧ (asP s p).2.2 = 0 ∧ (asP s p).2.1 = true ∧ applyP s p = (s, (asP s p).1)) ∨
   (takeE p = 0 ∧ (asP s p).2.2 = 0 ∧ (asP s p).2.1 = false ∧ (ntP s p).2 = 0 ∧ applyP s p = (((doP s.1 (takeC p)).1, (ntP s p).1), putR (doP s.1 (takeC p)).2)) := by
 unfold applyP
 rw [if_pos hc]
 by_cases h1 : takeE p = 0
 · rw [if_pos h1]
   by_cases h2 : (asP s p).2.2 = 0
   · rw [if_pos h2]
     cases h3 : (asP s p).2.1 with
     | true => exact .inr (.inr (.inl ⟨h1, h2, rfl, if_pos rfl⟩))
     | false => exact .inr (.inr (.inr ⟨h1, h2, rfl, note_zero h1 hp h2 h3, if_neg (by decide)⟩))
   · rw [if_neg h2]; exact .inr (.inl ⟨h1, h2, rfl⟩)
 · rw [if_neg h1]; exact .inl ⟨h1, rfl⟩
theorem apply_ok {s : St} {p : ByteArray} (hp : p.size ≤ 1000000) (hc : chkP s = 0) : chkP (applyP s p).1 = 0 := by
 obtain ⟨c1, c2⟩ := chk_zero hc
 rcases apply_cases hp hc with ⟨_, h⟩ | ⟨_, _, h⟩ | ⟨_, _, _, h⟩ | ⟨_, _, _, hn, h⟩ <;> rw [h]
 · exact hc
 · exact hc
 · exact hc
 · exact chk_mk (Stk.okE_ok.2 (do_ok (Stk.okE_ok.1 c1))) (Ssn.note_ok hn)
def noted (l : Ses) (c q : Int) (r : ByteArray) (k : Nat) : Bool := (l.take k).any fun x => decide (x.client = c) && decide (x.seq = q) && decide (x.reply = r)
def fewS (s : St) : Bool := decide (s.1.length ≤ 60) && Ssn.fewB s.2
theorem fewS_facts {s : St} (h : fewS s = true) : s.1.length ≤ 60 ∧ s.2.length ≤ 60 ∧ ∀ x, x ∈ s.2 → x.reply.size ≤ 1000 := by
 unfold fewS at h
 rw [Bool.and_eq_true, decide_eq_true_eq] at h
 have h2 := h.2
 unfold Ssn.fewB at h2
 simp only [Bool.and_eq_true, decide_eq_true_eq, List.all_eq_true] at h2
 exact ⟨h.1, h2.1, h2.2⟩
end Go.Proofs.YtcndnllmlhhjiaaGreatDoor
namespace Go.Proofs.YtcndnllmlhhjiaaGreatDoor
open Go.RowKit
open NumP

theorem fewS_fn (s : St) : FnP Tryz.prog 7 [aSt s] (.bool (fewS s)) := by
 refine FnP.of Tryz.func7 rfl rfl (by simp) (by simp [AV.cells, aIn, aOut, aLn, aCl, aRp, Stk.aIt, Ssn.aSe, aSt]) (fun G hG => ?_)
 have hN : NoH G.length (.bool (fewS s)) := (by simp [AV.cells, aIn, aOut, aLn, aCl, aRp, Stk.aIt, Ssn.aSe, aSt])
 refine sr fun _ => ?_
 refine ρv ?_
 refine mz (sr fun _ => ?_)
 refine ρ6 U25 sz22 ?_
 refine ρ5 U22 ?_
 refine ρr U22 ?_
 refine ρ1 ?_
 refine mv ?_
 refine ρe U25 sz23 ?_
 refine ρb U23 ?_
 refine ρn cf22 (fun hg => Ssn.few_fn s.2) ?_
 refine ρ0 ?_
 refine mz ?_
 refine AWP.ret ?_
 refine ρc ?_
 rw [show fewS s = (decide ((((s.1.map Stk.aIt).length : Nat) : Int) ≤ 60) && Ssn.fewB s.2) from by unfold fewS; rw [List.length_map]; congr 1; exact decide_eq_decide.2 (by omega)]
theorem sameT_fn (a b : List ByteArray) (hl : a.length ≤ 9223372036854775807) : FnP Tryz.prog 21 [.sl (a.map AV.str), .sl (b.map AV.str)] (.bool (decide (a = b))) := by
 refine FnP.of Tryz.func21 rfl rfl (by simp) (by simp [AV.cells, aIn, aOut, aLn, aCl, aRp, Stk.aIt, Ssn.aSe, aSt]) (fun G hG => ?_)
 have hN : NoH G.length (.bool (decide (a = b))) := (by simp [AV.cells, aIn, aOut, aLn, aCl, aRp, Stk.aIt, Ssn.aSe, aSt])
 refine sr fun _ => ?_
 refine mz ?_
 refine AWP.seq (sr fun _ => ?_)
 refine mv ?_
 refine ρr U27 ?_
 refine mv ?_
 refine ρr U27 ?_
 refine ρ1 ?_
 refine ez ?_
 refine ρq (fun h0 => ?_) (fun h0 => ?_)
 · simp [-List.getD_eq_getElem?_getD] at h0
   refine sr fun _ => ?_
   refine mz ?_
   refine AWP.ret (thenA_r ?_)
   refine ρc ?_
   rw [decide_eq_false (fun e => absurd (congrArg List.length e) (by omega))]; rfl
 simp [-List.getD_eq_getElem?_getD] at h0
 refine AWP.skip (thenA_n (AWP.seq (sr fun _ => ?_)))
 refine mz ?_
 refine AWP.block ?_
 refine AWP.rounds (fun k => k ≤ a.length ∧ a.take k = b.take k) (fun k => [(0, .sl (a.map AV.str)), (1, .sl (b.map AV.str)), (5, .int .i64 (k : Int))]) (fun k => []) (fun k => a.length - k) 0 0 ⟨by omega, rfl⟩ (by repeat (first | exact .nil | refine .cons rfl ?_)) rfl (fun _ => rfl) (fun _ => ⟨by simp [AV.cells], by simp⟩) (fun k hI => ?_)
 obtain ⟨hk, hs⟩ := hI
 refine AWP.seq (sr fun _ => ?_)
 refine mv ?_
 refine mv ?_
 refine ρr U27 ?_
 refine ρ1 ?_
 refine ez ?_
 refine ρq (fun h1 => ?_) (fun h1 => ?_)
 · simp [-List.getD_eq_getElem?_getD] at h1
   refine AWP.skip (thenA_n ?_)
   refine AWP.seq (AWP.block (AWP.seq ?_))
   refine AWP.draw mixed (by kernel_rfl) (fun _ => ?_)
   refine mv ?_
   refine mv ?_
   first | refine ρ9 U27 sz9 ?_ | refine ρ3 U27 sz9 ?_
   refine ρ5 U9 ?_
   refine mv ?_
   refine mv ?_
   first | refine ρ9 U27 sz9 ?_ | refine ρ3 U27 sz9 ?_
   refine ρ5 U9 ?_
   refine ARun.cmpS rfl rfl rfl rfl (ep rfl) (ep rfl) rfl optN ?_
   refine ⟨by kernel_rfl, _, _, rfl, hG, ?_⟩
   refine thenA_n ?_
   refine ρq (fun h2 => ?_) (fun h2 => ?_)
   · simp [-List.getD_eq_getElem?_getD] at h2
     refine sr fun _ => ?_
     refine mz ?_
     refine AWP.ret (blockA_r ?_)
     refine thenA_r (thenA_r ?_)
     refine blockA_r (thenA_r ?_)
     refine ρc ?_
     rw [decide_eq_false (ne_of_get (k := k) h2)]; rfl
   simp [-List.getD_eq_getElem?_getD] at h2
   refine AWP.skip (blockA_n (thenA_n ?_))
   refine AWP.region (fun _ => ?_)
   refine mv ?_
   first | refine ρ7 ?_ | refine ρg ?_
   refine ma ?_
   refine ⟨_, _, rfl, hG, ?_⟩
   refine thenA_n ⟨rfl, k + 1, _, ?_, ?_, rfl, ?_⟩
   · exact ⟨by omega, take_eq_go hs h1 (by omega) h2⟩
   · repeat (first | exact .nil | refine .cons rfl ?_)
   omega
 simp [-List.getD_eq_getElem?_getD] at h1
 refine AWP.exit ?_
 refine thenA_x ?_
 refine thenA_x ?_
 refine blockA_h ?_
 refine thenA_n (sr fun _ => ?_)
 refine mz ?_
 refine AWP.ret ?_
 refine ρc ?_
 rw [decide_eq_true (by rw [List.take_of_length_le h1, List.take_of_length_le (by omega)] at hs; exact hs)]; rfl


theorem str_snoc (l : List ByteArray) (x : ByteArray) : l.map AV.str ++ [AV.str x] = (l ++ [x]).map AV.str := by simp
theorem fold_fn (s : St) (l : List ByteArray) (hl : l.length ≤ 30) (hs : ∀ x, x ∈ l → x.size ≤ 2000) (h1s : s.1.length ≤ 60) (h2s : s.2.length ≤ 60) : FnP Tryz.prog 29 [aSt s, .sl (l.map AV.str)] (.tup [aSt (foldP s l).1, .sl ((foldP s l).2.map AV.str)]) := by
 have hfl := fold_len s l (fun x hx => by have := hs x hx; omega) h1s h2s
 have hxs : ∀ k, k < l.length → (l.getD k default).size ≤ 2000 := fun k hk => by rw [show l.getD k default = l[k] from by simp [List.getD, hk]]; exact hs _ (List.getElem_mem hk)
 refine FnP.of Tryz.func29 rfl rfl (by simp) (by simp [AV.cells, aIn, aOut, aLn, aCl, aRp, Stk.aIt, Ssn.aSe, aSt]) (fun G hG => ?_)
 have hN : NoH G.length (.tup [aSt (foldP s l).1, .sl ((foldP s l).2.map AV.str)]) := (by simp [AV.cells, aIn, aOut, aLn, aCl, aRp, Stk.aIt, Ssn.aSe, aSt])
 refine sr fun _ => ?_
 refine ARun.box (j := 0) hG rfl rfl rfl rfl rfl (ep rfl) rfl rfl optN ?_
 refine ρp (j := 1) zv25 ?_
 refine mz (sr fun _ => ?_)
 refine ARun.nilOwn (e := 9) (z := 1) (j := 2) hG rfl ⟨.inl rfl, rfl⟩ (fun _ => rfl) rfl rfl rfl optN ?_
 refine ez ?_
 refine AWP.seq (sr fun _ => ?_)
 refine mv ?_
 refine ρr U27 ?_
 refine mv ?_
 refine ez ?_
 refine AWP.block ?_
 refine AWP.rounds (fun st => st.1 ≤ l.length ∧ foldP s (l.take st.1) = (st.2.2.1, st.2.2.2)) (fun st => [(2, .box (G.length + 0) 0), (4, .box (G.length + 1) 0), (6, .own (G.length + 2) st.2.1), (11, .sl (l.map AV.str)), (12, .int .i64 ((l.map AV.str).length : Int)), (13, .int .i64 (st.1 : Int))]) (fun st => [.box [.sl ((st.2.2.1).1.map Stk.aIt), .sl ((st.2.2.1).2.map Ssn.aSe)], .box [.sl [], .sl []], .row st.2.1 9 1 (st.2.2.2.map AV.str)]) (fun st => l.length - st.1) 3 ((0, 0, s, []) : Nat × Nat × St × List ByteArray) ⟨Nat.zero_le _, rfl⟩ (by repeat (first | exact .nil | refine .cons rfl ?_)) rfl (fun _ => rfl) (fun _ => ⟨by simp [AV.cells], by simp [AO.conts, AV.cells, Stk.aIt, Ssn.aSe]; intro x a _ e; subst e; simp⟩) (fun st hI => ?_)
 obtain ⟨k, g, cur, out⟩ := st
 dsimp only at hI
 show AWP _ _ _ _ _ [(2, .box (G.length + 0) 0), (4, .box (G.length + 1) 0), (6, .own (G.length + 2) g), (11, .sl (l.map AV.str)), (12, .int .i64 ((l.map AV.str).length : Int)), (13, .int .i64 (k : Int))] _ [.box [.sl ((cur).1.map Stk.aIt), .sl ((cur).2.map Ssn.aSe)], .box [.sl [], .sl []], .row g 9 1 (out.map AV.str)]
 obtain ⟨hk, hcur⟩ := hI
 have hfk := hfl k hk
 rw [hcur] at hfk
 obtain ⟨⟨hc1, hc2⟩, hc3⟩ := hfk
 dsimp only at hc1 hc2 hc3
 refine sr fun _ => ?_
 refine ρ1 ?_
 refine ez ?_
 refine AWP.seq ?_
 refine ρq (fun h0 => ?_) (fun h0 => ?_)
 · try simp [-List.getD_eq_getElem?_getD] at h0
   refine AWP.skip (thenA_n ?_)
   refine AWP.seq (AWP.block (sr fun _ => ?_))
   first | refine ρ9 U27 sz9 ?_ | refine ρ3 U27 sz9 ?_
   refine ρ5 U9 ?_
   refine mz (sr fun _ => ?_)
   refine ρo U25 sz25 ?_
   refine mv ?_
   refine ρh cf38 ?_ (hF := fun hg => apply_fn cur (l.getD k default) (hxs k (by omega)) hc1 hc2)
   refine mv ?_
   refine ρ4 ?_
   refine ρ4 ?_
   refine ρp (j := 3) zv25 ?_
   refine ρ2 sz25 ?_
   refine mz ?_
   refine AWP.frzBox 9 hG rfl rfl rfl ?_
   refine AWP.draw mixed (by kernel_rfl) (fun _ => ?_)
   refine ρk U25 sz25 ?_
   refine mv ?_
   refine mv ?_
   refine ARun.buildSl rfl rfl rfl rfl U27 sz9 zv9 rfl (by decide) (.cons (ep rfl) .nil) rfl rfl rfl rfl (by decide) rfl rfl optN ?_
   refine ARun.appendL hG rfl rfl rfl rfl U27 ti9 rfl (by decide) (ep rfl) (ep rfl) rfl rfl (by simp [maxLen]; omega) (by simp; omega) (str_snoc out (applyP cur (l.getD k default)).2) optN rfl ?_
   refine ρ2 sz25 ?_
   refine ma ?_
   refine ⟨by kernel_rfl, _, _, rfl, hG, ?_⟩
   refine blockA_n (thenA_n ?_)
   refine AWP.region (fun _ => ?_)
   first | refine ρ7 ?_ | refine ρg ?_
   refine mv ?_
   refine ⟨_, _, rfl, hG, ?_⟩
   refine thenA_n ⟨rfl, (k + 1, g + 1, (applyP cur (l.getD k default)).1, out ++ [(applyP cur (l.getD k default)).2]), _, ?_, ?_, rfl, ?_⟩
   · refine ⟨by dsimp only; omega, ?_⟩
     rw [fold_at s l k (by omega), hcur]; rfl
   · repeat (first | exact .nil | refine .cons rfl ?_)
   dsimp only; omega
 simp at h0
 obtain rfl : k = l.length := by omega
 rw [List.take_length] at hcur
 refine AWP.exit ?_
 refine thenA_x ?_
 refine thenA_x ?_
 refine blockA_h ?_
 refine thenA_n (sr fun _ => ?_)
 refine ρo U25 sz25 ?_
 refine mv ?_
 refine ρ2 sz25 ?_
 refine mz ?_
 refine AWP.frzOwn 5 hG rfl rfl (by decide) (by simp [maxLen]; omega) rfl ?_
 refine AWP.ret ?_
 refine ρl (rs := [.cell 4 25, .tmp 5]) (.cons (.cellA rfl ((hG.at _ _).trans rfl) U25 rfl sz25 rfl rfl) (.cons (.tmp rfl) .nil)) ?_
 rw [hcur]; rfl
end Go.Proofs.YtcndnllmlhhjiaaGreatDoor
namespace Go.Proofs.YtcndnllmlhhjiaaGreatDoor
open Go.RowKit
def mset (s : ByteArray) (v : Value) : List (ByteArray × Value) → List (ByteArray × Value)
 | [] => [(s, v)]
 | (k, u) :: es => bif s == k then (s, v) :: es else (k, u) :: mset s v es
theorem ba_beq (s k : ByteArray) : (s == k) = decide (s = k) := by
 cases s with | mk a => cases k with | mk b =>
 have : ((ByteArray.mk a) == (ByteArray.mk b)) = (a == b) := rfl
 rw [this]
 by_cases h : a = b
 · subst h; simp
 simp [h]
instance : ReflBEq ByteArray := ⟨by intro a; rw [ba_beq]; simp⟩
instance : LawfulBEq ByteArray := ⟨by intro a b h; rw [ba_beq] at h; exact of_decide_eq_true h⟩
theorem find_now (s : ByteArray) (v : Value) : ∀ (ents : List MapEntry) (es : List (ByteArray × Value)) (i : Nat), ents.map (fun e => (e.key, e.val)) = es.map (fun p => (Value.string p.1, p.2)) →
   (es.lookup s = none ∧ Instr.findNow .string (.string s) ents i = some none ∧ mset s v es = es ++ [(s, v)]) ∨
   ∃ j e, ents[j]? = some e ∧ e.key = .string s ∧ es.lookup s = some e.val ∧ Instr.findNow .string (.string s) ents i = some (some (i + j, e.val)) ∧
     (ents.set j { e with val := v }).map (fun e => (e.key, e.val)) = (mset s v es).map (fun p => (Value.string p.1, p.2)) := by
 intro ents
 induction ents with
 | nil => intro es i h; cases es with | nil => exact .inl ⟨rfl, rfl, rfl⟩ | cons p es => cases h
 | cons e ents ih =>
   intro es i h
   cases es with
   | nil => cases h
   | cons p es =>
     obtain ⟨k, u⟩ := p
     simp only [List.map_cons, List.cons.injEq, Prod.mk.injEq] at h
     obtain ⟨⟨hk, hu⟩, h2⟩ := h
     have hs : Instr.sameNow .string (.string s) e.key = some (s == k) := by rw [hk]; rfl
     cases hb : s == k with
     | true =>
       have hsk : s = k := by rw [ba_beq] at hb; exact of_decide_eq_true hb
       refine .inr ⟨0, e, rfl, by rw [hk, hsk], by rw [List.lookup_cons, hb]; exact congrArg some hu.symm, ?_, ?_⟩
       · rw [Instr.findNow, hs, hb]; rfl
       rw [mset, hb]; simp [hk, hsk, h2]
     | false =>
       have e1 : Instr.findNow .string (.string s) (e :: ents) i = Instr.findNow .string (.string s) ents (i + 1) := by rw [Instr.findNow, hs, hb]
       rcases ih es (i + 1) h2 with ⟨a, b, c⟩ | ⟨j, e', a, b, c, d, f⟩
       · refine .inl ⟨by rw [List.lookup_cons, hb]; exact a, e1.trans b, ?_⟩
         rw [mset, hb, c]; rfl
       refine .inr ⟨j + 1, e', a, b, by rw [List.lookup_cons, hb]; exact c, by rw [e1, d]; congr 3; omega, ?_⟩
       rw [mset, hb]
       simp only [List.set_cons_succ, List.map_cons, f, cond_false, hk, hu]
theorem run_checkS {P : Program} {k : TypeId} (hk : P.underlying k = some .string) (e : Bool) (s : ByteArray) (w : World) : (Instr.checkKey e 10000 k (.string s)).run P w = .ok () w := by
 unfold Instr.checkKey; simp [run_underlying hk]
theorem run_findS {P : Program} {k : TypeId} (hk : P.underlying k = some .string) {s : ByteArray} {ents : List MapEntry} {r : Option (Nat × Value)} (h : Instr.findNow .string (.string s) ents 0 = some r) (w : World) : (Instr.findKey k (.string s) ents).run P w = .ok r w := by
 simp [Instr.findKey, run_underlying hk, h]
def lookV (ok : Bool) (z : Value) (r : Option Value) : AV := bif ok then .tup [cAV (r.getD z), .bool r.isSome] else cAV (r.getD z)
theorem lookV_rep (β : List Hd) (W : World) (ok : Bool) (z : Value) (r : Option Value) : VRep β W (if ok then .tuple #[r.getD z, .bool r.isSome] else r.getD z) (lookV ok z r) := by
 cases ok
 · exact cAV_rep _ _ _
 refine .tup _ _ rfl fun j u x h1 h2 => ?_
 match j with
 | 0 => cases h1; cases h2; exact cAV_rep _ _ _
 | 1 => cases h1; cases h2; exact .bool _
 | j + 2 => simp at h1
theorem lookI (m : List (ByteArray × Int)) (s : ByteArray) : lookV true (.int .i64 0) ((m.map fun p => (p.1, Value.int .i64 p.2)).lookup s) = .tup [.int .i64 ((m.lookup s).getD 0), .bool (m.lookup s).isSome] := by
 have : (m.map fun p => (p.1, Value.int .i64 p.2)).lookup s = (m.lookup s).map (Value.int .i64) := by
   induction m with
   | nil => rfl
   | cons p m ih => obtain ⟨k, v⟩ := p; rw [List.map_cons, List.lookup_cons, List.lookup_cons]; cases s == k <;> simp [ih]
 rw [this]; cases m.lookup s <;> rfl
theorem lookI1 (m : List (ByteArray × Int)) (s : ByteArray) : lookV false (.int .i64 0) ((m.map fun p => (p.1, Value.int .i64 p.2)).lookup s) = .int .i64 ((m.lookup s).getD 0) := by
 have : (m.map fun p => (p.1, Value.int .i64 p.2)).lookup s = (m.lookup s).map (Value.int .i64) := by
   induction m with
   | nil => rfl
   | cons p m ih => obtain ⟨k, v⟩ := p; rw [List.map_cons, List.lookup_cons, List.lookup_cons]; cases s == k <;> simp [ih]
 rw [this]; cases m.lookup s <;> rfl
theorem lookB (m : List ByteArray) (s : ByteArray) : lookV false (.bool false) ((m.map fun p => (p, Value.bool true)).lookup s) = .bool (m.contains s) := by
 have : (m.map fun p => (p, Value.bool true)).lookup s = bif m.contains s then some (.bool true) else none := by
   induction m with
   | nil => rfl
   | cons k m ih => rw [List.map_cons, List.lookup_cons, List.contains_cons]; cases s == k <;> simp [ih]
 rw [this]; cases m.contains s <;> rfl
def plainVal : AV → Option Value
 | .int k n => some (.int k n)
 | .bool b => some (.bool b)
 | _ => none
theorem plainVal_rep {X : AV} {v u : Value} (h : plainVal X = some v) {β : List Hd} {W : World} (hr : VRep β W u X) : u = v := by
 cases hr <;> simp [plainVal] at h <;> exact h
theorem VRep.mh_at {β : List Hd} {H : List AO} {W : World} {v : Value} {i : Nat} {es : List (ByteArray × Value)} (h : VRep β W v (.mh i)) (hH : HRel β H W) (hi : H[i]? = some (.map es)) : ∃ b, β[i]? = some (.map b) ∧ v = .map (some b) ∧ MapAt W b es := by
 cases h with
 | mh b0 _ hi2 h =>
   have hg : β[i]? = some β[i] := List.getElem?_eq_getElem hi2
   have ho := hH.ob i _ _ hi hg
   cases hb : β[i] with
   | box b => rw [hb] at ho; exact ho.elim
   | row v g => rw [hb] at ho; exact ho.elim
   | dead => rw [hb] at ho; exact ho.elim
   | guard b => rw [hb] at ho; exact ho.elim
   | bld b v => rw [hb] at ho; exact ho.elim
   | map b => rw [hb] at ho hg; exact ⟨b, hg, by rw [h _ b hg rfl], ho⟩
theorem run_lookS {P : Program} {t k e : TypeId} (hu : P.underlying t = some (.map k e)) (hk : P.underlying k = some .string) {z : Value} (hz : Zv P e z) {W : World} {b : Nat} {es : List (ByteArray × Value)} (hm : MapAt W b es) (s : ByteArray) (ok : Bool) :
   (Instr.lookup t (.map (some b)) (.string s) ok).run P W = .ok (if ok then .tuple #[(es.lookup s).getD z, .bool (es.lookup s).isSome] else (es.lookup s).getD z) W := by
 obtain ⟨ents, clock, h1, h2⟩ := hm
 rcases find_now s undef ents.toList es 0 h2 with ⟨a, c, _⟩ | ⟨j, e', _, _, a, c, _⟩
 · rw [a]
   simp [Instr.lookup, run_underlying hu, MapKept.run_getObj_map h1, run_checkS hk, run_findS hk c, hz.run]
 rw [a]
 simp [Instr.lookup, run_underlying hu, MapKept.run_getObj_map h1, run_checkS hk, run_findS hk c]
section
variable {P : Program} {ops : Array Oper} {n m : Nat} {QQ : List Kd → Sl → List AO → Prop} {l : List Oper} {ks : List Kd} {σ : Sl} {G L H : List AO} {o : Oper} {gd : Bool}
theorem ARun.makeMap {t : TypeId} {j : Nat} {Y : AV} {d : Option Tmp} (hm : GOK m G) (hj : L.length = j) (ho : o.op = .makeMap t none) (hd : o.dst = d) (hn : dstLt n d = true) (hg : gdS ops σ o.guard = some true)
   (hY : optA o.guard true (.mh (m + j)) = Y)
   (hr : ARun P ops n QQ l (ks ++ [.new]) (putS σ d Y) (G ++ (L ++ [.map []]))) : ARun P ops n QQ (o :: l) ks σ (G ++ L) := by
 refine ARun.new (E := [.map []]) hd hn hg hY (fun H0 hl0 a W β hHr hl => ?_) (by rw [List.append_assoc]; exact hr)
 have hb : Below W.heap.size W (W.alloc (.map #[] 0)) := (Below.refl _ _).alloc (Nat.le_refl _) _
 have hsn := hHr.snoc (w' := W.alloc (.map #[] 0)) hb (x := .map W.heap.size) (o := .map []) ⟨#[], 0, heap_alloc_new W _, rfl⟩ (fun b hb => by simp [Hd.blks] at hb; omega)
 have hlen : β.length = m + j := by rw [hHr.len, hl0, List.length_append, hm.1, hj]
 refine ⟨.map (some W.heap.size), _, β ++ [.map W.heap.size], ?_, hsn.1, hsn.2, .mh _ _ (by rw [List.length_append, hlen]; simp) fun x b hb hcb => ?_⟩
 · simp [execOp, ho, Instr.makeMap, newObj, Sem.run]
 rw [List.getElem?_append_right (by omega), hlen, Nat.sub_self] at hb
 cases hb; cases hcb; rfl
theorem ARun.lookMp {x y : Operand} {t k e : TypeId} {ok : Bool} {es : List (ByteArray × Value)} {s : ByteArray} {z : Value} {X Y : AV} {d : Option Tmp} (ho : o.op = .lookup t x y ok) (hd : o.dst = d) (hn : dstLt n d = true) (hG : gdS ops σ o.guard = some gd)
   (hu : P.underlying t = some (.map k e)) (hk : P.underlying k = some .string) (hz : Zv P e z)
   (hx : Ev gd σ x (.mp es)) (hy : Ev gd σ y (.str s)) (hX : lookV ok z (es.lookup s) = X) (hY : optA o.guard gd X = Y)
   (hr : ARun P ops n QQ l (ks ++ [.pure]) (putS σ d Y) H) : ARun P ops n QQ (o :: l) ks σ H := by
 subst hX
 refine ARun.same hd hn hG hY (fun hg a W β hl => ⟨_, ?_, lookV_rep _ _ _ _ _⟩) hr
 have h1 := hx.rep hg hl (by simp [ho, Op.operands])
 have h2 := hy.rep hg hl (by simp [ho, Op.operands])
 generalize hv1 : a.eval x = v1 at h1
 generalize hv2 : a.eval y = v2 at h2
 cases h2
 cases h1 with
 | mp b _ hb hS hm => simp [execOp, ho, hv1, hv2, run_lookS hu hk hz hm s ok]
theorem ARun.lookMh {x y : Operand} {t k e : TypeId} {ok : Bool} {i : Nat} {es : List (ByteArray × Value)} {s : ByteArray} {z : Value} {X Y : AV} {d : Option Tmp} (ho : o.op = .lookup t x y ok) (hd : o.dst = d) (hn : dstLt n d = true) (hG : gdS ops σ o.guard = some gd)
   (hu : P.underlying t = some (.map k e)) (hk : P.underlying k = some .string) (hz : Zv P e z)
   (hx : Ev gd σ x (.mh i)) (hH : H[i]? = some (.map es)) (hy : Ev gd σ y (.str s)) (hX : lookV ok z (es.lookup s) = X) (hY : optA o.guard gd X = Y)
   (hr : ARun P ops n QQ l (ks ++ [.rd]) (putS σ d Y) H) : ARun P ops n QQ (o :: l) ks σ H := by
 subst hX
 refine ARun.rd hd hn hG hY (fun hg E a W β hHr hl => ⟨_, ?_, lookV_rep _ _ _ _ _⟩) hr
 obtain ⟨b, _, h1, hm⟩ := (hx.rep hg hl (by simp [ho, Op.operands])).mh_at hHr (at_ext hH E)
 have h2 := hy.rep hg hl (by simp [ho, Op.operands])
 generalize hv2 : a.eval y = v2 at h2
 cases h2
 simp [execOp, ho, h1, hv2, run_lookS hu hk hz hm s ok]
theorem ARun.mapSet {x y v : Operand} {t k e : TypeId} {j : Nat} {es : List (ByteArray × Value)} {s : ByteArray} {V : AV} {u : Value} {L' : List AO} (hm : GOK m G) (ho : o.op = .mapUpdate t x y v) (hd : o.dst = none) (hg : gdS ops σ o.guard = some true)
   (hu : P.underlying t = some (.map k e)) (hk : P.underlying k = some .string)
   (hx : Ev true σ x (.mh (m + j))) (hH : L[j]? = some (.map es)) (hy : Ev true σ y (.str s)) (hv : Ev true σ v V) (hV : plainVal V = some u) {es' : List (ByteArray × Value)} (he : mset s u es = es') (hL : L.set j (.map es') = L')
   (hr : ARun P ops n QQ l (ks ++ [.write]) σ (G ++ L')) : ARun P ops n QQ (o :: l) ks σ (G ++ L) := by
 subst he
 refine ⟨.write, .raw undef, G ++ L', by rw [hd]; rfl, OpStep.skip (gd := true) hg rfl (fun a W β hHr hl => ?_), by rw [hd]; exact hr⟩
 have hiH : (G ++ L)[m + j]? = some (.map es) := by rw [hm.at]; exact hH
 obtain ⟨b, hβ, h1, ents, clock, hhp, hes⟩ := (hx.rep rfl hl (by simp [ho, Op.operands])).mh_at hHr hiH
 have h2 := hy.rep rfl hl (by simp [ho, Op.operands])
 have h3 := plainVal_rep hV (hv.rep rfl hl (by simp [ho, Op.operands]))
 generalize hv2 : a.eval y = v2 at h2
 cases h2
 have hlt : b < W.heap.size := (Array.getElem?_eq_some_iff.1 hhp).1
 have key : ∀ (ents' : Array MapEntry) (c' : Nat), ents'.toList.map (fun e => (e.key, e.val)) = (mset s u es).map (fun p => (Value.string p.1, p.2)) →
     Ext β W β (ChangeMaps.setBlock W b (.map ents' c')) ∧ HRel β (G ++ L') (ChangeMaps.setBlock W b (.map ents' c')) := by
   intro ents' c' he
   rw [← hL, ← hm.set]
   refine hHr.set hβ rfl (by simp [ChangeMaps.setBlock]) rfl rfl rfl (fun q hq => ?_) (fun _ => ⟨ents', c', ?_, he⟩)
   · simp [ChangeMaps.setBlock, Array.getElem?_setIfInBounds, Ne.symm hq]
   simp [ChangeMaps.setBlock, Array.getElem?_setIfInBounds, hlt]
 rcases find_now s u ents.toList es 0 hes with ⟨_, c, d⟩ | ⟨q, e', a1, a2, _, c, d⟩
 · have hk2 := key (ents.push { key := .string s, val := u, born := clock }) (clock + 1) (by rw [d]; simp [hes])
   refine ⟨_, β, ?_, hk2.1, hk2.2⟩
   simp [execOp, ho, h1, h3, hv2, Instr.mapUpdate, run_underlying hu, MapKept.run_getObj_map hhp, run_checkS hk, run_findS hk c, MapKept.run_setObj_map _ hhp, ChangeMaps.setBlock, Result.andThen]
 have hq : ents[q]? = some e' := by simpa using a1
 have hmod : (ents.modify (0 + q) fun e => { e with key := .string s, val := u }).toList = ents.toList.set q { e' with val := u } := by
   rw [Nat.zero_add, Array.toList_modify, ChangeMaps.modify_eq_set _ _ _ _ a1, ← a2]
 have hk2 := key (ents.modify (0 + q) fun e => { e with key := .string s, val := u }) clock (by rw [hmod]; exact d)
 refine ⟨_, β, ?_, hk2.1, hk2.2⟩
 have hss : (s == s) = true := by rw [ba_beq]; simp
 simp [execOp, ho, h1, h3, hv2, Instr.mapUpdate, run_underlying hu, MapKept.run_getObj_map hhp, run_checkS hk, run_findS hk c, hq, a2, Instr.keyThatStays, Instr.sameBits, hss, MapKept.run_setObj_map _ hhp, ChangeMaps.setBlock, Result.andThen]
end
theorem AWP.frzMap {P : Program} {n m : Nat} {c : Code} {Q : QA} {σ : Sl} {G L : List AO} {j : Nat} {es : List (ByteArray × Value)} {L' : List AO} (t : Nat) (hm : GOK m G) (ht : look σ t = some (.mh (m + j))) (hj : L[j]? = some (.map es)) (hL : L.set j .dead = L')
   (h : AWP P n m c Q ((t, .mp es) :: σ) G L') : AWP P n m c Q σ G L := by
 intro D a W β hmG hn hd hHr hs0
 have hiH : (G ++ L)[m + j]? = some (.map es) := by rw [hm.at]; exact hj
 obtain ⟨u, ku, hu⟩ := hs0 t _ ht
 obtain ⟨b, hβ, hub, hmp⟩ := hu.mh_at hHr hiH
 have hbl : b < W.heap.size := hHr.lt hβ (List.mem_singleton.2 rfl)
 obtain ⟨hext, hH2⟩ := hHr.change hβ (x' := .dead) (o := .dead) (w' := W) trivial (fun _ e => by cases e) rfl rfl rfl (Nat.le_refl _) (fun _ _ _ => rfl) (fun b hb => by cases hb) (fun _ => trivial)
 rw [hm.set, hL] at hH2
 have hpe : VRep (β.set (m + j) .dead) W u (.mp es) := by
   rw [hub]
   refine .mp b es hbl (fun x hx e5 => ?_) hmp
   obtain ⟨k, hk, rfl⟩ := List.mem_iff_getElem.1 hx
   have hk2 : (β.set (m + j) .dead)[k]? = some ((β.set (m + j) .dead)[k]) := List.getElem?_eq_getElem hk
   by_cases e : m + j = k
   · subst e; rw [List.getElem_set_self] at e5; cases e5
   rw [List.getElem?_set_ne e] at hk2
   exact hHr.ap _ _ _ _ b e hβ hk2 (List.mem_singleton.2 rfl) e5
 refine Code.wp_mono (fun e a' W' hp => hp.ext hext) (h D a W _ hmG hn hd hH2 fun t' X hX => ?_)
 change (bif Nat.beq t t' then some (AV.mp es) else look σ t') = some X at hX
 cases hb : Nat.beq t t' with
 | true => rw [hb] at hX; obtain rfl := Nat.eq_of_beq_eq_true hb; cases hX; exact ⟨u, ku, hpe⟩
 | false =>
   rw [hb] at hX
   obtain ⟨u', k1, k2⟩ := hs0 t' X hX
   exact ⟨u', k1, k2.ext hext⟩
theorem AWP.frzMapIn {P : Program} {n m : Nat} {c : Code} {Q : QA} {σ : Sl} {G L : List AO} {j q p : Nat} {es : List (ByteArray × Value)} {cs : List AV} {L' : List AO} (hm : GOK m G) (hj : L[j]? = some (.map es)) (hq : L[q]? = some (.box cs)) (hp : cs[p]? = some (.mh (m + j))) (hL : (L.set j .dead).set q (.box (cs.set p (.mp es))) = L')
   (h : AWP P n m c Q σ G L') : AWP P n m c Q σ G L := by
 intro D a W β hmG hn hd hHr hs0
 have hjq : j ≠ q := by intro e; subst e; rw [hj] at hq; cases hq
 have hiH : (G ++ L)[m + j]? = some (.map es) := by rw [hm.at]; exact hj
 have hiq : (G ++ L)[m + q]? = some (.box cs) := by rw [hm.at]; exact hq
 obtain ⟨b, hβ⟩ : ∃ b, β[m + j]? = some (.map b) := by
   have hlt : m + j < β.length := by rw [hHr.len]; exact (List.getElem?_eq_some_iff.1 hiH).1
   have ho := hHr.ob _ _ _ hiH (List.getElem?_eq_getElem hlt)
   cases hb : β[m + j] with
   | box b => rw [hb] at ho; exact ho.elim
   | dead => rw [hb] at ho; exact ho.elim
   | guard b => rw [hb] at ho; exact ho.elim
   | bld b v => rw [hb] at ho; exact ho.elim
   | row v g => rw [hb] at ho; exact ho.elim
   | map b => exact ⟨b, by rw [List.getElem?_eq_getElem hlt, hb]⟩
 have hbl : b < W.heap.size := hHr.lt hβ (List.mem_singleton.2 rfl)
 obtain ⟨hext, hH1⟩ := hHr.change hβ (x' := .dead) (o := .dead) (w' := W) trivial (fun _ e => by cases e) rfl rfl rfl (Nat.le_refl _) (fun _ _ _ => rfl) (fun b hb => by cases hb) (fun _ => trivial)
 have hrow : ∀ u, VRep β W u (.mh (m + j)) → VRep (β.set (m + j) .dead) W u (.mp es) := by
   intro u hu
   obtain ⟨b', hβ', hub, hmp⟩ := hu.mh_at hHr hiH
   rw [hβ] at hβ'; cases hβ'
   rw [hub]
   refine .mp b es hbl (fun x hx e5 => ?_) hmp
   obtain ⟨k, hk, rfl⟩ := List.mem_iff_getElem.1 hx
   have hk2 : (β.set (m + j) .dead)[k]? = some ((β.set (m + j) .dead)[k]) := List.getElem?_eq_getElem hk
   by_cases e : m + j = k
   · subst e; rw [List.getElem_set_self] at e5; cases e5
   rw [List.getElem?_set_ne e] at hk2
   exact hHr.ap _ _ _ _ b e hβ hk2 (List.mem_singleton.2 rfl) e5
 have hH2 : HRel (β.set (m + j) .dead) (G ++ L') W := by
   have e1 : G ++ L' = ((G ++ L).set (m + j) .dead).set (m + q) (.box (cs.set p (.mp es))) := by rw [hm.set, hm.set, hL]
   rw [e1]
   refine ⟨hH1.gl, by rw [hH1.len]; simp, fun i o x h1 h2 => ?_, hH1.ap⟩
   by_cases e : m + q = i
   · subst e
     have hltq : m + q < ((G ++ L).set (m + j) .dead).length := by rw [List.length_set]; exact (List.getElem?_eq_some_iff.1 hiq).1
     rw [List.getElem?_set_self hltq] at h1
     cases h1
     have h2' : β[m + q]? = some x := by rw [List.getElem?_set_ne (by omega)] at h2; exact h2
     have hrep : ∀ (arr : Array Value), arr.size = cs.length → (∀ (k : Nat) (u : Value) (y : AV), arr[k]? = some u → cs[k]? = some y → VRep β W u y) → ∀ (k : Nat) (u : Value) (y : AV), arr[k]? = some u → (cs.set p (.mp es))[k]? = some y → VRep (β.set (m + j) .dead) W u y := by
       intro arr hsz hr k u y h3 h4
       by_cases e : p = k
       · subst e
         rw [List.getElem?_set_self (List.getElem?_eq_some_iff.1 hp).1] at h4
         cases h4
         exact hrow u (hr _ u _ h3 hp)
       rw [List.getElem?_set_ne e] at h4
       exact (hr k u y h3 h4).ext hext
     have ho0 := hHr.ob _ _ _ hiq h2'
     cases x with
     | box b =>
       obtain ⟨arr, T, k1, k2, k3, k4⟩ := ho0
       refine ⟨arr, T, k1, by simpa using k2, hrep arr k2 k3, ?_⟩
       rw [List.all_eq_true] at k4 ⊢
       intro y hy
       rcases List.mem_or_eq_of_mem_set hy with hy | rfl
       · exact k4 y hy
       rfl
     | bld b v =>
       obtain ⟨arr, T, k1, k2, k3, e', s', q1, q2, q3⟩ := ho0
       refine ⟨arr, T, k1, by simpa using k2, hrep arr k2 k3, e', s', ?_, ?_, q3⟩
       · rw [List.getElem?_set_ne]; exact q1
         intro e; subst e; rw [hp] at q1; cases q1
       rw [List.getElem?_set_ne]; exact q2
       intro e; subst e; rw [hp] at q2; cases q2
     | row v g => exact ho0.elim
     | dead => exact ho0.elim
     | guard bs => exact ho0.elim
     | map b => exact ho0.elim
   rw [List.getElem?_set_ne e] at h1
   exact hH1.ob i o x h1 h2
 refine Code.wp_mono (fun e a' W' hp => hp.ext hext) (h D a W _ hmG hn hd hH2 fun t X ht => ?_)
 obtain ⟨u, k1, k2⟩ := hs0 t X ht
 exact ⟨u, k1, k2.ext hext⟩
end Go.Proofs.YtcndnllmlhhjiaaGreatDoor
namespace Go.Proofs.YtcndnllmlhhjiaaGreatDoor
open NumP
def firstP : List ByteArray → ByteArray → Int
 | [], _ => -1
 | x :: l, p => if x = p then 0 else if 0 ≤ firstP l p then firstP l p + 1 else -1
theorem first_ge (l : List ByteArray) (p : ByteArray) : -1 ≤ firstP l p ∧ firstP l p < l.length := by
 induction l with
 | nil => exact ⟨by simp [firstP], by simp [firstP]⟩
 | cons x l ih =>
   rw [firstP, List.length_cons]
   split
   · omega
   · split <;> omega
theorem first_at {l : List ByteArray} {p : ByteArray} : ∀ {i : Nat}, i < l.length → l.getD i default = p → (∀ j, j < i → l.getD j default ≠ p) → firstP l p = i := by
 induction l with
 | nil => intro i h; simp at h
 | cons x l ih =>
   intro i h1 h2 h3
   rw [firstP]
   cases i with
   | zero => rw [if_pos (by simpa using h2)]; rfl
   | succ i =>
     rw [if_neg (by simpa using h3 0 (by omega))]
     have := ih (i := i) (by simpa using h1) (by simpa using h2) (fun j hj => by simpa using h3 (j + 1) (by omega))
     rw [this, if_pos (by omega)]; omega
theorem first_no {l : List ByteArray} {p : ByteArray} (h : ∀ j, j < l.length → l.getD j default ≠ p) : firstP l p = -1 := by
 induction l with
 | nil => rfl
 | cons x l ih =>
   rw [firstP, if_neg (by simpa using h 0 (by simp)), ih (fun j hj => by simpa using h (j + 1) (by simpa using hj))]
   simp
theorem first_mem {l : List ByteArray} {p : ByteArray} : 0 ≤ firstP l p ↔ p ∈ l := by
 induction l with
 | nil => simp [firstP]
 | cons x l ih =>
   rw [firstP, List.mem_cons]
   by_cases h : x = p
   · rw [if_pos h]; simp [h]
   · rw [if_neg h, ← ih]
     have h' : ¬ p = x := fun e => h e.symm
     simp only [h', false_or]
     split <;> omega
theorem first_get {l : List ByteArray} {p : ByteArray} (h : 0 ≤ firstP l p) : l.getD (firstP l p).toNat default = p ∧ ∀ j, j < (firstP l p).toNat → l.getD j default ≠ p := by
 induction l with
 | nil => simp [firstP] at h
 | cons x l ih =>
   rw [firstP] at h ⊢
   by_cases hx : x = p
   · rw [if_pos hx]; exact ⟨hx, fun j hj => by simp at hj⟩
   · rw [if_neg hx] at h ⊢
     by_cases h0 : 0 ≤ firstP l p
     · rw [if_pos h0]
       obtain ⟨a, b⟩ := ih h0
       rw [show (firstP l p + 1).toNat = (firstP l p).toNat + 1 by omega]
       refine ⟨by simpa using a, fun j hj => ?_⟩
       cases j with
       | zero => simpa using hx
       | succ j => simpa using b j (by omega)
     · rw [if_neg h0] at h; omega
theorem first_snoc (l : List ByteArray) (x p : ByteArray) : firstP (l ++ [x]) p = if 0 ≤ firstP l p then firstP l p else if x = p then (l.length : Int) else -1 := by
 induction l with
 | nil =>
   show (if x = p then (0 : Int) else if 0 ≤ (-1 : Int) then -1 + 1 else -1) = _
   simp [firstP]
 | cons y l ih =>
   rw [List.cons_append, firstP, firstP, ih]
   by_cases h : y = p
   · simp [h]
   · simp only [h, if_false, List.length_cons]
     by_cases h0 : 0 ≤ firstP l p
     · simp only [h0, if_true]; split <;> omega
     · simp only [h0, if_false]
       by_cases hx : x = p
       · simp only [hx, if_true]; rw [if_pos (by omega)]; simp
       · simp [hx]
theorem look_snoc (m : List (ByteArray × Int)) (k : ByteArray) (v : Int) (p : ByteArray) : (m ++ [(k, v)]).lookup p = if (m.lookup p).isSome = true then m.lookup p else if k = p then some v else none := by
 induction m with
 | nil =>
   rw [List.nil_append, List.lookup_cons, ba_beq]
   by_cases h : p = k
   · subst h; simp
   · have h' : ¬ k = p := fun e => h e.symm
     simp [h, h']
 | cons q m ih =>
   obtain ⟨a, b⟩ := q
   rw [List.cons_append, List.lookup_cons, List.lookup_cons]
   cases p == a
   · exact ih
   · rfl
def placesP (l : List ByteArray) : Nat → List (ByteArray × Int)
 | 0 => []
 | n + 1 => if ((placesP l n).lookup (l.getD n default)).isSome = true then placesP l n else placesP l n ++ [(l.getD n default, (n : Int))]
theorem places_look (l : List ByteArray) : ∀ n, n ≤ l.length → ∀ p, (placesP l n).lookup p = if 0 ≤ firstP (l.take n) p then some (firstP (l.take n) p) else none := by
 intro n
 induction n with
 | zero => intro _ p; rfl
 | succ n ih =>
   intro hn p
   have hg : l.getD n default = l[n] := by rw [List.getD, List.getElem?_eq_getElem (by omega)]; rfl
   have i1 := ih (by omega) l[n]
   have i2 := ih (by omega) p
   have hl : (l.take n).length = n := by rw [List.length_take]; omega
   rw [List.take_succ_eq_append_getElem (by omega), first_snoc, placesP, hg, hl]
   by_cases h1 : 0 ≤ firstP (l.take n) l[n]
   · rw [if_pos h1] at i1
     rw [i1, if_pos (show (some (firstP (l.take n) l[n])).isSome = true from rfl), i2]
     by_cases h2 : 0 ≤ firstP (l.take n) p
     · simp [h2]
     · have : ¬ l[n] = p := fun e => h2 (e ▸ h1)
       simp [h2, this]
   · rw [if_neg h1] at i1
     rw [i1, if_neg (by simp), look_snoc, i2]
     by_cases h2 : 0 ≤ firstP (l.take n) p
     · simp [h2]
     · by_cases h3 : l[n] = p
       · simp [h2, h3]
       · simp [h2, h3]
theorem places_all (l : List ByteArray) (p : ByteArray) : (placesP l l.length).lookup p = if 0 ≤ firstP l p then some (firstP l p) else none := by
 have := places_look l l.length (Nat.le_refl _) p
 rwa [List.take_length] at this
def inP (order : List ByteArray) (p : ByteArray) : Bool := decide (0 ≤ firstP order p)
theorem inP_iff {order : List ByteArray} {p : ByteArray} : inP order p = true ↔ 0 ≤ firstP order p := by unfold inP; exact decide_eq_true_iff
theorem places_in (l : List ByteArray) (p : ByteArray) : ((placesP l l.length).lookup p).isSome = inP l p := by
 rw [places_all, inP]; by_cases h : 0 ≤ firstP l p <;> simp [h]
theorem places_at (l : List ByteArray) (p : ByteArray) (h : inP l p = true) : ((placesP l l.length).lookup p).getD 0 = firstP l p := by
 rw [places_all, if_pos (by simpa [inP] using h)]; rfl
def paysP (l : List Co) : Nat → List ByteArray
 | 0 => []
 | n + 1 => if (paysP l n).contains (l.getD n default).payload = true then paysP l n else paysP l n ++ [(l.getD n default).payload]
theorem pays_mem (l : List Co) : ∀ n, n ≤ l.length → ∀ p, (paysP l n).contains p = (l.take n).any fun o => decide (o.payload = p) := by
 intro n
 induction n with
 | zero => intro _ p; rfl
 | succ n ih =>
   intro hn p
   have hg : l.getD n default = l[n] := by rw [List.getD, List.getElem?_eq_getElem (by omega)]; rfl
   rw [List.take_succ_eq_append_getElem (by omega), List.any_append, ← ih (by omega), paysP, hg]
   have hc : ∀ (m : List ByteArray) (q p : ByteArray), (m ++ [q]).contains p = (m.contains p || decide (q = p)) := by
     intro m q p
     rw [Bool.eq_iff_iff]
     simp only [List.contains_iff_mem, ba_beq, List.contains_eq_any_beq, List.any_eq_true, decide_eq_true_eq, List.mem_append, List.mem_singleton, Bool.or_eq_true]
     constructor
     · rintro ⟨x, h1 | h1, rfl⟩
       · exact .inl ⟨_, h1, rfl⟩
       · exact .inr h1.symm
     · rintro (⟨x, h1, rfl⟩ | rfl)
       · exact ⟨_, .inl h1, rfl⟩
       · exact ⟨_, .inr rfl, rfl⟩
   by_cases h : (paysP l n).contains l[n].payload = true
   · rw [if_pos h]
     by_cases e : l[n].payload = p
     · rw [← e, h]; simp
     · simp [e]
   · rw [if_neg h, hc]; simp
theorem pays_all (l : List Co) (p : ByteArray) : (paysP l l.length).contains p = l.any fun o => decide (o.payload = p) := by
 have := pays_mem l l.length (Nat.le_refl _) p
 rwa [List.take_length] at this
def knownP (l : List Co) (order : List ByteArray) : Bool := l.all (fun o => decide (o.end_ = 0) || inP order o.payload) && order.all fun p => l.any fun o => decide (o.payload = p)
def pairP (order : List ByteArray) (a b : Co) : Bool := !(inP order b.payload && aheadP a b && (!inP order a.payload || decide (firstP order b.payload ≤ firstP order a.payload)))
def timelyP (l : List Co) (order : List ByteArray) : Bool := l.all fun b => l.all fun a => pairP order a b
def toldP (rs : List ByteArray) (order : List ByteArray) (o : Co) : Bool := decide (o.end_ = 0) || decide (rs.getD (firstP order o.payload).toNat default = o.reply)
def explainP (s : St) (l : List Co) (order : List ByteArray) : Int :=
 if checkO l ≠ 0 ∨ chkP s ≠ 0 then 2 else if knownP l order = false then 31 else if timelyP l order = false then 33 else
 if (l.all (toldP (foldP s order).2 order)) = true then 0 else 5
def doneP (pl : List Bool) (i : Nat) : Bool := decide (i < pl.length) && pl.getD i false
def freeAt (l : List Co) (pl : List Bool) (i : Nat) : Bool := !doneP pl i && (List.range l.length).all fun k => doneP pl k || !aheadP (l.getD k default) (l.getD i default)
def freeP (l : List Co) (pl : List Bool) : List Nat := (List.range l.length).filter (freeAt l pl)
def endedN (o : Co) : Int := if o.end_ ≠ 0 then 1 else 0
def tryP (l : List Co) : Nat → St → List ByteArray → Int → List Bool → Option (List ByteArray × List Bool)
 | n, s, so, left, pl =>
   if left = 0 then some (so, pl) else
   match n with
   | 0 => none
   | n + 1 => (freeP l pl).findSome? fun i =>
     if endedN (l.getD i default) = 1 ∧ (applyP s (l.getD i default).payload).2 ≠ (l.getD i default).reply then none else
     tryP l n (applyP s (l.getD i default).payload).1 (so ++ [(l.getD i default).payload]) (left - endedN (l.getD i default)) (pl.set i true)
def searchP (s : St) (l : List Co) : Option (List ByteArray) :=
 if checkO l ≠ 0 ∨ chkP s ≠ 0 ∨ 7 < l.length then none else (tryP l 8 s [] ((l.length : Int) - (openP l).length) (List.replicate l.length false)).map (·.1)
end Go.Proofs.YtcndnllmlhhjiaaGreatDoor
namespace Go.Proofs.YtcndnllmlhhjiaaGreatDoor
open Go.RowKit
theorem made_one (zv : Value) (q : Nat) : (madeCells #[zv] q).toList = List.replicate q zv := by
 refine List.ext_getElem (by simp [madeCells]) fun i h1 h2 => ?_
 simp [madeCells, Nat.mod_one]
theorem VRep.agree {β β' : List Hd} {w : World} {m : Nat} (hm : m ≤ β'.length) (hst : ∀ b, Still β b → Still β' b) (hag : ∀ i, i < m → β'[i]? = β[i]?) {v : Value} {X : AV} (h : VRep β w v X) (hn : NoH m X) : VRep β' w v X := by
 induction h with
 | int k n => exact .int k n
 | bool b => exact .bool b
 | str s => exact .str s
 | raw v => exact .raw v
 | agg vs cs hl _ ih => cases hn with | agg _ h => exact .agg vs cs hl fun j u x a b => ih j u x a b (h x (List.mem_of_getElem? b))
 | tup vs cs hl _ ih => cases hn with | tup _ h => exact .tup vs cs hl fun j u x a b => ih j u x a b (h x (List.mem_of_getElem? b))
 | slnil => exact .slnil
 | slemp a cap hm => exact .slemp a cap hm
 | lit b n e us hb2 hS hh => exact .lit b n e us hb2 (hst b hS) hh
 | sl b off cap z xs hc hm2 hb hS hz hd _ ih => cases hn with | sl _ h => exact .sl b off cap z xs hc hm2 hb (hst b hS) hz hd fun i j x y u a c d => ih i j x y u a c d (h x (List.mem_of_getElem? a) y (List.mem_of_getElem? c))
 | pe b off cs hb hS hd _ ih => cases hn with | pe _ h => exact .pe b off cs hb (hst b hS) hd fun j y u c d => ih j y u c d (h y (List.mem_of_getElem? c))
 | box b0 i off hi h => cases hn with | box _ _ h2 => exact .box b0 i off (by omega) (fun x b hb => h x b (by rw [hag i h2] at hb; exact hb))
 | own v i g hi h ho => cases hn with | own _ _ h2 => exact .own v i g (by omega) (fun b g' hb => h b g' (by rw [hag i h2] at hb; exact hb)) ho
 | elt v i g off hi h => cases hn with | elt _ _ _ h2 => exact .elt v i g off (by omega) fun b g' hb => h b g' (by rw [hag i h2] at hb; exact hb)
 | fn f us vs fs cs hl1 hl _ _ ih1 ih => cases hn with | fn _ _ _ h1 h => exact .fn f us vs fs cs hl1 hl (fun j u x a b => ih1 j u x a b (h1 x (List.mem_of_getElem? b))) (fun j u x a b => ih j u x a b (h x (List.mem_of_getElem? b)))
 | ifc t v x _ ih => cases hn with | ifc _ _ h => exact .ifc t v x (ih h)
 | opt c v x _ h0 ih => cases hn with | opt _ _ h => exact .opt c v x (fun e => ih e (h e)) h0
 | adr T v => exact .adr T v
 | buf e s v => exact .buf e s v
 | mh b0 i hi h => cases hn with | mh _ h2 => exact .mh b0 i (by omega) (fun x b hb => h x b (by rw [hag i h2] at hb; exact hb))
 | mp b es hb hS hm => exact .mp b es hb (hst b hS) hm
 | rc b F vs cs hb hS hc hl _ ih => cases hn with | rc _ _ h => exact .rc b F vs cs hb (hst b hS) hc hl fun j u x a b => ih j u x a b (h x (List.mem_of_getElem? b))
theorem HRel.renum {β : List Hd} {G J : List AO} {w : World} {g : Nat} {e : TypeId} {z : Nat} {zs : List AV} (h : HRel β (G ++ (.row g e z zs :: J)) w) (hg : ∀ o, o ∈ G → ∀ x, x ∈ o.conts → NoH G.length x) (hz : ∀ y, y ∈ zs.flatMap AV.cells → NoH G.length y) :
   ∃ v, β[G.length]? = some (.row v g) ∧ v.oneCell' = true ∧ HRel (β.take G.length ++ [.row v 0]) (G ++ [.row 0 e z zs]) w ∧ ∀ b, Still β b → Still (β.take G.length ++ [.row v 0]) b := by
 have hlen := h.len
 rw [List.length_append, List.length_cons] at hlen
 have hat : (G ++ (AO.row g e z zs :: J))[G.length]? = some (.row g e z zs) := by rw [List.getElem?_append_right (Nat.le_refl _), Nat.sub_self]; rfl
 have hlt : G.length < β.length := by omega
 have ho := h.ob _ _ _ hat (List.getElem?_eq_getElem hlt)
 obtain ⟨v, hv⟩ : ∃ v, β[G.length] = .row v g := by
   cases hb : β[G.length] with
   | box b => rw [hb] at ho; exact ho.elim
   | dead => rw [hb] at ho; exact ho.elim
   | guard b => rw [hb] at ho; exact ho.elim
   | map b => rw [hb] at ho; exact ho.elim
   | bld b v => rw [hb] at ho; exact ho.elim
   | row v' g' => rw [hb] at ho; obtain ⟨rfl, _⟩ := ho; exact ⟨v', rfl⟩
 have hβ : β[G.length]? = some (.row v g) := by rw [List.getElem?_eq_getElem hlt, hv]
 have hst : ∀ b, Still β b → Still (β.take G.length ++ [.row v 0]) b := by
   intro b hb x hx
   rcases List.mem_append.1 hx with hx | hx
   · exact hb x (List.mem_of_mem_take hx)
   simp at hx; subst hx
   exact hb (.row v g) (List.mem_of_getElem? hβ)
 have htl : (β.take G.length).length = G.length := by rw [List.length_take]; omega
 have hag : ∀ i, i < G.length → (β.take G.length ++ [Hd.row v 0])[i]? = β[i]? := fun i hi => by
   rw [List.getElem?_append_left (by omega), List.getElem?_take_of_lt hi]
 have hvr : ∀ {u : Value} {X : AV}, VRep β w u X → NoH G.length X → VRep (β.take G.length ++ [.row v 0]) w u X := fun hu hn => hu.agree (by simp; omega) hst hag hn
 rw [hv] at ho
 obtain ⟨_, us, k1, k2, k3⟩ := ho
 have hblk : ∀ (i : Nat) (x : Hd), (β.take G.length ++ [Hd.row v 0])[i]? = some x → ∃ y, β[i]? = some y ∧ ∀ b, b ∈ x.blks → b ∈ y.blks := by
   intro i x hx
   by_cases hi : i < G.length
   · rw [hag i hi] at hx; exact ⟨x, hx, fun b hb => hb⟩
   rw [List.getElem?_append_right (by omega), htl] at hx
   have hi2 : i - G.length = 0 := by
     have := (List.getElem?_eq_some_iff.1 hx).1
     simp at this; omega
   rw [hi2] at hx
   cases hx
   exact ⟨.row v g, by rw [show i = G.length by omega]; exact hβ, fun b hb => hb⟩
 refine ⟨v, hβ, ownsRow_one k1, ⟨h.gl.weak hst, by simp; omega, fun i o x h1 h2 => ?_, fun i j hi hj b hne h1 h2 h3 h4 => ?_⟩, hst⟩
 · by_cases hi : i < G.length
   · rw [List.getElem?_append_left hi] at h1
     rw [hag i hi] at h2
     have h3 := h.ob i o x (by rw [List.getElem?_append_left hi]; exact h1) h2
     have hmem := List.mem_of_getElem? h1
     cases x <;> cases o <;> first | exact h3.elim | skip
     · obtain ⟨arr, T, k1, k2, k3, k4⟩ := h3
       exact ⟨arr, T, k1, k2, fun j u y a c => hvr (k3 j u y a c) (hg _ hmem y (List.mem_of_getElem? c)), k4⟩
     · obtain ⟨hgg, us, k1, k2, k3⟩ := h3
       exact ⟨hgg, us, k1, k2, fun j u y a c => hvr (k3 j u y a c) (hg _ hmem y (List.mem_of_getElem? c))⟩
     · trivial
     · exact h3
     · obtain ⟨arr, T, k1, k2, k3, k4⟩ := h3
       exact ⟨arr, T, k1, k2, fun j u y a c => hvr (k3 j u y a c) (hg _ hmem y (List.mem_of_getElem? c)), k4⟩
     exact h3
   have e1 : i = G.length := by
     have := (List.getElem?_eq_some_iff.1 h1).1
     simp at this; omega
   subst e1
   rw [List.getElem?_append_right (Nat.le_refl _), Nat.sub_self] at h1
   rw [List.getElem?_append_right (by omega), htl, Nat.sub_self] at h2
   cases h1; cases h2
   exact ⟨rfl, us, k1, k2, fun j u y a c => hvr (k3 j u y a c) (hz y (List.mem_of_getElem? c))⟩
 obtain ⟨y1, q1, q2⟩ := hblk i hi h1
 obtain ⟨y2, q3, q4⟩ := hblk j hj h2
 exact h.ap i j y1 y2 b hne q1 q3 (q2 b h3) (q4 b h4)
def endR (P : Program) (fn : Func) (e : TypeId) (z : Nat) (zs : List AV) (G' : List AO) : QA := fun ex σ G L => (ex = .normal ∨ ex = .ret) ∧ G = G' ∧ ∃ g J, L = .row g e z zs :: J ∧
 ∀ (β : List Hd) (a : Act) (W : World), HRel β (G ++ L) W → SRep β W a σ → Tells P fn β a W (.own G.length g)
theorem FnNew.of {P : Program} {f : FuncId} {fn : Func} {c : Code} {args : List AV} {e : TypeId} {z : Nat} {zs : List AV} {n : Nat} (hf : P.funcs[f]? = some fn) (hb : fn.body = some c) (hn : fn.ntmps = n) (hna : args.length ≤ n) (hz : ∀ y, y ∈ zs.flatMap AV.cells → NoH 0 y)
   (h : ∀ G, GOK G.length G → AWP P n G.length c (endR P fn e z zs G) (zipS args 0) G []) : FnNew P f args e z zs := by
 intro G w β vs hH hv
 refine calls_of_wp hf hb (Code.wp_mono ?_ (h G hH.gok [] { tmps := vs ++ Array.replicate (fn.ntmps - vs.size) undef, defers := [] } w β hH.gok ?_ rfl (by rw [List.append_nil]; exact hH) ?_))
 · intro ex a' W' ⟨β', σ', G2, L', k1, k2, k3, k4, k5, k6, k7⟩
   obtain ⟨he, rfl, g, J, rfl, ht⟩ := k1
   obtain ⟨v, hr, hvr⟩ := ht β' a' W' k6 k7
   have hfin : ∃ v' β'', Ending.returned v = Ending.returned v' ∧ Ext β w β'' W' ∧ HRel β'' (G2 ++ [.row 0 e z zs]) W' ∧ VRep β'' W' v' (.own G2.length 0) := by
     obtain ⟨v2, q1, q2, q3, q4⟩ := k6.renum (fun o ho x hx => k2.2 o ho x hx) (fun y hy => (hz y hy).mono (Nat.zero_le _))
     have hev : v = v2 := by
       cases hvr with
       | own _ _ _ _ h9 => obtain ⟨_, h10⟩ := h9 v2 g q1; exact h10 rfl
     subst hev
     refine ⟨v, _, rfl, ?_, q3, ?_⟩
     · have e1 := k5
       have hgl : G2.length = β.length := hH.len.symm
       refine ⟨e1.os, e1.tape, e1.output, e1.size, e1.block, fun k hk hs => q4 k (e1.apart k hk hs), fun i x hx => ?_, e1.guard⟩
       have hi := (List.getElem?_eq_some_iff.1 hx).1
       have hl2 := k6.len
       rw [List.length_append, List.length_cons] at hl2
       rw [List.getElem?_append_left (by rw [List.length_take]; omega), List.getElem?_take_of_lt (by omega)]; exact e1.hd i x hx
     have hl2 := k6.len
     rw [List.length_append, List.length_cons] at hl2
     refine .own _ _ _ (by simp; omega) (fun u g' hb => ?_) q2
     rw [List.getElem?_append_right (by rw [List.length_take]; omega), List.length_take, Nat.min_eq_left (by omega), Nat.sub_self] at hb
     cases hb; exact ⟨Nat.le_refl _, fun _ => rfl⟩
   rcases he with rfl | rfl
   · exact ⟨k4, v, hr, hfin⟩
   exact ⟨k4, v, hr, hfin⟩
 · rw [Array.size_append, Array.size_replicate, hv.1, hn]; omega
 intro t X ht
 obtain ⟨_, h2⟩ := look_zip _ _ _ _ ht
 rw [Nat.sub_zero] at h2
 have hlt : t < vs.size := by rw [hv.1]; exact (List.getElem?_eq_some_iff.1 h2).1
 refine ⟨vs[t], ?_, hv.2 t _ _ (Array.getElem?_eq_getElem hlt) h2⟩
 show (vs ++ _)[t]? = _
 rw [Array.getElem?_append_left hlt, Array.getElem?_eq_getElem hlt]
theorem endR.one {P : Program} {fn : Func} {e : TypeId} {z g : Nat} {zs zs' : List AV} {σ : Sl} {G J : List AO} {rv : ResultVar} {ex : Exit} (he : ex = .normal ∨ ex = .ret) (hr : fn.results = #[rv]) (h : RV1 P σ (G ++ (.row g e z zs :: J)) rv (.own (G.length + 0) g)) (hX : zs = zs') : endR P fn e z zs' G ex σ G (.row g e z zs :: J) := by
 subst hX
 exact ⟨he, rfl, g, J, rfl, fun β a W hH hs => Tells.single hH hs hr h⟩
theorem FnP.of_new {P : Program} {F : FuncId} {args zs : List AV} {e : TypeId} {z : Nat} (h : FnNew P F args e z zs) (hf : ∀ y, y ∈ zs.flatMap AV.cells → NoH 0 y) : FnP P F args (.sl zs) := by
 refine ⟨.sl zs fun x hx y hy => hf y (List.mem_flatMap.2 ⟨x, hx, hy⟩), fun k w β vs hH hv => ?_⟩
 refine (h _ w β vs hH hv).mono ?_
 rintro ex w' ⟨v, β', rfl, k1, k2, k3⟩
 have hl := k2.len
 rw [List.length_append, List.length_replicate, List.length_singleton] at hl
 have hbl : β.length = k := by rw [hH.len, List.length_replicate]
 have hat : (List.replicate k AO.guard ++ [AO.row 0 e z zs])[(List.replicate k AO.guard).length]? = some (.row 0 e z zs) := by rw [List.getElem?_append_right (Nat.le_refl _), Nat.sub_self]; rfl
 refine ⟨v, β'.take β.length, rfl, k1.take, ?_, ?_⟩
 · have hb2 : β.length = (List.replicate k AO.guard).length := by rw [hbl, List.length_replicate]
   rw [hb2]
   exact k2.take fun o ho x hx => by rw [List.eq_of_mem_replicate ho] at hx; cases hx
 obtain ⟨us, q1, q2, q3, q4⟩ := k3.own_at k2 hat
 rw [List.length_replicate] at q1
 have hsl : VRep β' w' v (.sl zs) → VRep (β'.take β.length) w' v (.sl zs) := fun hh => hh.take (by omega) (.sl zs fun x hx y hy => (hf y (List.mem_flatMap.2 ⟨x, hx, hy⟩)).mono (Nat.zero_le _))
 rcases q2.2 with ⟨rfl, h0⟩ | ⟨gb, cap, cur, rfl, _, hgg, hnc, hcm, hcs, htake⟩
 · have : zs = [] := List.eq_nil_of_length_eq_zero h0
   subst this; exact .slnil
 have hgl := (Array.getElem?_eq_some_iff.1 hgg).1
 have hcell : ∀ q u, us[q]? = some u → w'.cell? ⟨gb, q, none⟩ = some u := by
   intro q u hq
   have hc := cell_of_row w' gb q cur e (0, 0) hgg
   rw [hc]
   rw [← htake, List.getElem?_take] at hq
   split at hq
   · simpa using hq
   cases hq
 have hus : us.length = zs.length * z := q2.1
 have hfl := flat_len' zs q3
 refine .sl gb 0 cap z zs hnc hcm hgl (fun x hx e5 => ?_) q3 (fun i q x y hi hq => ?_) (fun i q x y u hi hq hu => ?_)
 · obtain ⟨i, hi, rfl⟩ := List.mem_iff_getElem.1 hx
   rw [List.length_take] at hi
   have hi2 : β'[i]? = some ((β'.take β.length)[i]'(by rw [List.length_take]; omega)) := by rw [List.getElem?_eq_getElem (by omega), List.getElem_take]
   exact k2.ap k i _ _ gb (by omega) q1 hi2 (opt_mem.2 rfl) e5
 · have h7 := flat_at zs q3 i q x y hi hq
   have hlt7 : i * z + q < us.length := by rw [hus, ← hfl]; exact (List.getElem?_eq_some_iff.1 h7).1
   exact ⟨_, by rw [Nat.zero_add]; exact hcell _ _ (List.getElem?_eq_getElem hlt7)⟩
 have h7 := flat_at zs q3 i q x y hi hq
 have hlt7 : i * z + q < us.length := by rw [hus, ← hfl]; exact (List.getElem?_eq_some_iff.1 h7).1
 rw [Nat.zero_add, hcell _ _ (List.getElem?_eq_getElem hlt7)] at hu
 cases hu
 exact (q4 _ _ y (List.getElem?_eq_getElem hlt7) h7).take (by omega) ((hf y (List.mem_of_getElem? h7)).mono (Nat.zero_le _))
section
variable {P : Program} {ops : Array Oper} {n m : Nat} {QQ : List Kd → Sl → List AO → Prop} {l : List Oper} {ks : List Kd} {σ : Sl} {G L H : List AO} {o : Oper} {gd : Bool}
theorem ARun.makeSl {x y : Operand} {t e : TypeId} {j q by_ : Nat} {i : Int} {zv : Value} {Y : AV} {d : Option Tmp} (hm : GOK m G) (hj : L.length = j) (ho : o.op = .makeSlice t x y) (hd : o.dst = d) (hn : dstLt n d = true) (hg : gdS ops σ o.guard = some true)
   (hu : P.underlying t = some (.slice e)) (hi : Ti P e zv 1 by_) (hz : zv.cells = #[zv]) (h8 : by_ ≤ 8) (hx : Ev true σ x (.int .i64 i)) (hy : Ev true σ y (.int .i64 i)) (hq : i = (q : Int)) (hb : q ≤ 1000000)
   (hY : optA o.guard true (.own (m + j) 0) = Y)
   (hr : ARun P ops n QQ l (ks ++ [.new]) (putS σ d Y) (G ++ (L ++ [.row 0 e 1 (List.replicate q (cAV zv))]))) : ARun P ops n QQ (o :: l) ks σ (G ++ L) := by
 refine ARun.new (E := [.row 0 e 1 (List.replicate q (cAV zv))]) hd hn hg hY (fun H0 hl0 a W β hHr hl => ?_) (by rw [List.append_assoc]; exact hr)
 have h1 := (hx.rep rfl hl (by simp [ho, Op.operands])).int_inv
 have h2 := (hy.rep rfl hl (by simp [ho, Op.operands])).int_inv
 have hrun := run_make_row' (P := P) t e zv by_ hu hi hz .i64 .i64 q (by have := Nat.mul_le_mul h8 hb; omega) (by omega) W
 have hb : Below W.heap.size W (W.alloc (.cells (madeCells #[zv] q) e)) := (Below.refl _ _).alloc (Nat.le_refl _) _
 have hmc : (madeCells #[zv] q).toList = List.replicate q zv := made_one zv q
 have hco : ∀ (k : Nat) (X : AV), X.cells = [X] → (List.replicate k X).flatMap AV.cells = List.replicate k X := by
   intro k X hX; induction k with
   | zero => rfl
   | succ k ih => rw [List.replicate_succ, List.flatMap_cons, ih, hX]; rfl
 have hc1 : (cAV zv).cells = [cAV zv] := by unfold cAV; split <;> rfl
 have hown : (W.alloc (.cells (madeCells #[zv] q) e)).ownsRow 0 e 1 (.slice (some ⟨W.heap.size, 0, none⟩) q q) (List.replicate q (cAV zv)).length (List.replicate q zv) := by
   refine ⟨by simp, .inr ⟨W.heap.size, q, madeCells #[zv] q, by simp, Nat.zero_le _, heap_alloc_new W _, by simp, ?_, ?_, ?_⟩⟩
   · unfold maxLen; omega
   · rw [← Array.length_toList, hmc]; simp
   rw [hmc]; simp
 have hsn := hHr.snoc (w' := W.alloc (.cells (madeCells #[zv] q) e)) hb (x := .row (.slice (some ⟨W.heap.size, 0, none⟩) q q) 0) (o := .row 0 e 1 (List.replicate q (cAV zv))) ⟨rfl, _, hown, fun x hx => by rw [List.eq_of_mem_replicate hx, hc1]; rfl, fun k u y a c => by
   rw [hco _ _ hc1] at c
   have e1 := List.eq_of_mem_replicate (List.mem_of_getElem? a)
   have e2 := List.eq_of_mem_replicate (List.mem_of_getElem? c)
   rw [e1, e2]; exact cAV_rep _ _ _⟩ (fun b hb => by
     have hb2 : b ∈ (Value.slice (some ⟨W.heap.size, 0, none⟩) q q).ownBlock.toList := hb
     have := opt_mem.1 hb2
     simp [Value.ownBlock] at this; omega)
 have hlen : β.length = m + j := by rw [hHr.len, hl0, List.length_append, hm.1, hj]
 refine ⟨.slice (some ⟨W.heap.size, 0, none⟩) q q, _, β ++ [.row (.slice (some ⟨W.heap.size, 0, none⟩) q q) 0], ?_, hsn.1, hsn.2, .own _ _ _ (by rw [List.length_append, hlen]; simp) fun u g' hb => ?_⟩
 · simp [execOp, ho, h1, h2, hq, hrun]
 rw [List.getElem?_append_right (by omega), hlen, Nat.sub_self] at hb
 cases hb; exact ⟨Nat.le_refl _, fun _ => rfl⟩
end
end Go.Proofs.YtcndnllmlhhjiaaGreatDoor
