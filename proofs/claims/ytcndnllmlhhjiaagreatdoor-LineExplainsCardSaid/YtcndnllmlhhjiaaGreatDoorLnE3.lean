/- The texts that the law LineExplains rests on, part 3: ClientPlain, AmCo, AmErrF, AmNum, AmText, Flat, AmLaw, CloneLib, CloneI, AmCl, AmCi, AmT39, StockPlain, StockRefP, AmStockA, RecIt, CloneIt, InsertIt, AmStockB, StockLaw, StockSums0. -/
import Derived.Test.YtcndnllmlhhjiaaGreatDoorLnE2
import Derived.WideShapes
import Derived.Lib.Overlaps
import Derived.Lib.AppendZerosOnto
import Derived.Lib.SliceRun
import Derived.Deep.RegionLaw
import Derived.Outline
open Go.Proofs.Tryz renaming underlying3 → U3, underlying4 → U4, underlying9 → U9, underlying20 → U20, underlying22 → U22, underlying26 → U26, underlying36 → U36, underlying40 → U40, underlying50 → U50, underlying82 → U82, underlying84 → U84, underlying93 → U93, underlying96 → U96, underlying108 → U108, underlying127 → U127, underlying132 → U132, underlying177 → U177, underlying182 → U182, underlying188 → U188, underlying190 → U190, underlying195 → U195, underlying198 → U198, underlying213 → U213
set_option linter.unusedVariables false
set_option linter.unusedSimpArgs false
set_option maxRecDepth 100000
set_option maxHeartbeats 1000000
namespace Go.Proofs.YtcndnllmlhhjiaaGreatDoor
open NumP
structure Co where
 client : Int
 seq : Int
 payload : ByteArray
 start : Int
 end_ : Int
 reply : ByteArray
deriving DecidableEq
instance : Inhabited Co := ⟨⟨0, 0, ⟨#[]⟩, 0, 0, ⟨#[]⟩⟩⟩
def momentP (n : Int) : Bool := decide (1 ≤ n) && decide (n ≤ 1000000)
def mayO (o : Co) : Bool :=
 decide (takeE o.payload = 0) && decide ((takeC o.payload).client = o.client) && decide ((takeC o.payload).seq = o.seq) && momentP o.start && (if o.end_ = 0 then decide (o.reply = ⟨#[]⟩) else decide (o.start < o.end_) && decide (o.end_ ≤ 1000000))
def aheadP (a b : Co) : Bool := decide (a.end_ ≠ 0) && decide (a.end_ < b.start)
def apartP (a o : Co) : Bool := decide (a.client ≠ o.client) || (aheadP a o && decide (a.seq < o.seq))
def okO (l : List Co) (i : Nat) : Bool :=
 mayO (l.getD i default) && (decide (i = 0) || decide ((l.getD (i - 1) default).start < (l.getD i default).start)) && (List.range i).all fun k => apartP (l.getD k default) (l.getD i default)
def checkO (l : List Co) : Int := if l.length ≤ 100 ∧ (List.range l.length).all (okO l) = true then 0 else 2
def ofP (l : List Co) (c : Int) : List Co := l.filter fun o => decide (o.client = c)
def openP (l : List Co) : List Co := l.filter fun o => decide (o.end_ = 0)
def hadOk (l : List Co) (i : Nat) : Bool :=
 if 0 < (ofP (l.take i) (l.getD i default).client).length then
   aheadP ((ofP (l.take i) (l.getD i default).client).getD ((ofP (l.take i) (l.getD i default).client).length - 1) default) (l.getD i default) && decide (((ofP (l.take i) (l.getD i default).client).getD ((ofP (l.take i) (l.getD i default).client).length - 1) default).seq < (l.getD i default).seq)
 else true
theorem last_at (p : Co → Bool) (l : List Co) : ∀ n, n ≤ l.length → ((l.take n).filter p = [] ∧ ∀ k, k < n → p (l.getD k default) = false) ∨
   ∃ m, m < n ∧ p (l.getD m default) = true ∧ 0 < ((l.take n).filter p).length ∧ ((l.take n).filter p).getD (((l.take n).filter p).length - 1) default = l.getD m default ∧ ∀ k, m < k → k < n → p (l.getD k default) = false := by
 intro n
 induction n with
 | zero => intro _; exact .inl ⟨rfl, fun k hk => by omega⟩
 | succ n ih =>
   intro hn
   have hg : l.getD n default = l[n] := by rw [List.getD, List.getElem?_eq_getElem (by omega)]; rfl
   rw [List.take_succ_eq_append_getElem (by omega), List.filter_append]
   by_cases hp : p l[n] = true
   · right
     refine ⟨n, by omega, by rw [hg]; exact hp, ?_, ?_, fun k h1 h2 => by omega⟩
     · simp [hp]
     · rw [hg]; simp [hp]
   · have hp0 : p l[n] = false := by simpa using hp
     have e : [l[n]].filter p = [] := by simp [hp0]
     rw [e, List.append_nil]
     rcases ih (by omega) with ⟨h1, h2⟩ | ⟨m, h1, h2, h3, h4, h5⟩
     · left
       refine ⟨h1, fun k hk => ?_⟩
       by_cases ek : k = n
       · subst ek; rw [hg]; exact hp0
       · exact h2 k (by omega)
     · right
       refine ⟨m, by omega, h2, h3, h4, fun k k1 k2 => ?_⟩
       by_cases ek : k = n
       · subst ek; rw [hg]; exact hp0
       · exact h5 k k1 (by omega)
theorem okO_parts {l : List Co} {i : Nat} (h : okO l i = true) : mayO (l.getD i default) = true ∧ (0 < i → (l.getD (i - 1) default).start < (l.getD i default).start) ∧ ∀ k, k < i → apartP (l.getD k default) (l.getD i default) = true := by
 unfold okO at h
 simp only [Bool.and_eq_true, Bool.or_eq_true, decide_eq_true_eq, List.all_eq_true, List.mem_range] at h
 exact ⟨h.1.1, fun h0 => by rcases h.1.2 with h1 | h1; omega; exact h1, h.2⟩
theorem mayO_end {o : Co} (h : mayO o = true) (h0 : o.end_ ≠ 0) : o.start < o.end_ := by
 unfold mayO at h
 rw [if_neg h0] at h
 simp only [Bool.and_eq_true, decide_eq_true_eq] at h
 exact h.2.1
theorem apart_same {a o : Co} (h : apartP a o = true) (hc : a.client = o.client) : (a.end_ ≠ 0 ∧ a.end_ < o.start) ∧ a.seq < o.seq := by
 unfold apartP aheadP at h
 simp only [Bool.or_eq_true, Bool.and_eq_true, decide_eq_true_eq] at h
 rcases h with h | h
 · exact absurd hc h
 · exact h
theorem apart_mk {a o : Co} (h : a.client = o.client → (a.end_ ≠ 0 ∧ a.end_ < o.start) ∧ a.seq < o.seq) : apartP a o = true := by
 unfold apartP aheadP
 simp only [Bool.or_eq_true, Bool.and_eq_true, decide_eq_true_eq]
 by_cases e : a.client = o.client
 · exact .inr (h e)
 · exact .inl e
theorem had_all {l : List Co} {i : Nat} (hi : i < l.length) (hok : ∀ j, j < i → okO l j = true) : hadOk l i = (List.range i).all fun k => apartP (l.getD k default) (l.getD i default) := by
 unfold hadOk
 rcases last_at (fun o => decide (o.client = (l.getD i default).client)) l i (by omega) with ⟨h1, h2⟩ | ⟨m, h1, h2, h3, h4, h5⟩
 · rw [if_neg (by unfold ofP; rw [h1]; simp)]
   symm
   rw [List.all_eq_true]
   intro k hk
   have := h2 k (List.mem_range.1 hk)
   exact apart_mk fun e => absurd e (by simpa using this)
 · have h3' : 0 < (ofP (l.take i) (l.getD i default).client).length := h3
   rw [if_pos h3']
   have h4' : (ofP (l.take i) (l.getD i default).client).getD ((ofP (l.take i) (l.getD i default).client).length - 1) default = l.getD m default := h4
   rw [h4']
   have hm : (l.getD m default).client = (l.getD i default).client := by simpa using h2
   rw [Bool.eq_iff_iff, List.all_eq_true]
   constructor
   · intro h k hk
     have hk := List.mem_range.1 hk
     simp only [aheadP, Bool.and_eq_true, decide_eq_true_eq] at h
     refine apart_mk fun e => ?_
     by_cases e1 : k = m
     · subst e1; exact h
     · by_cases e2 : m < k
       · have := h5 k e2 hk; exact absurd e (by simpa using this)
       · obtain ⟨o1, o2, o3⟩ := okO_parts (hok m h1)
         have a1 := apart_same (o3 k (by omega)) (e.trans hm.symm)
         have a2 := mayO_end o1 h.1.1
         omega
   · intro h
     have := apart_same (h m (List.mem_range.2 h1)) hm
     simp only [aheadP, Bool.and_eq_true, decide_eq_true_eq]
     exact this
theorem check_at {l : List Co} (h : checkO l = 0) : ∀ i, i < l.length → okO l i = true := by
 unfold checkO at h; split at h
 · rename_i h1; exact fun i hi => List.all_eq_true.1 h1.2 i (List.mem_range.2 hi)
 · cases h
theorem check_bad {l : List Co} {i : Nat} (hi : i < l.length) (h : okO l i = false) : checkO l = 2 := by
 unfold checkO; rw [if_neg]; rintro ⟨_, h2⟩
 have := List.all_eq_true.1 h2 i (List.mem_range.2 hi)
 rw [h] at this; cases this
theorem check_many {l : List Co} (h : 100 < l.length) : checkO l = 2 := by unfold checkO; rw [if_neg (by omega)]
theorem check_good {l : List Co} (h : l.length ≤ 100) (h2 : ∀ i, i < l.length → okO l i = true) : checkO l = 0 := by
 unfold checkO; rw [if_pos ⟨h, List.all_eq_true.2 fun i hi => h2 i (List.mem_range.1 hi)⟩]
end Go.Proofs.YtcndnllmlhhjiaaGreatDoor
namespace Go.Proofs.YtcndnllmlhhjiaaGreatDoor
open Go.RowKit
open NumP
def aCo (s : Co) : AV := .agg [.int .i64 s.client, .int .i64 s.seq, .str s.payload, .int .i64 s.start, .int .i64 s.end_, .str s.reply]
theorem Co_idx {l : List Co} {k : Nat} (h : k < l.length) : l.getD k default = l[k] := by simp [List.getD, h]
theorem pay_at {l : List Co} (hp : ∀ x, x ∈ l → x.payload.size ≤ 1000000) {k : Nat} (hk : k < l.length) : (l.getD k default).payload.size ≤ 1000000 := by
 rw [Co_idx hk]; exact hp _ (List.getElem_mem hk)
theorem co_map (l : List Co) (x : Co) : l.map aCo ++ [aCo x] = (l ++ [x]).map aCo := by simp
theorem co_filter (p : Co → Bool) (l : List Co) (k : Nat) (hk : k < l.length) : (l.take (k + 1)).filter p = if p (l.getD k default) = true then (l.take k).filter p ++ [l.getD k default] else (l.take k).filter p := by
 rw [List.take_succ_eq_append_getElem hk, List.filter_append, Co_idx hk]
 by_cases h : p l[k] = true <;> simp [h]
theorem co_app (p : Co → Bool) (l : List Co) (k : Nat) (hk : k < l.length) (h : p (l.getD k default) = true) : ((l.take k).filter p).map aCo ++ [aCo (l.getD k default)] = ((l.take (k + 1)).filter p).map aCo := by
 rw [co_filter p l k hk, if_pos h, co_map]
theorem noH_cos (m : Nat) (l : List Co) : NoH m (.sl (l.map aCo)) := by simp [AV.cells, aCo]
theorem ofP_len (l : List Co) (k : Nat) (c : Int) (hl : l.length ≤ 1000) : (ofP (l.take k) c).length ≤ 1000 ∧ ((ofP (l.take k) c).map aCo).length = (ofP (l.take k) c).length := by
 have h : (ofP (l.take k) c).length ≤ (l.take k).length := List.length_filter_le _ _
 rw [List.length_take] at h
 exact ⟨by omega, List.length_map ..⟩
theorem filter_len (p : Co → Bool) (l : List Co) : (l.filter p).length ≤ l.length := List.length_filter_le _ _
end Go.Proofs.YtcndnllmlhhjiaaGreatDoor
namespace Go.Proofs.YtcndnllmlhhjiaaGreatDoor
open Go.RowKit
def idxOf {α : Type} (p : α → Bool) (l : List α) : Int := match l.findIdx? p with
 | some i => (i : Int)
 | none => -1
theorem idx_hit {α : Type} [Inhabited α] {p : α → Bool} {l : List α} {k : Nat} (hk : k < l.length) (h : ∀ j, j < k → p (l.getD j default) = false) (hp : p (l.getD k default) = true) : idxOf p l = (k : Int) := by
 have : l.findIdx? p = some k := by
   rw [List.findIdx?_eq_some_iff_getElem]
   refine ⟨hk, ?_, fun j hj => ?_⟩
   · simpa [List.getD, hk] using hp
   have := h j hj
   simp [List.getD, show j < l.length by omega] at this
   simp [this]
 unfold idxOf; rw [this]
theorem idx_none {α : Type} [Inhabited α] {p : α → Bool} {l : List α} (h : ∀ j, j < l.length → p (l.getD j default) = false) : idxOf p l = -1 := by
 have : l.findIdx? p = none := by
   rw [List.findIdx?_eq_none_iff]
   intro x hx
   obtain ⟨j, hj, rfl⟩ := List.mem_iff_getElem.1 hx
   have := h j hj
   simpa [List.getD, hj] using this
 unfold idxOf; rw [this]
theorem any_idx {α : Type} (p : α → Bool) (l : List α) : decide (0 ≤ idxOf p l) = l.any p := by
 unfold idxOf
 cases h : l.findIdx? p with
 | none =>
   have := List.findIdx?_eq_none_iff.1 h
   symm; simp; exact this
 | some i =>
   obtain ⟨hi, h2, _⟩ := List.findIdx?_eq_some_iff_getElem.1 h
   have : l.any p = true := List.any_eq_true.2 ⟨_, List.getElem_mem hi, h2⟩
   rw [this]; simp
theorem take_eq_go {α : Type} [Inhabited α] {a b : List α} {k : Nat} (h : a.take k = b.take k) (ha : k < a.length) (hb : k < b.length) (he : a.getD k default = b.getD k default) : a.take (k + 1) = b.take (k + 1) := by
 rw [List.take_succ_eq_append_getElem ha, List.take_succ_eq_append_getElem hb, h]
 simp [List.getD, ha, hb] at he
 rw [he]
theorem ne_of_get {α : Type} [Inhabited α] {a b : List α} {k : Nat} (he : a.getD k default ≠ b.getD k default) : a ≠ b := fun e => he (by rw [e])
theorem found_congr {x e : Er} (h : x.inner = e.inner) : x.found = e.found := by unfold Er.found; rw [h]
theorem ty_no {x : Er} (hx : x.isNone = false) (h : x.ty = 36) : ∃ c, x = .no c := by
 cases x with
 | none => cases hx
 | no c => exact ⟨c, rfl⟩
 | wr op e => exact absurd h (show ¬ (188 : Nat) = 36 by decide)
theorem ty_wr {x : Er} (h : x.ty ≠ 36) : ∃ op e, x = .wr op e := by
 cases x with
 | none => exact absurd rfl h
 | no c => exact absurd rfl h
 | wr op e => exact ⟨op, e, rfl⟩
theorem is_none {x : Er} (h : x.isNone = true) : x = .none := by cases x <;> first | rfl | cases h
theorem unwrap_fn (op : ByteArray) (e : Er) : FnP Tryz.prog 215 [aFl (.wr op e)] (aEr e) := by
 show FnP _ _ [.pe [.str op, aEr e]] _
 refine FnP.of Tryz.func215 rfl rfl (by simp) (by simp [AV.cells]) (fun G hG => ?_)
 have hN : NoH G.length (aEr e) := (by simp [AV.cells])
 refine sr fun _ => ?_
 refine mz ?_
 refine AWP.seq (sr fun _ => ?_)
 refine mv ?_
 refine ARun.isNilP rfl rfl rfl rfl U188 (ep rfl) (fun hg => by first | rfl | exact nilP_aFl _) (.inl ⟨rfl, rfl⟩) optN ?_
 refine ez ?_
 refine ρq (fun h0 => ?_) (fun h0 => ?_)
 · simp at h0
 refine AWP.skip (thenA_n (sr fun _ => ?_))
 refine mv ?_
 first | refine ARun.nilPe rfl rfl rfl rfl (ep rfl) optN ?_ | refine ARun.nilFn rfl rfl rfl rfl (ep rfl) optN ?_ | refine ARun.nilBox rfl rfl rfl rfl (ep rfl) ((hG.at _ _).trans rfl) optN ?_
 first | refine ρ6 U190 sz96 ?_ | refine ρa (fo := 1) U190 sz96 ?_
 first | refine ρ5 U96 ?_ | refine ρd U96 ?_
 refine mz ?_
 refine AWP.ret ?_
 refine ρc ?_
 rfl
theorem asE_fn (e : Er) (old : Int) (he : e.isNone = false) : FnM Tryz.prog 125 (fun i => [aEr e, .ifc 141 (.box i 0), .agg [hT 141, .pe [.box i 0], .int .u64 150], rT 36]) [.int .i64 old] (.bool e.found.isSome) [.int .i64 (e.found.getD old)] := by
 refine FnM.of Tryz.func125 rfl rfl (fun i => by simp) (fun H i m hHm hi hG => ?_)
 have hN : NoH H.length (.bool e.found.isSome) := (by simp [AV.cells])
 refine sr fun _ => ?_
 refine ARun.box (j := 0) hG rfl rfl rfl rfl rfl (ep rfl) rfl rfl optN ?_
 refine mz ?_
 refine AWP.block ?_
 refine AWP.rounds (fun x => x.isNone = false ∧ x.inner = e.inner) (fun x => [(0, aEr x), (1, .ifc 141 (.box i 0)), (3, rT 36), (6, .box (m + 0) 0)]) (fun x => [.box [hT 141, .pe [.box i 0], .int .u64 150]]) (fun x => x.depth) 1 e ⟨he, rfl⟩ (by repeat (first | exact .nil | refine .cons rfl ?_)) rfl (fun _ => rfl) (fun _ => ⟨by simp [hT, rT]; omega, by simp [AO.conts, hT]; omega⟩) (fun x hI => ?_)
 obtain ⟨hx, hin⟩ := hI
 refine AWP.block (AWP.seq ?_)
 refine sr fun _ => ?_
 refine mv ?_
 refine ARun.callXP rfl rfl rfl rfl (ep rfl) (.cons (ep rfl) .nil) (fun hg => x_typeOf hx) optN ?_
 refine mv ?_
 refine ARun.invokeX rfl rfl rfl rfl (ep rfl) (fun hg => inv_asg _) (.cons (ep rfl) .nil) (fun hg => x_asg (Er.ty_two x) (.inl rfl)) optN ?_
 refine ez ?_
 refine ρq (fun h0 => ?_) (fun h0 => ?_)
 · obtain ⟨c, rfl⟩ := ty_no hx (by simpa using h0)
   refine sr fun _ => ?_
   refine ρo U195 sz195 ?_
   refine ARun.callXR rfl rfl rfl rfl (ep rfl) (.cons (ep rfl) .nil) (fun hg => x_elemVE (atO hi)) optN ?_
   refine mv ?_
   refine ARun.callXP rfl rfl rfl rfl (ep rfl) (.cons (ep rfl) .nil) (fun hg => x_valueOfN c) optN ?_
   refine ARun.callXO hi hG rfl rfl rfl rfl (ep rfl) (.cons (ep rfl) (.cons (ep rfl) .nil)) (x_setE (atO hi) rfl rfl) (by simp) optN (fun hG => ?_)
   refine ez (sr fun _ => ?_)
   refine mz ?_
   refine AWP.ret (thenA_r ?_)
   refine blockA_r (thenA_r (blockA_r ?_))
   refine endF.toG (congrArg (fun c => H.set i (AO.box c)) (by rw [← found_congr hin]; rfl)) ?_
   refine endF.one (.inr rfl) rfl (.tmp rfl) ?_ (by rw [List.length_set]; exact hN)
   rw [← found_congr hin]; rfl
 obtain ⟨op, y, rfl⟩ := ty_wr (by simpa using h0)
 refine AWP.skip (thenA_n (AWP.seq (sr fun _ => ?_)))
 refine mv ?_
 refine ARun.assertV rfl rfl rfl rfl (ep rfl) (fun hg => no_as hx) optN ?_
 refine mv ?_
 refine ρ4 ?_
 refine ρ4 ?_
 refine ma ?_
 refine mz (sr fun _ => ?_)
 refine mv ?_
 refine mv ?_
 refine ρi ?_
 refine ρi ?_
 refine ARun.invokeX (F := 0) (X' := .bool false) (r := .bool false) rfl rfl rfl rfl (Ev.opt rfl (fun h => h)) (fun hg => absurd hg (by decide)) (.cons (Ev.opt rfl (fun h => h)) .nil) (fun hg => absurd hg (by decide)) optS ?_
 refine ρ0 ?_
 refine ez ?_
 refine ρq (fun h1 => ?_) (fun h1 => ?_)
 · exact absurd h1 (by decide)
 refine AWP.skip (thenA_n (sr fun _ => ?_))
 refine mv ?_
 refine ez ?_
 refine AWP.block (sr fun _ => ?_)
 refine ARun.assertV rfl rfl rfl rfl (ep rfl) (fun hg => to_unwrap hx) optN ?_
 refine ρ4 ?_
 refine ρ4 ?_
 refine ez ?_
 refine ρq (fun h2 => ?_) (fun h2 => ?_)
 · refine sr fun _ => ?_
   refine mz (sr fun _ => ?_)
   refine mv ?_
   refine ARun.invokeP rfl rfl rfl rfl cf215 (ep rfl) (fun hg => inv_unwrap op y) .nil (fun hg => unwrap_fn op y) optN ?_
   refine mz (sr fun _ => ?_)
   refine mv ?_
   refine ARun.isNil rfl rfl rfl rfl U96 (ep rfl) (fun hg => by first | rfl | exact nilA_aEr _) (.inl ⟨rfl, rfl⟩) optN ?_
   refine ez ?_
   refine ρq (fun h3 => ?_) (fun h3 => ?_)
   · refine sr fun _ => ?_
     refine mz ?_
     refine AWP.ret (blockA_r ?_)
     refine blockA_r (thenA_r (blockA_r ?_))
     refine endF.toG (congrArg (fun c => H.set i (AO.box c)) (by rw [← found_congr hin, is_none h3]; rfl)) ?_
     refine endF.one (.inr rfl) rfl (.tmp rfl) ?_ (by rw [List.length_set]; exact hN)
     rw [← found_congr hin, is_none h3]; rfl
   refine AWP.skip (blockA_n (blockA_n ?_))
   refine thenA_n ⟨rfl, y, _, ?_, ?_, rfl, ?_⟩
   · exact ⟨h3, hin⟩
   · repeat (first | exact .nil | refine .cons rfl ?_)
   show y.depth < y.depth + 1; omega
 cases h2
theorem asF_fn (e : Er) (he : e.isNone = false) : FnM Tryz.prog 125 (fun i => [aEr e, .ifc 219 (.box i 0), .agg [hT 219, .pe [.box i 0], .int .u64 150], rT 188]) [.raw (.pointer .none)] (.bool e.isWr) [aFl e] := by
 refine FnM.of Tryz.func125 rfl rfl (fun i => by simp) (fun H i m hHm hi hG => ?_)
 have hN : NoH H.length (.bool e.isWr) := (by simp [AV.cells])
 refine sr fun _ => ?_
 refine ARun.box (j := 0) hG rfl rfl rfl rfl rfl (ep rfl) rfl rfl optN ?_
 refine mz ?_
 refine AWP.block ?_
 refine AWP.rounds (fun x => x.isNone = false ∧ x = e) (fun x => [(0, aEr x), (1, .ifc 219 (.box i 0)), (3, rT 188), (6, .box (m + 0) 0)]) (fun x => [.box [hT 219, .pe [.box i 0], .int .u64 150]]) (fun x => x.depth) 1 e ⟨he, rfl⟩ (by repeat (first | exact .nil | refine .cons rfl ?_)) rfl (fun _ => rfl) (fun _ => ⟨by simp [hT, rT]; omega, by simp [AO.conts, hT]; omega⟩) (fun x hI => ?_)
 obtain ⟨hx, hin⟩ := hI
 refine AWP.block (AWP.seq ?_)
 refine sr fun _ => ?_
 refine mv ?_
 refine ARun.callXP rfl rfl rfl rfl (ep rfl) (.cons (ep rfl) .nil) (fun hg => x_typeOf hx) optN ?_
 refine mv ?_
 refine ARun.invokeX rfl rfl rfl rfl (ep rfl) (fun hg => inv_asg _) (.cons (ep rfl) .nil) (fun hg => x_asg (Er.ty_two x) (.inr rfl)) optN ?_
 refine ez ?_
 refine ρq (fun h0 => ?_) (fun h0 => ?_)
 · obtain rfl := hin
   obtain ⟨op, y, rfl⟩ := ty_wr (x := x) (by rw [show x.ty = 188 from by simpa using h0]; decide)
   refine sr fun _ => ?_
   refine ρo U195 sz195 ?_
   refine ARun.callXR rfl rfl rfl rfl (ep rfl) (.cons (ep rfl) .nil) (fun hg => x_elemVF (atO hi)) optN ?_
   refine mv ?_
   refine ARun.callXP rfl rfl rfl rfl (ep rfl) (.cons (ep rfl) .nil) (fun hg => x_valueOfF op y) optN ?_
   refine ARun.callXO hi hG rfl rfl rfl rfl (ep rfl) (.cons (ep rfl) (.cons (ep rfl) .nil)) (x_setF (atO hi) rfl rfl) (by simp) optN (fun hG => ?_)
   refine ez (sr fun _ => ?_)
   refine mz ?_
   refine AWP.ret (thenA_r ?_)
   refine blockA_r (thenA_r (blockA_r ?_))
   refine endF.toG (congrArg (fun c => H.set i (AO.box c)) rfl) ?_
   refine endF.one (.inr rfl) rfl (.tmp rfl) ?_ (by rw [List.length_set]; exact hN)
   rfl
 obtain rfl := hin
 obtain ⟨c, rfl⟩ : ∃ c, x = .no c := by
   cases x with
   | none => cases hx
   | no c => exact ⟨c, rfl⟩
   | wr op e => simp [Er.ty] at h0
 refine AWP.skip (thenA_n (AWP.seq (sr fun _ => ?_)))
 refine mv ?_
 refine ARun.assertV rfl rfl rfl rfl (ep rfl) (fun hg => no_as hx) optN ?_
 refine mv ?_
 refine ρ4 ?_
 refine ρ4 ?_
 refine ma ?_
 refine mz (sr fun _ => ?_)
 refine mv ?_
 refine mv ?_
 refine ρi ?_
 refine ρi ?_
 refine ARun.invokeX (F := 0) (X' := .bool false) (r := .bool false) rfl rfl rfl rfl (Ev.opt rfl (fun h => h)) (fun hg => absurd hg (by decide)) (.cons (Ev.opt rfl (fun h => h)) .nil) (fun hg => absurd hg (by decide)) optS ?_
 refine ρ0 ?_
 refine ez ?_
 refine ρq (fun h1 => ?_) (fun h1 => ?_)
 · exact absurd h1 (by decide)
 refine AWP.skip (thenA_n (sr fun _ => ?_))
 refine mv ?_
 refine ez ?_
 refine AWP.block (sr fun _ => ?_)
 refine ARun.assertV rfl rfl rfl rfl (ep rfl) (fun hg => to_unwrap hx) optN ?_
 refine ρ4 ?_
 refine ρ4 ?_
 refine ez ?_
 refine ρq (fun h2 => ?_) (fun h2 => ?_)
 · cases h2
 refine sr fun _ => ?_
 refine ARun.assertV rfl rfl rfl rfl (ep rfl) (fun hg => no_unwraps0 hx) optN ?_
 refine ρ4 ?_
 refine ρ4 ?_
 refine ez ?_
 refine ρq (fun h3 => ?_) (fun h3 => ?_)
 · cases h3
 refine sr fun _ => ?_
 refine mz (sr fun _ => ?_)
 refine mz ?_
 refine AWP.ret (blockA_r ?_)
 refine blockA_r (thenA_r (blockA_r ?_))
 refine endF.toG (congrArg (fun c => H.set i (AO.box c)) rfl) ?_
 refine endF.one (.inr rfl) rfl (.tmp rfl) ?_ (by rw [List.length_set]; exact hN)
 rfl
theorem As_E (e : Er) (old : Int) : FnM Tryz.prog 82 (fun i => [aEr e, .ifc 141 (.box i 0)]) [.int .i64 old] (.bool e.found.isSome) [.int .i64 (e.found.getD old)] := by
 refine FnM.of Tryz.func82 rfl rfl (fun i => by simp) (fun H i m hHm hi hG => ?_)
 have hN : NoH H.length (.bool e.found.isSome) := (by simp [AV.cells])
 refine sr fun _ => ?_
 refine mz ?_
 refine AWP.seq (sr fun _ => ?_)
 refine mv ?_
 refine ARun.isNil rfl rfl rfl rfl U96 (ep rfl) (fun hg => by first | rfl | exact nilA_aEr _) (.inl ⟨rfl, rfl⟩) optN ?_
 refine ez ?_
 refine ρq (fun h0 => ?_) (fun h0 => ?_)
 · obtain rfl := is_none h0
   refine sr fun _ => ?_
   refine mz ?_
   refine AWP.ret (thenA_r ?_)
   refine endF.toG (congrArg (fun c => H.set i (AO.box c)) rfl) ?_
   refine endF.one (.inr rfl) rfl (.tmp rfl) ?_ (by rw [List.length_set]; exact hN)
   rfl
 refine AWP.skip (thenA_n (AWP.seq (sr fun _ => ?_)))
 refine mv ?_
 refine ARun.isNil rfl rfl rfl rfl U20 (ep rfl) (fun hg => by first | rfl | exact nilA_aEr _) (.inl ⟨rfl, rfl⟩) optN ?_
 refine ez ?_
 refine ρq (fun h1 => ?_) (fun h1 => ?_)
 · first | (exact absurd h1 (by decide)) | (simp at h1; done)
 refine AWP.skip (thenA_n (sr fun _ => ?_))
 refine mv ?_
 refine ARun.callXR rfl rfl rfl rfl (ep rfl) (.cons (ep rfl) .nil) (fun hg => x_valueOfPE (atO hi)) optN ?_
 refine ρp (j := 0) zv195 ?_
 refine ρ2 sz195 ?_
 refine ez (sr fun _ => ?_)
 refine ρo U195 sz195 ?_
 refine ARun.callXP rfl rfl rfl rfl (ep rfl) (.cons (ep rfl) .nil) (fun hg => x_typeE _) optN ?_
 refine mz ?_
 refine AWP.seq (sr fun _ => ?_)
 refine mv ?_
 refine ARun.invokeX rfl rfl rfl rfl (ep rfl) (fun hg => inv_kind _) .nil (fun hg => x_kindPE) optN ?_
 refine ρ1 ?_
 refine mv ?_
 refine ARun.loadBoxA rfl rfl rfl rfl U195 rfl sz195 (ep rfl) ((hG.at _ _).trans rfl) rfl rfl optS ?_
 refine ARun.callXR rfl rfl rfl rfl (ep rfl) (.cons (Ev.opt rfl (fun h => h)) .nil) (fun hg => x_isNilE (atO hi)) optS ?_
 refine ρ8 ?_
 refine ez ?_
 refine ρq (fun h2 => ?_) (fun h2 => ?_)
 · first | (exact absurd h2 (by decide)) | (simp at h2; done)
 refine AWP.skip (thenA_n (sr fun _ => ?_))
 refine mv ?_
 refine ARun.invokeX rfl rfl rfl rfl (ep rfl) (fun hg => inv_elem _) .nil (fun hg => x_elemE) optN ?_
 refine mz ?_
 refine AWP.seq (sr fun _ => ?_)
 refine mv ?_
 refine ARun.invokeX rfl rfl rfl rfl (ep rfl) (fun hg => inv_kind _) .nil (fun hg => x_kindE) optN ?_
 refine ρ1 ?_
 refine mv ?_
 refine ρi ?_
 refine ARun.loadGlob rfl rfl rfl rfl U198 rfl glob_mem (fun β W => rT_mk _ _ _) optS ?_
 refine ARun.invokeX rfl rfl rfl rfl (Ev.opt rfl (fun h => h)) (fun hg => inv_impl _) (.cons (Ev.opt rfl (fun h => h)) .nil) (fun hg => x_implE) optS ?_
 refine ARun.not rfl rfl rfl rfl (Ev.opt rfl (fun h => h)) optS ?_
 refine ρ0 ?_
 refine ez ?_
 refine ρq (fun h3 => ?_) (fun h3 => ?_)
 · first | (exact absurd h3 (by decide)) | (simp at h3; done)
 refine AWP.skip (thenA_n (sr fun _ => ?_))
 refine mv ?_
 refine mv ?_
 refine ρo U195 sz195 ?_
 refine mv ?_
 refine ARun.callO hi hG rfl rfl rfl rfl cf125 (ep rfl) (.cons (ep rfl) (.cons (ep rfl) (.cons (ep rfl) (.cons (ep rfl) .nil)))) rfl (asE_fn e old h0 _ _ (atO hi)) (by simp) optN (fun hG => ?_)
 refine mz ?_
 refine AWP.ret ?_
 refine endF.toG (congrArg (fun c => H.set i (AO.box c)) rfl) ?_
 refine endF.one (.inr rfl) rfl (.tmp rfl) ?_ (by rw [List.length_set]; exact hN)
 rfl
theorem As_F (e : Er) : FnM Tryz.prog 82 (fun i => [aEr e, .ifc 219 (.box i 0)]) [.raw (.pointer .none)] (.bool e.isWr) [aFl e] := by
 refine FnM.of Tryz.func82 rfl rfl (fun i => by simp) (fun H i m hHm hi hG => ?_)
 have hN : NoH H.length (.bool e.isWr) := (by simp [AV.cells])
 refine sr fun _ => ?_
 refine mz ?_
 refine AWP.seq (sr fun _ => ?_)
 refine mv ?_
 refine ARun.isNil rfl rfl rfl rfl U96 (ep rfl) (fun hg => by first | rfl | exact nilA_aEr _) (.inl ⟨rfl, rfl⟩) optN ?_
 refine ez ?_
 refine ρq (fun h0 => ?_) (fun h0 => ?_)
 · obtain rfl := is_none h0
   refine sr fun _ => ?_
   refine mz ?_
   refine AWP.ret (thenA_r ?_)
   refine endF.toG (congrArg (fun c => H.set i (AO.box c)) rfl) ?_
   refine endF.one (.inr rfl) rfl (.tmp rfl) ?_ (by rw [List.length_set]; exact hN)
   rfl
 refine AWP.skip (thenA_n (AWP.seq (sr fun _ => ?_)))
 refine mv ?_
 refine ARun.isNil rfl rfl rfl rfl U20 (ep rfl) (fun hg => by first | rfl | exact nilA_aEr _) (.inl ⟨rfl, rfl⟩) optN ?_
 refine ez ?_
 refine ρq (fun h1 => ?_) (fun h1 => ?_)
 · first | (exact absurd h1 (by decide)) | (simp at h1; done)
 refine AWP.skip (thenA_n (sr fun _ => ?_))
 refine mv ?_
 refine ARun.callXR rfl rfl rfl rfl (ep rfl) (.cons (ep rfl) .nil) (fun hg => x_valueOfPF (atO hi)) optN ?_
 refine ρp (j := 0) zv195 ?_
 refine ρ2 sz195 ?_
 refine ez (sr fun _ => ?_)
 refine ρo U195 sz195 ?_
 refine ARun.callXP rfl rfl rfl rfl (ep rfl) (.cons (ep rfl) .nil) (fun hg => x_typeF _) optN ?_
 refine mz ?_
 refine AWP.seq (sr fun _ => ?_)
 refine mv ?_
 refine ARun.invokeX rfl rfl rfl rfl (ep rfl) (fun hg => inv_kind _) .nil (fun hg => x_kindPF) optN ?_
 refine ρ1 ?_
 refine mv ?_
 refine ARun.loadBoxA rfl rfl rfl rfl U195 rfl sz195 (ep rfl) ((hG.at _ _).trans rfl) rfl rfl optS ?_
 refine ARun.callXR rfl rfl rfl rfl (ep rfl) (.cons (Ev.opt rfl (fun h => h)) .nil) (fun hg => x_isNilF (atO hi)) optS ?_
 refine ρ8 ?_
 refine ez ?_
 refine ρq (fun h2 => ?_) (fun h2 => ?_)
 · first | (exact absurd h2 (by decide)) | (simp at h2; done)
 refine AWP.skip (thenA_n (sr fun _ => ?_))
 refine mv ?_
 refine ARun.invokeX rfl rfl rfl rfl (ep rfl) (fun hg => inv_elem _) .nil (fun hg => x_elemF) optN ?_
 refine mz ?_
 refine AWP.seq (sr fun _ => ?_)
 refine mv ?_
 refine ARun.invokeX rfl rfl rfl rfl (ep rfl) (fun hg => inv_kind _) .nil (fun hg => x_kindF) optN ?_
 refine ρ1 ?_
 refine mv ?_
 refine ρi ?_
 refine ARun.loadGlob rfl rfl rfl rfl U198 rfl glob_mem (fun β W => rT_mk _ _ _) optS ?_
 refine ARun.invokeX rfl rfl rfl rfl (Ev.opt rfl (fun h => h)) (fun hg => inv_impl _) (.cons (Ev.opt rfl (fun h => h)) .nil) (fun hg => x_implF) optS ?_
 refine ARun.not rfl rfl rfl rfl (Ev.opt rfl (fun h => h)) optS ?_
 refine ρ0 ?_
 refine ez ?_
 refine ρq (fun h3 => ?_) (fun h3 => ?_)
 · first | (exact absurd h3 (by decide)) | (simp at h3; done)
 refine AWP.skip (thenA_n (sr fun _ => ?_))
 refine mv ?_
 refine mv ?_
 refine ρo U195 sz195 ?_
 refine mv ?_
 refine ARun.callO hi hG rfl rfl rfl rfl cf125 (ep rfl) (.cons (ep rfl) (.cons (ep rfl) (.cons (ep rfl) (.cons (ep rfl) .nil)))) rfl (asF_fn e h0 _ _ (atO hi)) (by simp) optN (fun hG => ?_)
 refine mz ?_
 refine AWP.ret ?_
 refine endF.toG (congrArg (fun c => H.set i (AO.box c)) rfl) ?_
 refine endF.one (.inr rfl) rfl (.tmp rfl) ?_ (by rw [List.length_set]; exact hN)
 rfl
theorem code_of {e : Er} (h : e.isNone = false) : e.code = match e.found with | some c => if c = 0 then 2 else c | Option.none => 2 := by cases e <;> first | rfl | cases h
theorem code_two {e : Er} (h : e.isNone = false) (k : e.found = Option.none ∨ e.found.getD 0 = 0) : e.code = 2 := by
 rw [code_of h]
 cases hf : e.found with
 | none => rfl
 | some c => rw [hf] at k; simp at k; simp [k]
theorem code_got {e : Er} (h : e.isNone = false) (k : e.found.isSome = true) (k2 : ¬ e.found.getD 0 = 0) : e.code = e.found.getD 0 := by
 rw [code_of h]
 cases hf : e.found with
 | none => rw [hf] at k; cases k
 | some c => rw [hf] at k2; simp at k2; simp [k2]
theorem new_fn (op : ByteArray) (c : Int) : FnP Tryz.prog 80 [.str op, .int .i64 c] (aEr (Er.new op c)) := by
 refine FnP.of Tryz.func80 rfl rfl (by simp) (by simp [AV.cells]) (fun G hG => ?_)
 have hN : NoH G.length (aEr (Er.new op c)) := (by simp [AV.cells])
 refine sr fun _ => ?_
 refine mz ?_
 refine AWP.seq (sr fun _ => ?_)
 refine mv ?_
 refine ρ1 ?_
 refine ez ?_
 refine ρq (fun h0 => ?_) (fun h0 => ?_)
 · refine sr fun _ => ?_
   refine mz ?_
   refine AWP.ret (thenA_r ?_)
   refine ρc ?_
   rw [Er.new, if_pos (by simpa using h0)]; rfl
 refine AWP.skip (thenA_n (sr fun _ => ?_))
 refine mv ?_
 refine mv ?_
 refine ARun.iface rfl rfl rfl rfl (by kernel_rfl) (ep rfl) optN ?_
 refine ARun.build rfl rfl rfl rfl so190 (.cons (ep rfl) (.cons (ep rfl) .nil)) rfl rfl optN ?_
 refine ρv ?_
 refine ARun.iface rfl rfl rfl rfl (by kernel_rfl) (ep rfl) optN ?_
 refine mz ?_
 refine AWP.ret ?_
 refine ρc ?_
 rw [Er.new, if_neg (by simpa using h0)]; rfl
theorem wrap_fn (op : ByteArray) (e : Er) : FnP Tryz.prog 79 [.str op, aEr e] (aEr (Er.wrap op e)) := by
 refine FnP.of Tryz.func79 rfl rfl (by simp) (by simp [AV.cells]) (fun G hG => ?_)
 have hN : NoH G.length (aEr (Er.wrap op e)) := (by simp [AV.cells])
 refine sr fun _ => ?_
 refine mz ?_
 refine AWP.seq (sr fun _ => ?_)
 refine mv ?_
 refine ARun.isNil rfl rfl rfl rfl U96 (ep rfl) (fun hg => by first | rfl | exact nilA_aEr _) (.inl ⟨rfl, rfl⟩) optN ?_
 refine ez ?_
 refine ρq (fun h0 => ?_) (fun h0 => ?_)
 · refine sr fun _ => ?_
   refine mz ?_
   refine AWP.ret (thenA_r ?_)
   refine ρc ?_
   rw [Er.wrap, if_pos h0]; rfl
 rw [aEr_ifc h0]
 refine AWP.skip (thenA_n (sr fun _ => ?_))
 refine mv ?_
 refine mv ?_
 refine ARun.build rfl rfl rfl rfl so190 (.cons (ep rfl) (.cons (ep rfl) .nil)) rfl rfl optN ?_
 refine ρv ?_
 refine ARun.iface rfl rfl rfl rfl (by kernel_rfl) (ep rfl) optN ?_
 refine mz ?_
 refine AWP.ret ?_
 refine ρc ?_
 rw [Er.wrap, if_neg (by simp [h0])]
 show _ = AV.ifc _ (.pe [.str op, aEr e])
 rw [aEr_ifc h0]; rfl
theorem code_fn (e : Er) : FnP Tryz.prog 53 [aEr e] (.int .i64 e.code) := by
 refine FnP.of Tryz.func53 rfl rfl (by simp) (by simp [AV.cells]) (fun G hG => ?_)
 have hN : NoH G.length (.int .i64 e.code) := (by simp [AV.cells])
 refine sr fun _ => ?_
 refine mz ?_
 refine AWP.seq (sr fun _ => ?_)
 refine mv ?_
 refine ARun.isNil rfl rfl rfl rfl U96 (ep rfl) (fun hg => by first | rfl | exact nilA_aEr _) (.inl ⟨rfl, rfl⟩) optN ?_
 refine ez ?_
 refine ρq (fun h0 => ?_) (fun h0 => ?_)
 · obtain rfl := is_none h0
   refine sr fun _ => ?_
   refine mz ?_
   refine AWP.ret (thenA_r ?_)
   refine ρc ?_
   rfl
 try simp at h0
 refine AWP.skip (thenA_n (sr fun _ => ?_))
 refine ρp (j := 0) zv36 ?_
 refine ez ?_
 refine AWP.seq (sr fun _ => ?_)
 refine mv ?_
 refine ARun.iface rfl rfl rfl rfl (by kernel_rfl) (ep rfl) optN ?_
 refine ARun.callSet (j := 0) hG rfl rfl rfl rfl cf82 (ep rfl) (.cons (ep rfl) (.cons (ep rfl) .nil)) rfl (As_E e 0 _ _ ((hG.at _ _).trans rfl)) rfl optN ?_
 refine ARun.not rfl rfl rfl rfl (ep rfl) optN ?_
 refine mv ?_
 refine ARun.loadBox rfl rfl rfl rfl U36 rfl (ep rfl) ((hG.at _ _).trans rfl) rfl optS ?_
 refine ρf ?_
 refine ρ8 ?_
 refine ez ?_
 refine ρq (fun h1 => ?_) (fun h1 => ?_)
 · try simp at h1
   refine sr fun _ => ?_
   refine mz ?_
   refine AWP.ret (thenA_r ?_)
   refine ρc ?_
   rw [code_two h0 h1]; rfl
 try simp at h1
 refine AWP.skip (thenA_n (sr fun _ => ?_))
 refine ρd U36 ?_
 refine mz ?_
 refine AWP.ret ?_
 refine ρc ?_
 rw [code_got h0 h1.1 h1.2]
-- instance : Inhabited ByteArray := ⟨⟨#[]⟩⟩
end Go.Proofs.YtcndnllmlhhjiaaGreatDoor
namespace Go.Proofs.YtcndnllmlhhjiaaGreatDoor
set_option linter.unusedVariables false
section
variable {P : Program} {ops : Array Oper} {n m : Nat} {QQ : List Kd → Sl → List AO → Prop} {l : List Oper} {ks : List Kd} {σ : Sl} {G L H : List AO} {o : Oper} {gd : Bool}
theorem ρu {x y : Operand} {t : TypeId} {j off : Nat} {cs cs' : List AV} {X : AV} {L' : List AO} (hz : Sz P t 1) (hr : ARun P ops n QQ l (ks ++ [.write]) σ (G ++ L')) (hm : GOK m G := by assumption) (ho : o.op = .store t x y := by exact rfl) (hd : o.dst = none := by exact rfl) (hg : gdS ops σ o.guard = some true := by exact rfl) (hx : Ev true σ x (.box (m + j) off) := by exact ep rfl) (hy : Ev true σ y X := by exact ep rfl) (hH : L[j]? = some (.box cs) := by exact rfl) (hX : X.one = true := by first | rfl | exact aEr_one _ | exact aFl_one _) (hoff : off + 1 ≤ cs.length := by exact Nat.le_of_ble_eq_true rfl) (hcs : cs.take off ++ [X] ++ cs.drop (off + 1) = cs' := by exact rfl) (hL : L.set j (.box cs') = L' := by exact rfl) (hsp : ((cs.drop off).take 1).all AV.plainC = true := by first | rfl | exact plain_take rfl | exact plain_take (by simp [AV.plainC])) : ARun P ops n QQ (o :: l) ks σ (G ++ L) := ARun.storeL1 hm ho hd hg hz hx hy hH hX hoff hcs hL hr hsp
end
end Go.Proofs.YtcndnllmlhhjiaaGreatDoor
namespace Go.Proofs.YtcndnllmlhhjiaaGreatDoor
open Go.RowKit
open NumP
theorem fit_at {l : List Int} (hf : ∀ x, x ∈ l → -9223372036854775808 ≤ x ∧ x ≤ 9223372036854775807) {k : Nat} (hk : k < l.length) : -9223372036854775808 ≤ l.getD k default ∧ l.getD k default ≤ 9223372036854775807 := by
 simp only [List.getD, List.getElem?_eq_getElem hk, Option.getD_some]; exact hf _ (List.getElem_mem hk)
theorem liesB : liesAt Tryz.prog Tryz.prog.depth 175 (2 / Tryz.prog.cellsOf 175) 0 175 1 = true := by kernel_rfl
theorem writeB (l : List UInt8) (t : ByteArray) (h : l.length + t.size ≤ 100000000) : FnM Tryz.prog 164 (fun i => [.box i 0, .str t]) [.adr 175, .buf 5 (bs l)] (.tup [.int .i64 t.size, .raw .nilIface]) [.adr 175, .buf 5 (bs l ++ t)] :=
 bld_write (n := 2) liesB (by decide) (bs l) t [] rfl (by rw [bs_size]; omega)
theorem rowPut_fn (n : Int) (h : -9223372036854775808 ≤ n ∧ n ≤ 9223372036854775807) (l : List UInt8) (hl : l.length ≤ 1000000) : FnM Tryz.prog 166 (fun i => [.int .i64 n, .box i 0]) ([.adr 175, .buf 5 (bs l)]) (.int .i64 (putN n).2) ([.adr 175, .buf 5 (bs (l ++ (putN n).1))]) := by
 have hpl := putN_len n
 refine FnM.of Tryz.func166 rfl rfl (fun i => by simp) (fun H i m hHm hi hG => ?_)
 have hN : NoH H.length (.int .i64 (putN n).2) := (by simp)
 refine sr fun _ => ?_
 refine mz (sr fun _ => ?_)
 refine mv ?_
 refine ρj cf140 (fun hg => put_fn n h) ?_
 refine mv ?_
 refine ρ4 ?_
 refine ρ4 ?_
 refine ma ?_
 refine mz (sr fun _ => ?_)
 refine mv ?_
 refine ARun.callO hi hG rfl rfl rfl rfl cf164 (ep rfl) (.cons (ep rfl) (.cons (ep rfl) .nil)) rfl (writeB l (bs (putN n).1) (by rw [bs_size]; omega) _ _ (atO hi)) (by simp) optN (fun hG => ?_)
 refine ez (sr fun _ => ?_)
 refine mv ?_
 refine mz ?_
 refine AWP.ret ?_
 refine endF.toG (congrArg (fun c => H.set i (AO.box c)) (by rw [bs_append])) ?_
 refine endF.one (.inr rfl) rfl (.tmp rfl) ?_ (by rw [List.length_set]; exact hN)
 rfl
theorem rowPut_st (x : Int) (h : -9223372036854775808 ≤ x ∧ x ≤ 9223372036854775807) (a : List UInt8 × Int) (ha : a.1.length ≤ 1000000) (h0 : a.2 = 0) : FnM Tryz.prog 166 (fun i => [.int .i64 x, .box i 0]) ([.adr 175, .buf 5 (bs a.1)]) (.int .i64 (rowStep a x).2) ([.adr 175, .buf 5 (bs (rowStep a x).1)]) := by
 rw [show rowStep a x = (a.1 ++ (putN x).1, (putN x).2) from if_pos h0]; exact rowPut_fn x h a.1 ha
theorem rowN_fn (l : List Int) (hl : l.length ≤ 10000) (hf : ∀ x, x ∈ l → -9223372036854775808 ≤ x ∧ x ≤ 9223372036854775807) : FnP Tryz.prog 141 [.sl (l.map (AV.int .i64))] (.tup [.str (bs (rowN l).1), .int .i64 (rowN l).2]) := by
 have hpe : (putN (l.length : Int)).2 = 0 := by rw [putN_err, if_pos (by omega)]
 have hp0 : FnM Tryz.prog 166 (fun i => [.int .i64 ((l.map (AV.int .i64)).length : Int), .box i 0]) ([.adr 175, .buf 5 (bs [])]) (.int .i64 (putN (l.length : Int)).2) ([.adr 175, .buf 5 (bs ([] ++ (putN (l.length : Int)).1))]) := by rw [List.length_map]; exact rowPut_fn l.length (by omega) [] (by simp)
 refine FnP.of Tryz.func141 rfl rfl (by simp) (by simp [AV.cells]) (fun G hG => ?_)
 have hN : NoH G.length (.tup [.str (bs (rowN l).1), .int .i64 (rowN l).2]) := (by simp [AV.cells])
 refine sr fun _ => ?_
 refine ma ?_
 refine mz (sr fun _ => ?_)
 refine ARun.allocBld (j := 0) (e := 5) hG rfl rfl rfl rfl rfl zv175 rfl rfl rfl optN ?_
 refine ez (sr fun _ => ?_)
 refine ARun.makeFunc rfl rfl rfl rfl .nil (.cons (ep rfl) .nil) optN ?_
 refine mz (sr fun _ => ?_)
 refine mv ?_
 refine mv ?_
 refine ρr U40 ?_
 refine ARun.callSet (j := 0) hG rfl rfl rfl rfl cf166 (ep rfl) (.cons (ep rfl) .nil) rfl (hp0 _ _ ((hG.at _ _).trans rfl)) rfl optN ?_
 refine mz ?_
 refine AWP.seq (sr fun _ => ?_)
 refine mv ?_
 refine ρr U40 ?_
 refine mv ?_
 refine ez ?_
 refine AWP.block ?_
 refine AWP.rounds (fun s => s.1 ≤ l.length ∧ s.2 = rowS l s.1) (fun s => [(5, .fn (.func 166) [] [.box (G.length + 0) 0]), (6, .int .i64 s.2.2), (14, .sl (l.map (AV.int .i64))), (15, .int .i64 ((l.map (AV.int .i64)).length : Int)), (16, .int .i64 (s.1 : Int)), (4, .box (G.length + 0) 0)]) (fun s => [.box ([.adr 175, .buf 5 (bs s.2.1)])]) (fun s => l.length - s.1) 1 ((0, rowS l 0) : Nat × (List UInt8 × Int)) ⟨Nat.zero_le _, rfl⟩ (by rw [show (rowS l 0).2 = (putN (l.length : Int)).2 from hpe.symm]; repeat (first | exact .nil | refine .cons rfl ?_)) rfl (fun _ => rfl) (fun _ => ⟨by simp [AV.cells], by simp [AO.conts]⟩) (fun s hI => ?_)
 obtain ⟨k, a⟩ := s
 dsimp only at hI
 show AWP _ _ _ _ _ [(5, .fn (.func 166) [] [.box (G.length + 0) 0]), (6, .int .i64 a.2), (14, .sl (l.map (AV.int .i64))), (15, .int .i64 ((l.map (AV.int .i64)).length : Int)), (16, .int .i64 (k : Int)), (4, .box (G.length + 0) 0)] _ [.box ([.adr 175, .buf 5 (bs a.1)])]
 obtain ⟨hk, ha⟩ := hI
 have hal := rowS_len l k
 rw [← ha] at hal
 refine sr fun _ => ?_
 refine ρ1 ?_
 refine ez ?_
 refine AWP.seq ?_
 refine ρq (fun h0 => ?_) (fun h0 => ?_)
 · simp [-List.getD_eq_getElem?_getD] at h0
   refine AWP.skip (thenA_n ?_)
   refine AWP.seq (AWP.block (sr fun _ => ?_))
   first | refine ρ9 U40 sz3 ?_ | refine ρ3 U40 sz3 ?_
   refine ρ5 U3 ?_
   refine mz (sr fun _ => ?_)
   refine mv ?_
   refine ρ1 ?_
   refine ez ?_
   refine ρq (fun h1 => ?_) (fun h1 => ?_)
   · try simp [-List.getD_eq_getElem?_getD] at h1
     refine AWP.region (fun _ => ?_)
     refine mv ?_
     refine mv ?_
     refine ARun.callSet (j := 0) hG rfl rfl rfl rfl cf166 (ep rfl) (.cons (ep rfl) .nil) rfl (rowPut_st _ (fit_at hf (by simpa using h0)) a (by omega) h1 _ _ ((hG.at _ _).trans rfl)) rfl optN ?_
     refine ma ?_
     refine ⟨_, _, rfl, hG, ?_⟩
     refine blockA_n (thenA_n ?_)
     refine AWP.region (fun _ => ?_)
     first | refine ρ7 ?_ | refine ρg ?_
     refine mv ?_
     refine ⟨_, _, rfl, hG, ?_⟩
     refine thenA_n ⟨rfl, (k + 1, rowStep a (l.getD k default)), _, ?_, ?_, rfl, ?_⟩
     · refine ⟨by omega, ?_⟩
       show rowStep a _ = _
       rw [rowS_succ l k (by omega), ha]
     · repeat (first | exact .nil | refine .cons rfl ?_)
     dsimp only; omega
   try simp [-List.getD_eq_getElem?_getD] at h1
   refine AWP.skip (blockA_n (thenA_n ?_))
   refine AWP.region (fun _ => ?_)
   first | refine ρ7 ?_ | refine ρg ?_
   refine mv ?_
   refine ⟨_, _, rfl, hG, ?_⟩
   refine thenA_n ⟨rfl, (k + 1, a), _, ?_, ?_, rfl, ?_⟩
   · refine ⟨by omega, ?_⟩
     show a = _
     rw [rowS_succ l k (by omega), ← ha, rowStep, if_neg h1]
   · repeat (first | exact .nil | refine .cons rfl ?_)
   dsimp only; omega
 simp at h0
 obtain rfl : k = l.length := by omega
 have hall := rowS_all l
 rw [← ha] at hall
 refine AWP.exit ?_
 refine thenA_x ?_
 refine thenA_x ?_
 refine blockA_h ?_
 refine thenA_n (AWP.seq ?_)
 refine sr fun _ => ?_
 refine mv ?_
 refine ρ1 ?_
 refine ez ?_
 refine ρq (fun h2 => ?_) (fun h2 => ?_)
 · try simp [-List.getD_eq_getElem?_getD] at h2
   refine sr fun _ => ?_
   refine mv ?_
   refine ma ?_
   refine mz ?_
   refine AWP.ret (thenA_r ?_)
   refine ρl (rs := [.tmp 2, .tmp 3]) (.cons (.tmp rfl) (.cons (.tmp rfl) .nil)) ?_
   rw [if_neg h2] at hall
   rw [← hall]; rfl
 try simp [-List.getD_eq_getElem?_getD] at h2
 refine AWP.skip (thenA_n (sr fun _ => ?_))
 refine ARun.callSet (j := 0) hG rfl rfl rfl rfl cf142 (ep rfl) (.cons (ep rfl) .nil) rfl (bld_string (n := 2) (bs a.1) [] _ _ ((hG.at _ _).trans rfl)) rfl optN ?_
 refine ma ?_
 refine mz ?_
 refine AWP.ret ?_
 refine ρl (rs := [.tmp 2, .tmp 3]) (.cons (.tmp rfl) (.cons (.tmp rfl) .nil)) ?_
 rw [if_pos h2] at hall
 rw [← hall]; rfl
theorem map_snocI (l : List Int) (x : Int) : l.map (AV.int .i64) ++ [AV.int .i64 x] = (l ++ [x]).map (AV.int .i64) := by simp
theorem unrowN_fn (s : ByteArray) (p top : Int) (hs : s.size ≤ 1000000) : FnP Tryz.prog 119 [.str s, .int .i64 p, .int .i64 top] (.tup [.sl ((unrowN (bl s) p top).1.map (AV.int .i64)), .int .i64 (unrowN (bl s) p top).2.1, .int .i64 (unrowN (bl s) p top).2.2]) := by
 have hbd := getN_bd (bl s) p (by rw [bl_len]; exact hs)
 have hdef : unrowN (bl s) p top = (if (getN (bl s) p).2.2 ≠ 0 then (([], 0, (getN (bl s) p).2.2) : List Int × Int × Int) else if (getN (bl s) p).1 > 1000 ∨ ((getN (bl s) p).1 > top ∧ (getN (bl s) p).1 > 0) then ([], 0, 3) else unrowF (bl s) (getN (bl s) p).1.toNat (getN (bl s) p).2.1 []) := rfl
 refine FnP.of Tryz.func119 rfl rfl (by simp) (by simp [AV.cells]) (fun G hG => ?_)
 have hN : NoH G.length (.tup [.sl ((unrowN (bl s) p top).1.map (AV.int .i64)), .int .i64 (unrowN (bl s) p top).2.1, .int .i64 (unrowN (bl s) p top).2.2]) := (by simp [AV.cells])
 refine sr fun _ => ?_
 refine ARun.nilOwn (e := 3) (z := 1) (j := 0) hG rfl ⟨.inl rfl, rfl⟩ (fun _ => rfl) rfl rfl rfl optN ?_
 refine ma ?_
 refine mz (sr fun _ => ?_)
 refine mv ?_
 refine mv ?_
 refine ρm cf117 (fun hg => get_fn s p hs) ?_
 refine mv ?_
 refine ρ4 ?_
 refine ρ4 ?_
 refine ρ4 ?_
 refine ma ?_
 refine ma ?_
 refine mz ?_
 refine AWP.seq (sr fun _ => ?_)
 refine mv ?_
 refine ρ1 ?_
 refine ez ?_
 refine ρq (fun h0 => ?_) (fun h0 => ?_)
 · have h0' : (getN (bl s) p).2.2 ≠ 0 := by simpa using h0
   refine sr fun _ => ?_
   refine mv ?_
   refine ma ?_
   refine ma ?_
   refine mz ?_
   refine AWP.ret (thenA_r ?_)
   refine ρl (rs := [.tmp 6, .tmp 7, .tmp 8]) (.cons (.tmp rfl) (.cons (.tmp rfl) (.cons (.tmp rfl) .nil))) ?_
   rw [hdef, if_pos h0']; rfl
 simp at h0
 have hlen : (getN (bl s) p).1.toNat ≤ (getN (bl s) p).1.toNat := Nat.le_refl _
 rw [if_neg (by simp [h0])] at hdef
 refine AWP.skip (thenA_n (AWP.seq (sr fun _ => ?_)))
 refine mv ?_
 refine mv ?_
 refine ARun.minmax rfl rfl rfl rfl (ep rfl) (ep rfl) (.inr ⟨rfl, rfl⟩) optN ?_
 refine ARun.minmax rfl rfl rfl rfl (ep rfl) (ep rfl) (.inl ⟨rfl, rfl⟩) optN ?_
 refine ρ1 ?_
 refine ez ?_
 refine ρq (fun h1 => ?_) (fun h1 => ?_)
 · have h1' : (getN (bl s) p).1 > 1000 ∨ ((getN (bl s) p).1 > top ∧ (getN (bl s) p).1 > 0) := by simp at h1; omega
   rw [if_pos h1'] at hdef
   refine sr fun _ => ?_
   refine ma ?_
   refine ma ?_
   refine mz ?_
   refine AWP.ret (thenA_r ?_)
   refine ρl (rs := [.tmp 6, .tmp 7, .tmp 8]) (.cons (.tmp rfl) (.cons (.tmp rfl) (.cons (.tmp rfl) .nil))) ?_
   rw [hdef]; rfl
 have h1' : ¬ ((getN (bl s) p).1 > 1000 ∨ ((getN (bl s) p).1 > top ∧ (getN (bl s) p).1 > 0)) := by simp at h1; omega
 rw [if_neg h1'] at hdef
 refine AWP.skip (thenA_n (AWP.seq (sr fun _ => ?_)))
 refine mv ?_
 refine mv ?_
 refine ez ?_
 refine AWP.block ?_
 refine AWP.rounds (fun st => st.1 ≤ (getN (bl s) p).1.toNat ∧ st.2.2.2.length = st.1 ∧ unrowF (bl s) ((getN (bl s) p).1.toNat - st.1) st.2.2.1 st.2.2.2 = unrowF (bl s) (getN (bl s) p).1.toNat (getN (bl s) p).2.1 []) (fun st => [(0, .str s), (6, .own (G.length + 0) st.2.1), (7, .int .i64 st.2.2.1), (28, .int .i64 (getN (bl s) p).1), (29, .int .i64 (st.1 : Int))]) (fun st => [.row st.2.1 3 1 (st.2.2.2.map (AV.int .i64))]) (fun st => (getN (bl s) p).1.toNat - st.1) 1 ((0, 0, (getN (bl s) p).2.1, []) : Nat × Nat × Int × List Int) ⟨Nat.zero_le _, rfl, rfl⟩ (by repeat (first | exact .nil | refine .cons rfl ?_)) rfl (fun _ => rfl) (fun _ => ⟨by simp [AV.cells], by simp [AO.conts, AV.cells]; rintro y a _ rfl; simp⟩) (fun st hI => ?_)
 obtain ⟨k, g, to, acc⟩ := st
 dsimp only at hI
 show AWP _ _ _ _ _ [(0, .str s), (6, .own (G.length + 0) g), (7, .int .i64 to), (28, .int .i64 (getN (bl s) p).1), (29, .int .i64 (k : Int))] _ [.row g 3 1 (acc.map (AV.int .i64))]
 obtain ⟨hk, hal, hu⟩ := hI
 refine sr fun _ => ?_
 refine ρ1 ?_
 refine ez ?_
 refine AWP.seq ?_
 refine ρq (fun h2 => ?_) (fun h2 => ?_)
 · simp at h2
   refine AWP.skip (thenA_n ?_)
   refine AWP.seq (AWP.block (sr fun _ => ?_))
   refine mv ?_
   refine mv ?_
   refine ρm cf117 (fun hg => get_fn s to hs) ?_
   refine mv ?_
   refine ρ4 ?_
   refine ρ4 ?_
   refine ρ4 ?_
   refine ma ?_
   refine ma ?_
   refine mz ?_
   refine AWP.seq (sr fun _ => ?_)
   refine mv ?_
   refine ρ1 ?_
   refine ez ?_
   refine ρq (fun h3 => ?_) (fun h3 => ?_)
   · have h3' : (getN (bl s) to).2.2 ≠ 0 := by simpa using h3
     rw [show (getN (bl s) p).1.toNat - k = ((getN (bl s) p).1.toNat - (k + 1)) + 1 by omega, unrow_step, if_pos h3'] at hu
     refine sr fun _ => ?_
     refine mv ?_
     refine ma ?_
     refine ma ?_
     refine mz ?_
     refine AWP.ret (thenA_r ?_)
     refine blockA_r (thenA_r ?_)
     refine thenA_r (blockA_r (thenA_r ?_))
     refine ρl (rs := [.tmp 6, .tmp 7, .tmp 8]) (.cons (.tmp rfl) (.cons (.tmp rfl) (.cons (.tmp rfl) .nil))) ?_
     rw [hdef, ← hu]; rfl
   simp at h3
   rw [show (getN (bl s) p).1.toNat - k = ((getN (bl s) p).1.toNat - (k + 1)) + 1 by omega, unrow_step, if_neg (by simp [h3])] at hu
   refine AWP.skip (thenA_n ?_)
   refine AWP.region (fun _ => ?_)
   refine mv ?_
   refine mv ?_
   refine ARun.buildSl rfl rfl rfl rfl U40 sz3 zv3 rfl (by decide) (.cons (ep rfl) .nil) rfl rfl rfl rfl (by decide) rfl rfl optN ?_
   refine ARun.appendL hG rfl rfl rfl rfl U40 ti3 rfl (by decide) (ep rfl) (ep rfl) rfl rfl (by simp [maxLen]; omega) (by simp; omega) (map_snocI acc _) optN rfl ?_
   refine mv ?_
   refine ma ?_
   refine ma ?_
   refine ⟨_, _, rfl, hG, ?_⟩
   refine blockA_n (thenA_n ?_)
   refine AWP.region (fun _ => ?_)
   first | refine ρ7 ?_ | refine ρg ?_
   refine mv ?_
   refine ⟨_, _, rfl, hG, ?_⟩
   refine thenA_n ⟨rfl, (k + 1, g + 1, (getN (bl s) to).2.1, acc ++ [(getN (bl s) to).1]), _, ?_, ?_, rfl, ?_⟩
   · exact ⟨by dsimp only; omega, by simp [hal], hu⟩
   · repeat (first | exact .nil | refine .cons rfl ?_)
   dsimp only; omega
 simp at h2
 have hkk : (getN (bl s) p).1.toNat - k = 0 := by omega
 rw [hkk] at hu
 refine AWP.exit ?_
 refine thenA_x ?_
 refine thenA_x ?_
 refine blockA_h ?_
 refine thenA_n (sr fun _ => ?_)
 refine mv ?_
 refine mv ?_
 refine ma ?_
 refine ma ?_
 refine mz ?_
 refine AWP.frzOwn 6 hG rfl rfl (by decide) (by simp [maxLen]; omega) rfl ?_
 refine AWP.ret ?_
 refine ρl (rs := [.tmp 6, .tmp 7, .tmp 8]) (.cons (.tmp rfl) (.cons (.tmp rfl) (.cons (.tmp rfl) .nil))) ?_
 rw [hdef, ← hu]; rfl
end Go.Proofs.YtcndnllmlhhjiaaGreatDoor
namespace Go.Proofs.YtcndnllmlhhjiaaGreatDoor
open Go.RowKit
open NumP
def aW (w : WrS) : List AV := [.adr 177, .buf 5 (bs w.s), aEr (errOf tWrite w.p w.e)]
def aRd (r : RdS) : List AV := [.str r.s, .int .i64 r.at_, aEr (errOf tRead r.p r.e), .bool true]
def aIn (r : RdS) : AV := .agg [.str r.s, .int .i64 r.at_, .str r.p, .int .i64 r.e]
def aOut (w : WrS) : AV := .agg [.str w.out, .str w.p, .int .i64 w.e]
theorem noH_aW (m : Nat) (w : WrS) : ∀ x, x ∈ aW w → NoH m x := by simp [aW]
theorem noH_aRd (m : Nat) (r : RdS) : ∀ x, x ∈ aRd r → NoH m x := by simp [aRd]
theorem liesW : liesAt Tryz.prog Tryz.prog.depth 177 (3 / Tryz.prog.cellsOf 177) 0 175 1 = true := by kernel_rfl
theorem writeW (w : WrS) (s : ByteArray) (h : w.s.length + s.size ≤ 100000000) : FnM Tryz.prog 164 (fun i => [.box i 0, .str s]) (aW w) (.tup [.int .i64 s.size, .raw .nilIface]) [.adr 177, .buf 5 (bs w.s ++ s), aEr (errOf tWrite w.p w.e)] :=
 bld_write (n := 3) liesW (by decide) (bs w.s) s [aEr (errOf tWrite w.p w.e)] rfl (by rw [bs_size]; omega)
theorem plain_aEr (e : Er) : (aEr e).plainC = true := by cases e <;> rfl
theorem unrowF_bad (l : List UInt8) (k : Nat) : ∀ (to : Int) (acc : List Int), (unrowF l k to acc).2.2 ≠ 0 → (unrowF l k to acc).1 = [] := by
 induction k with
 | zero => intro to acc h; exact absurd rfl h
 | succ k ih =>
   intro to acc h
   rw [unrow_step] at h ⊢
   split
   · rfl
   rename_i h1; rw [if_neg h1] at h; exact ih _ _ h
theorem unrow_bad {l : List UInt8} {p top : Int} (h : (unrowN l p top).2.2 ≠ 0) : (unrowN l p top).1 = [] := by
 unfold unrowN at h ⊢
 split
 · rfl
 rename_i h1
 rw [if_neg h1] at h
 split
 · rfl
 rename_i h2; rw [if_neg h2] at h; exact unrowF_bad _ _ _ _ h
theorem moved_pos {r : RdS} {p : ByteArray} {to e : Int} (h : e ≠ 0) : r.moved p to e = { r with p := p, e := e } := if_pos h
theorem moved_neg {r : RdS} {p : ByteArray} {to e : Int} (h : e = 0) : r.moved p to e = { r with at_ := to } := if_neg (by simpa using h)
theorem put_w (w : WrS) (p : ByteArray) (u : List UInt8) (s : ByteArray) (hs : s = bs u) (e : Int) (hl : w.s.length + u.length ≤ 10000000) : FnM Tryz.prog 139 (fun i => [.box i 0, .str p, .str s, .int .i64 e]) (aW w) (.tup []) (aW (wrPut w p u e)) := by
 subst hs
 refine FnM.of Tryz.func139 rfl rfl (fun i => by simp) (fun H i m hHm hi hG => ?_)
 have hN : NoH H.length (.tup []) := (by simp [AV.cells, aIn, aOut])
 refine AWP.seq (sr fun _ => ?_)
 refine mv ?_
 refine ARun.isNilBox rfl rfl rfl rfl U213 (ep rfl) (atO hi) (.inl ⟨rfl, rfl⟩) optN ?_
 refine mv ?_
 refine ρi ?_
 first | refine ARun.nilPe rfl rfl rfl rfl (Ev.opt rfl (fun h => h)) optS ?_ | refine ARun.nilFn rfl rfl rfl rfl (Ev.opt rfl (fun h => h)) optS ?_ | refine ARun.nilBox rfl rfl rfl rfl (Ev.opt rfl (fun h => h)) (atO hi) optS ?_
 refine ARun.fieldBox (fo := 2) rfl rfl rfl rfl U177 rfl rfl sz96 (by decide) (Ev.opt rfl (fun h => h)) (atO hi) optS ?_
 refine ARun.loadBox rfl rfl rfl rfl U96 rfl (Ev.opt rfl (fun h => h)) (atO hi) rfl optS ?_
 refine ARun.isNil rfl rfl rfl rfl U96 (Ev.opt rfl (fun h => h)) (fun hg => by first | rfl | exact nilA_aEr _) (.inr ⟨rfl, rfl⟩) optS ?_
 refine ρ8 ?_
 refine ez ?_
 refine ρq (fun h0 => ?_) (fun h0 => ?_)
 · have hw : w.e ≠ 0 := by simpa [errOf_none] using h0
   refine AWP.ret (thenA_r ?_)
   refine endF.toG (congrArg (fun c => H.set i (AO.box c)) (by rw [wrPut, if_pos hw])) ?_
   refine endF.many (.inr rfl) (rs := []) rfl .nil (by simp) ?_ (by rw [List.length_set]; exact hN)
   rfl
 have hw : w.e = 0 := by simpa [errOf_none] using h0
 refine AWP.skip (thenA_n (AWP.seq (sr fun _ => ?_)))
 refine mv ?_
 refine ρ1 ?_
 refine ez ?_
 refine ρq (fun h1 => ?_) (fun h1 => ?_)
 · have he : e ≠ 0 := by simpa using h1
   refine sr fun _ => ?_
   refine mv ?_
   refine mv ?_
   refine mv ?_
   refine ρm cf80 (fun hg => new_fn p e) ?_
   refine ρm cf79 (fun hg => wrap_fn tWrite (Er.new p e)) ?_
   first | refine ARun.nilPe rfl rfl rfl rfl (ep rfl) optN ?_ | refine ARun.nilFn rfl rfl rfl rfl (ep rfl) optN ?_ | refine ARun.nilBox rfl rfl rfl rfl (ep rfl) (atO hi) optN ?_
   refine ARun.fieldBox (fo := 2) rfl rfl rfl rfl U177 rfl rfl sz96 (by decide) (ep rfl) (atO hi) optN ?_
   refine ARun.storeO1 hi hG rfl rfl rfl sz96 (ep rfl) (ep rfl) (by first | rfl | exact aEr_one _ | exact aFl_one _) (Nat.le_of_ble_eq_true rfl) rfl (by first | exact noH_aW _ _ | (simp; done) | (simp [cAV]; done)) (fun hG => ?_) (hsp := (by simp [aW, plain_aEr]))
   refine ez ?_
   refine AWP.ret (thenA_r ?_)
   refine endF.toG (congrArg (fun c => H.set i (AO.box c)) (by rw [wrPut, if_neg (by omega), if_pos he]; exact congrArg (fun x => [AV.adr _, .buf _ (bs w.s), aEr x]) (errOf_mk tWrite p e))) ?_
   refine endF.many (.inr rfl) (rs := []) rfl .nil (by simp) ?_ (by rw [List.length_set]; exact hN)
   rfl
 have he : e = 0 := by simpa using h1
 refine AWP.skip (thenA_n ?_)
 refine AWP.region (fun _ => ?_)
 refine mv ?_
 first | refine ARun.nilPe rfl rfl rfl rfl (ep rfl) optN ?_ | refine ARun.nilFn rfl rfl rfl rfl (ep rfl) optN ?_ | refine ARun.nilBox rfl rfl rfl rfl (ep rfl) (atO hi) optN ?_
 refine ARun.fieldBox (fo := 0) rfl rfl rfl rfl U177 rfl rfl sz175 (by decide) (ep rfl) (atO hi) optN ?_
 refine mv ?_
 refine ARun.callO hi hG rfl rfl rfl rfl cf164 (ep rfl) (.cons (ep rfl) (.cons (ep rfl) .nil)) rfl (writeW w (bs u) (by rw [bs_size]; omega) _ _ (atO hi)) (by first | exact noH_aW _ _ | (simp; done) | (simp [cAV]; done)) optN (fun hG => ?_)
 refine ⟨_, _, rfl, hG, ?_⟩
 refine endF.toG (congrArg (fun c => H.set i (AO.box c)) (by rw [wrPut, if_neg (by omega), if_neg (by omega), bs_append]; rfl)) ?_
 refine endF.many (.inl rfl) (rs := []) rfl .nil (by simp) ?_ (by rw [List.length_set]; exact hN)
 rfl
-- numbers
theorem nums_w (w : WrS) (l : List Int) (hll : l.length ≤ 1000) (hl : w.s.length ≤ 1000000) (hf : ∀ x, x ∈ l → -9223372036854775808 ≤ x ∧ x ≤ 9223372036854775807) : FnM Tryz.prog 113 (fun i => [.box i 0, .sl (l.map (AV.int .i64))]) (aW w) (.tup []) (aW (wrNums w l)) := by
 refine FnM.of Tryz.func113 rfl rfl (fun i => by simp) (fun H i m hHm hi hG => ?_)
 have hN : NoH H.length (.tup []) := (by simp [AV.cells, aIn, aOut])
 refine sr fun _ => ?_
 refine mv ?_
 refine ARun.makeFunc rfl rfl rfl rfl (.cons (ep rfl) .nil) .nil optN ?_
 refine mz (sr fun _ => ?_)
 refine mv ?_
 refine ρr U40 ?_
 refine mv ?_
 refine ez ?_
 refine AWP.block ?_
 refine AWP.roundsO (fun k => k ≤ l.length) (fun k => [(1, .sl (l.map (AV.int .i64))), (4, .fn (.func 139) [.box i 0] []), (11, .sl (l.map (AV.int .i64))), (12, .int .i64 ((l.map (AV.int .i64)).length : Int)), (13, .int .i64 (k : Int))]) (fun k => H.set i (.box (aW (wrNums w (l.take k))))) (fun k => []) (fun k => l.length - k) 0 0 (Nat.zero_le _) (by repeat (first | exact .nil | refine .cons rfl ?_)) rfl rfl (fun _ => rfl) (fun _ => ⟨by simp [AV.cells]; omega, by simp⟩) (fun k hI hG => ?_)
 show AWP _ _ _ _ _ [(1, .sl (l.map (AV.int .i64))), (4, .fn (.func 139) [.box i 0] []), (11, .sl (l.map (AV.int .i64))), (12, .int .i64 ((l.map (AV.int .i64)).length : Int)), (13, .int .i64 (k : Int))] (H.set i (.box (aW (wrNums w (l.take k))))) []
 replace hG : GOK _ (H.set i (.box (aW (wrNums w (l.take k))))) := hG
 have hwl := wrNums_len (l.take k) w
 have htl : (l.take k).length ≤ k := by rw [List.length_take]; omega
 refine sr fun _ => ?_
 refine ρ1 ?_
 refine ez ?_
 refine AWP.seq ?_
 refine ρq (fun h0 => ?_) (fun h0 => ?_)
 · try simp [-List.getD_eq_getElem?_getD] at h0
   refine AWP.skip (thenA_n ?_)
   refine AWP.seq (AWP.block (sr fun _ => ?_))
   first | refine ρ9 U40 sz3 ?_ | refine ρ3 U40 sz3 ?_
   refine ρ5 U3 ?_
   refine mz (sr fun _ => ?_)
   refine mv ?_
   refine ARun.call rfl rfl rfl rfl cf140 (ep rfl) (.cons (ep rfl) .nil) rfl (fun hg => put_fn _ (fit_at hf (by simpa using h0))) optN ?_
   refine mv ?_
   refine ρ4 ?_
   refine ρ4 ?_
   refine ma ?_
   refine mz ?_
   refine AWP.region (fun _ => ?_)
   refine mv ?_
   refine mv ?_
   refine mv ?_
   refine ARun.callO hi hG rfl rfl rfl rfl cf139 (ep rfl) (.cons (ep rfl) (.cons (ep rfl) (.cons (ep rfl) .nil))) rfl (put_w (wrNums w (l.take k)) tNum (putN (l.getD k default)).1 _ rfl (putN (l.getD k default)).2 (by have := putN_len (l.getD k default); omega) _ _ (atO hi)) (by first | exact noH_aW _ _ | (simp; done) | (simp [cAV]; done)) optN (fun hG => ?_)
   refine ⟨_, _, rfl, hG, ?_⟩
   refine blockA_n (thenA_n ?_)
   refine AWP.region (fun _ => ?_)
   first | refine ρ7 ?_ | refine ρg ?_
   refine mv ?_
   refine ⟨_, _, rfl, hG, ?_⟩
   refine thenA_n ⟨k + 1, _, ?_, ?_, ?_, rfl, ?_⟩
   · rw [wrNums_succ w l k (by simpa using h0)]; rfl
   · omega
   · repeat (first | exact .nil | refine .cons rfl ?_)
   omega
 simp at h0
 obtain rfl : k = l.length := by omega
 rw [List.take_length]
 refine AWP.exit ?_
 refine thenA_x ?_
 refine thenA_x ?_
 refine blockA_h ?_
 refine endF.toG (congrArg (fun c => H.set i (AO.box c)) rfl) ?_
 refine endF.many (.inl rfl) (rs := []) rfl .nil (by simp) ?_ (by rw [List.length_set]; exact hN)
 rfl
theorem row_w (w : WrS) (l : List Int) (hll : l.length ≤ 10000) (hl : w.s.length ≤ 1000000) (hf : ∀ x, x ∈ l → -9223372036854775808 ≤ x ∧ x ≤ 9223372036854775807) : FnM Tryz.prog 114 (fun i => [.box i 0, .sl (l.map (AV.int .i64))]) (aW w) (.tup []) (aW (wrRow w l)) := by
 have hrl := rowN_len l
 refine FnM.of Tryz.func114 rfl rfl (fun i => by simp) (fun H i m hHm hi hG => ?_)
 have hN : NoH H.length (.tup []) := (by simp [AV.cells, aIn, aOut])
 refine sr fun _ => ?_
 refine mv ?_
 refine ρj cf141 (fun hg => rowN_fn l hll hf) ?_
 refine mv ?_
 refine ρ4 ?_
 refine ρ4 ?_
 refine ma ?_
 refine mz ?_
 refine AWP.region (fun _ => ?_)
 refine mv ?_
 refine mv ?_
 refine mv ?_
 refine ARun.callO hi hG rfl rfl rfl rfl cf139 (ep rfl) (.cons (ep rfl) (.cons (ep rfl) (.cons (ep rfl) (.cons (ep rfl) .nil)))) rfl (put_w w tRow (rowN l).1 _ rfl (rowN l).2 (by omega) _ _ (atO hi)) (by first | exact noH_aW _ _ | (simp; done) | (simp [cAV]; done)) optN (fun hG => ?_)
 refine ⟨_, _, rfl, hG, ?_⟩
 refine endF.toG (congrArg (fun c => H.set i (AO.box c)) rfl) ?_
 refine endF.many (.inl rfl) (rs := []) rfl .nil (by simp) ?_ (by rw [List.length_set]; exact hN)
 rfl
theorem done_ok (w : WrS) (h : w.e = 0) : FnK Tryz.prog 115 (fun i => [.box i 0]) (aW w) (.tup [.str w.out, .raw .nilIface]) := by
 refine FnK.of Tryz.func115 rfl rfl (fun i => by simp) (fun H i m hHm hi hG => ?_)
 have hN : NoH H.length (.tup [.str w.out, .raw .nilIface]) := (by simp [AV.cells, aIn, aOut])
 refine sr fun _ => ?_
 refine ma ?_
 refine mz ?_
 refine AWP.seq (sr fun _ => ?_)
 refine mv ?_
 refine ARun.isNilBox rfl rfl rfl rfl U213 (ep rfl) (atO hi) (.inl ⟨rfl, rfl⟩) optN ?_
 refine ez ?_
 refine ρq (fun h0 => ?_) (fun h0 => ?_)
 · simp at h0
 refine AWP.skip (thenA_n (AWP.seq (sr fun _ => ?_)))
 refine mv ?_
 first | refine ARun.nilPe rfl rfl rfl rfl (ep rfl) optN ?_ | refine ARun.nilFn rfl rfl rfl rfl (ep rfl) optN ?_ | refine ARun.nilBox rfl rfl rfl rfl (ep rfl) (atO hi) optN ?_
 refine ARun.fieldBox (fo := 2) rfl rfl rfl rfl U177 rfl rfl sz96 (by decide) (ep rfl) (atO hi) optN ?_
 refine ARun.loadBox rfl rfl rfl rfl U96 rfl (ep rfl) (atO hi) rfl optN ?_
 refine ARun.isNil rfl rfl rfl rfl U96 (ep rfl) (fun hg => by first | rfl | exact nilA_aEr _) (.inr ⟨rfl, rfl⟩) optN ?_
 refine ez ?_
 refine ρq (fun h1 => ?_) (fun h1 => ?_)
 · simp [errOf_none, h] at h1
 refine AWP.skip (thenA_n (sr fun _ => ?_))
 refine mv ?_
 first | refine ARun.nilPe rfl rfl rfl rfl (ep rfl) optN ?_ | refine ARun.nilFn rfl rfl rfl rfl (ep rfl) optN ?_ | refine ARun.nilBox rfl rfl rfl rfl (ep rfl) (atO hi) optN ?_
 refine ARun.fieldBox (fo := 0) rfl rfl rfl rfl U177 rfl rfl sz175 (by decide) (ep rfl) (atO hi) optN ?_
 refine ARun.callK hi hG rfl rfl rfl rfl cf142 (ep rfl) (.cons (ep rfl) .nil) rfl (bld_string (T := 177) (n := 3) (bs w.s) [aEr (errOf tWrite w.p w.e)] _ _ (atO hi)) optN (fun hG => ?_)
 refine ma ?_
 refine mz ?_
 refine AWP.ret ?_
 refine endF.many (.inr rfl) (rs := [.tmp 2, .tmp 3]) rfl (.cons (.tmp rfl) (.cons (.tmp rfl) .nil)) (by simp) ?_ (by rw [List.length_set]; exact hN)
 rw [WrS.out, if_pos h]; rfl
theorem done_bad (w : WrS) (h : w.e ≠ 0) : FnM Tryz.prog 115 (fun i => [.box i 0]) (aW w) (.tup [.str w.out, aEr (errOf tWrite w.p w.e)]) (aW w) := by
 refine FnM.of Tryz.func115 rfl rfl (fun i => by simp) (fun H i m hHm hi hG => ?_)
 have hN : NoH H.length (.tup [.str w.out, aEr (errOf tWrite w.p w.e)]) := (by simp [AV.cells, aIn, aOut])
 refine sr fun _ => ?_
 refine ma ?_
 refine mz ?_
 refine AWP.seq (sr fun _ => ?_)
 refine mv ?_
 refine ARun.isNilBox rfl rfl rfl rfl U213 (ep rfl) (atO hi) (.inl ⟨rfl, rfl⟩) optN ?_
 refine ez ?_
 refine ρq (fun h0 => ?_) (fun h0 => ?_)
 · simp at h0
 refine AWP.skip (thenA_n (AWP.seq (sr fun _ => ?_)))
 refine mv ?_
 first | refine ARun.nilPe rfl rfl rfl rfl (ep rfl) optN ?_ | refine ARun.nilFn rfl rfl rfl rfl (ep rfl) optN ?_ | refine ARun.nilBox rfl rfl rfl rfl (ep rfl) (atO hi) optN ?_
 refine ARun.fieldBox (fo := 2) rfl rfl rfl rfl U177 rfl rfl sz96 (by decide) (ep rfl) (atO hi) optN ?_
 refine ARun.loadBox rfl rfl rfl rfl U96 rfl (ep rfl) (atO hi) rfl optN ?_
 refine ARun.isNil rfl rfl rfl rfl U96 (ep rfl) (fun hg => by first | rfl | exact nilA_aEr _) (.inr ⟨rfl, rfl⟩) optN ?_
 refine ez ?_
 refine ρq (fun h1 => ?_) (fun h1 => ?_)
 · refine AWP.seq ?_
   refine AWP.draw mixed (by kernel_rfl) (fun _ => ?_)
   refine mv ?_
   first | refine ARun.nilPe rfl rfl rfl rfl (ep rfl) optN ?_ | refine ARun.nilFn rfl rfl rfl rfl (ep rfl) optN ?_ | refine ARun.nilBox rfl rfl rfl rfl (ep rfl) (atO hi) optN ?_
   refine ARun.fieldBox (fo := 2) rfl rfl rfl rfl U177 rfl rfl sz96 (by decide) (ep rfl) (atO hi) optN ?_
   refine ARun.loadBox rfl rfl rfl rfl U96 rfl (ep rfl) (atO hi) rfl optN ?_
   refine ma ?_
   refine ma ?_
   refine ⟨by kernel_rfl, _, _, rfl, hG, ?_⟩
   refine thenA_n (AWP.ret (thenA_r ?_))
   refine endF.toG (congrArg (fun c => H.set i (AO.box c)) rfl) ?_
   refine endF.many (.inr rfl) (rs := [.tmp 2, .tmp 3]) rfl (.cons (.tmp rfl) (.cons (.tmp rfl) .nil)) (by simp) ?_ (by rw [List.length_set]; exact hN)
   rw [WrS.out, if_neg h]; rfl
 simp [errOf_none, h] at h1
theorem done_w (w : WrS) : FnK Tryz.prog 115 (fun i => [.box i 0]) (aW w) (.tup [.str w.out, aEr (errOf tWrite w.p w.e)]) := by
 by_cases h : w.e = 0
 · rw [h, errOf_zero]; exact done_ok w h
 exact (done_bad w h).kill (by simp)
theorem newr_fn (s : ByteArray) : FnNewB Tryz.prog 74 [.str s] (fun i => .box i 0) (aRd (RdS.new s)) := by
 refine FnNewB.of Tryz.func74 rfl rfl (by simp) (fun G hG => ?_)
 refine sr fun _ => ?_
 refine mz (sr fun _ => ?_)
 refine mv ?_
 refine ARun.build rfl rfl rfl rfl so182 (.cons (ep rfl) (.cons (ep rfl) .nil)) rfl rfl optN ?_
 refine ARun.box (j := 0) hG rfl rfl rfl rfl rfl (ep rfl) rfl rfl optN ?_
 refine mz ?_
 refine AWP.ret ?_
 refine endN.one (.inr rfl) rfl (.tmp rfl) ?_ (by first | exact noH_aRd _ _ | (simp; done)) (by first | exact noH_aRd _ _ | (simp; done))
 rfl
theorem goes_fn (r : RdS) : FnM Tryz.prog 116 (fun i => [.box i 0]) (aRd r) (.bool (decide (r.e = 0))) (aRd r) := by
 refine FnM.of Tryz.func116 rfl rfl (fun i => by simp) (fun H i m hHm hi hG => ?_)
 have hN : NoH H.length (.bool (decide (r.e = 0))) := (by simp [AV.cells, aIn, aOut])
 refine sr fun _ => ?_
 refine mz (sr fun _ => ?_)
 refine ρp (j := 0) zv188 ?_
 refine ez (sr fun _ => ?_)
 refine mv ?_
 refine ARun.isNilBox rfl rfl rfl rfl U132 (ep rfl) (atO hi) (.inr ⟨rfl, rfl⟩) optN ?_
 refine mv ?_
 refine ρi ?_
 first | refine ARun.nilPe rfl rfl rfl rfl (Ev.opt rfl (fun h => h)) optS ?_ | refine ARun.nilFn rfl rfl rfl rfl (Ev.opt rfl (fun h => h)) optS ?_ | refine ARun.nilBox rfl rfl rfl rfl (Ev.opt rfl (fun h => h)) (atO hi) optS ?_
 refine ARun.fieldBox (fo := 3) rfl rfl rfl rfl U182 rfl rfl sz4 (by decide) (Ev.opt rfl (fun h => h)) (atO hi) optS ?_
 refine ARun.loadBox rfl rfl rfl rfl U4 rfl (Ev.opt rfl (fun h => h)) (atO hi) rfl optS ?_
 refine ρ0 ?_
 refine mv ?_
 refine ρi ?_
 first | refine ARun.nilPe rfl rfl rfl rfl (Ev.opt rfl (fun h => h)) optS ?_ | refine ARun.nilFn rfl rfl rfl rfl (Ev.opt rfl (fun h => h)) optS ?_ | refine ARun.nilBox rfl rfl rfl rfl (Ev.opt rfl (fun h => h)) (atO hi) optS ?_
 refine ARun.fieldBox (fo := 2) rfl rfl rfl rfl U182 rfl rfl sz96 (by decide) (Ev.opt rfl (fun h => h)) (atO hi) optS ?_
 refine ARun.loadBox rfl rfl rfl rfl U96 rfl (Ev.opt rfl (fun h => h)) (atO hi) rfl optS ?_
 refine ARun.iface rfl rfl rfl rfl (by kernel_rfl) (ep rfl) optS ?_
 refine ARun.callSetG (j := 0) hG rfl rfl rfl rfl cf82 (ep rfl) (.cons (Ev.opt rfl (fun h => h)) (.cons (Ev.opt rfl (fun h => h)) .nil)) rfl (fun hg => As_F (errOf tRead r.p r.e) _ _ ((hG.at _ _).trans rfl)) (fun hg => by simp at hg) rfl optS ?_
 refine ARun.not rfl rfl rfl rfl (Ev.opt rfl (fun h => h)) optS ?_
 refine ρ0 ?_
 refine mz ?_
 refine AWP.ret ?_
 refine endF.toG (congrArg (fun c => H.set i (AO.box c)) rfl) ?_
 refine endF.one (.inr rfl) rfl (.tmp rfl) ?_ (by rw [List.length_set]; exact hN)
 simp [errOf_isWr]
theorem done_fn (r : RdS) (p : ByteArray) (to e : Int) : FnM Tryz.prog 118 (fun i => [.box i 0, .str p, .int .i64 to, .int .i64 e]) (aRd r) (.bool (decide (e = 0))) (aRd (r.moved p to e)) := by
 refine FnM.of Tryz.func118 rfl rfl (fun i => by simp) (fun H i m hHm hi hG => ?_)
 have hN : NoH H.length (.bool (decide (e = 0))) := (by simp [AV.cells, aIn, aOut])
 refine sr fun _ => ?_
 refine mz ?_
 refine AWP.seq (sr fun _ => ?_)
 refine mv ?_
 refine ρ1 ?_
 refine ez ?_
 refine ρq (fun h0 => ?_) (fun h0 => ?_)
 · have he : e ≠ 0 := by simpa using h0
   refine sr fun _ => ?_
   refine mv ?_
   refine mv ?_
   refine mv ?_
   refine ρm cf80 (fun hg => new_fn p e) ?_
   refine ρm cf79 (fun hg => wrap_fn tRead (Er.new p e)) ?_
   first | refine ARun.nilPe rfl rfl rfl rfl (ep rfl) optN ?_ | refine ARun.nilFn rfl rfl rfl rfl (ep rfl) optN ?_ | refine ARun.nilBox rfl rfl rfl rfl (ep rfl) (atO hi) optN ?_
   refine ARun.fieldBox (fo := 2) rfl rfl rfl rfl U182 rfl rfl sz96 (by decide) (ep rfl) (atO hi) optN ?_
   refine ARun.storeO1 hi hG rfl rfl rfl sz96 (ep rfl) (ep rfl) (by first | rfl | exact aEr_one _ | exact aFl_one _) (Nat.le_of_ble_eq_true rfl) rfl (by first | exact noH_aRd _ _ | (simp; done) | (simp [cAV]; done)) (fun hG => ?_) (hsp := (by first | rfl | simp [aRd, plain_aEr]))
   refine ez (sr fun _ => ?_)
   refine mz ?_
   refine AWP.ret (thenA_r ?_)
   refine endF.toG (congrArg (fun c => H.set i (AO.box c)) (by rw [moved_pos he]; exact congrArg (fun x => [AV.str r.s, .int .i64 r.at_, aEr x, .bool true]) (errOf_mk tRead p e))) ?_
   refine endF.one (.inr rfl) rfl (.tmp rfl) ?_ (by rw [List.length_set]; exact hN)
   simp [he]; rfl
 have he : e = 0 := by simpa using h0
 refine AWP.skip (thenA_n (sr fun _ => ?_))
 refine mv ?_
 refine mv ?_
 first | refine ARun.nilPe rfl rfl rfl rfl (ep rfl) optN ?_ | refine ARun.nilFn rfl rfl rfl rfl (ep rfl) optN ?_ | refine ARun.nilBox rfl rfl rfl rfl (ep rfl) (atO hi) optN ?_
 refine ARun.fieldBox (fo := 1) rfl rfl rfl rfl U182 rfl rfl sz3 (by decide) (ep rfl) (atO hi) optN ?_
 refine ARun.storeO1 hi hG rfl rfl rfl sz3 (ep rfl) (ep rfl) (by first | rfl | exact aEr_one _ | exact aFl_one _) (Nat.le_of_ble_eq_true rfl) rfl (by first | exact noH_aRd _ _ | (simp; done) | (simp [cAV]; done)) (fun hG => ?_) (hsp := (by first | rfl | simp [aRd, plain_aEr]))
 refine ez (sr fun _ => ?_)
 refine mz ?_
 refine AWP.ret ?_
 refine endF.toG (congrArg (fun c => H.set i (AO.box c)) (by rw [moved_neg he]; rfl)) ?_
 refine endF.one (.inr rfl) rfl (.tmp rfl) ?_ (by rw [List.length_set]; exact hN)
 simp [he]; rfl
theorem num_r (r : RdS) (most : Int) (h : r.ok) : FnM Tryz.prog 75 (fun i => [.box i 0, .int .i64 most]) (aRd r) (.int .i64 (rdNum r most).2) (aRd (rdNum r most).1) := by
 refine FnM.of Tryz.func75 rfl rfl (fun i => by simp) (fun H i m hHm hi hG => ?_)
 have hN : NoH H.length (.int .i64 (rdNum r most).2) := (by simp [AV.cells, aIn, aOut])
 refine sr fun _ => ?_
 refine mz ?_
 refine AWP.seq (sr fun _ => ?_)
 refine mv ?_
 refine ARun.callR rfl rfl rfl rfl cf116 (ep rfl) (.cons (ep rfl) .nil) rfl (fun hg => FnM.keep (goes_fn r) (atO hi)) optN ?_
 refine ARun.not rfl rfl rfl rfl (ep rfl) optN ?_
 refine ez ?_
 refine ρq (fun h0 => ?_) (fun h0 => ?_)
 · have he : r.e ≠ 0 := by simpa using h0
   refine sr fun _ => ?_
   refine mz ?_
   refine AWP.ret (thenA_r ?_)
   refine endF.toG (congrArg (fun c => H.set i (AO.box c)) (by rw [rdNum, if_pos he])) ?_
   refine endF.one (.inr rfl) rfl (.tmp rfl) ?_ (by rw [List.length_set]; exact hN)
   rw [rdNum, if_pos he]; rfl
 have he : r.e = 0 := by simpa using h0
 have hde : rdNum r most = (r.moved tNum (getN (bl r.s) r.at_).2.1 (numE r most), if numE r most ≠ 0 then 0 else (getN (bl r.s) r.at_).1) := by rw [rdNum, if_neg (by omega)]
 refine AWP.skip (thenA_n (AWP.seq ?_))
 refine AWP.draw mixed (by kernel_rfl) (fun _ => ?_)
 refine mv ?_
 first | refine ARun.nilPe rfl rfl rfl rfl (ep rfl) optN ?_ | refine ARun.nilFn rfl rfl rfl rfl (ep rfl) optN ?_ | refine ARun.nilBox rfl rfl rfl rfl (ep rfl) (atO hi) optN ?_
 refine ARun.fieldBox (fo := 0) rfl rfl rfl rfl U182 rfl rfl sz9 (by decide) (ep rfl) (atO hi) optN ?_
 refine ARun.loadBox rfl rfl rfl rfl U9 rfl (ep rfl) (atO hi) rfl optN ?_
 refine mv ?_
 first | refine ARun.nilPe rfl rfl rfl rfl (ep rfl) optN ?_ | refine ARun.nilFn rfl rfl rfl rfl (ep rfl) optN ?_ | refine ARun.nilBox rfl rfl rfl rfl (ep rfl) (atO hi) optN ?_
 refine ARun.fieldBox (fo := 1) rfl rfl rfl rfl U182 rfl rfl sz3 (by decide) (ep rfl) (atO hi) optN ?_
 refine ARun.loadBox rfl rfl rfl rfl U3 rfl (ep rfl) (atO hi) rfl optN ?_
 refine ρm cf117 (fun hg => get_fn r.s r.at_ h.2.2) ?_
 refine mv ?_
 refine ρ4 ?_
 refine ρ4 ?_
 refine ρ4 ?_
 refine ma ?_
 refine ma ?_
 refine ma ?_
 refine ⟨by kernel_rfl, _, _, rfl, hG, ?_⟩
 refine thenA_n (AWP.seq ?_)
 refine sr fun _ => ?_
 refine mv ?_
 refine ρ1 ?_
 refine mv ?_
 refine ρi ?_
 refine ρi ?_
 refine ρw ?_
 refine ρ0 ?_
 refine ez ?_
 refine ρq (fun h1 => ?_) (fun h1 => ?_)
 · simp at h1
   have hne : numE r most = 3 := by rw [numE, if_pos (by omega)]
   rw [hne] at hde
   refine AWP.region (fun _ => ?_)
   refine mz ?_
   refine AWP.seq (sr fun _ => ?_)
   refine mv ?_
   refine mv ?_
   refine mv ?_
   refine ARun.callO hi hG rfl rfl rfl rfl cf118 (ep rfl) (.cons (ep rfl) (.cons (ep rfl) (.cons (ep rfl) (.cons (ep rfl) .nil)))) rfl (done_fn r tNum (getN (bl r.s) r.at_).2.1 3 _ _ (atO hi)) (by first | exact noH_aRd _ _ | (simp; done) | (simp [cAV]; done)) optN (fun hG => ?_)
   refine ARun.not rfl rfl rfl rfl (ep rfl) optN ?_
   refine ez ?_
   refine ρq (fun h2 => ?_) (fun h2 => ?_)
   · refine sr fun _ => ?_
     refine mz ?_
     refine AWP.ret (thenA_r ?_)
     refine endF.toG (congrArg (fun c => H.set i (AO.box c)) (by rw [hde])) ?_
     refine endF.one (.inr rfl) rfl (.tmp rfl) ?_ (by rw [List.length_set]; exact hN)
     rw [hde]; rfl
   simp at h2
 have h1' : ¬ ((getN (bl r.s) r.at_).2.2 = 0 ∧ (getN (bl r.s) r.at_).1 > most) := by simp at h1; omega
 have hne : numE r most = (getN (bl r.s) r.at_).2.2 := by rw [numE, if_neg h1']
 rw [hne] at hde
 refine AWP.skip (thenA_n (AWP.seq (sr fun _ => ?_)))
 refine mv ?_
 refine mv ?_
 refine mv ?_
 refine ARun.callO hi hG rfl rfl rfl rfl cf118 (ep rfl) (.cons (ep rfl) (.cons (ep rfl) (.cons (ep rfl) (.cons (ep rfl) .nil)))) rfl (done_fn r tNum (getN (bl r.s) r.at_).2.1 (getN (bl r.s) r.at_).2.2 _ _ (atO hi)) (by first | exact noH_aRd _ _ | (simp; done) | (simp [cAV]; done)) optN (fun hG => ?_)
 refine ARun.not rfl rfl rfl rfl (ep rfl) optN ?_
 refine ez ?_
 refine ρq (fun h3 => ?_) (fun h3 => ?_)
 · simp at h3
   refine sr fun _ => ?_
   refine mz ?_
   refine AWP.ret (thenA_r ?_)
   refine endF.toG (congrArg (fun c => H.set i (AO.box c)) (by rw [hde])) ?_
   refine endF.one (.inr rfl) rfl (.tmp rfl) ?_ (by rw [List.length_set]; exact hN)
   rw [hde, if_pos h3]; rfl
 simp at h3
 refine AWP.skip (thenA_n (sr fun _ => ?_))
 refine mv ?_
 refine mz ?_
 refine AWP.ret ?_
 refine endF.toG (congrArg (fun c => H.set i (AO.box c)) (by rw [hde])) ?_
 refine endF.one (.inr rfl) rfl (.tmp rfl) ?_ (by rw [List.length_set]; exact hN)
 rw [hde, if_neg (by omega)]
theorem row_r (r : RdS) (most : Int) (h : r.ok) : FnM Tryz.prog 76 (fun i => [.box i 0, .int .i64 most]) (aRd r) (.sl ((rdRow r most).2.map (AV.int .i64))) (aRd (rdRow r most).1) := by
 refine FnM.of Tryz.func76 rfl rfl (fun i => by simp) (fun H i m hHm hi hG => ?_)
 have hN : NoH H.length (.sl ((rdRow r most).2.map (AV.int .i64))) := (by simp [AV.cells])
 refine sr fun _ => ?_
 refine mz ?_
 refine AWP.seq (sr fun _ => ?_)
 refine mv ?_
 refine ARun.callR rfl rfl rfl rfl cf116 (ep rfl) (.cons (ep rfl) .nil) rfl (fun hg => FnM.keep (goes_fn r) (atO hi)) optN ?_
 refine ARun.not rfl rfl rfl rfl (ep rfl) optN ?_
 refine ez ?_
 refine ρq (fun h0 => ?_) (fun h0 => ?_)
 · have he : r.e ≠ 0 := by simpa using h0
   refine sr fun _ => ?_
   refine mz ?_
   refine AWP.ret (thenA_r ?_)
   refine endF.toG (congrArg (fun c => H.set i (AO.box c)) (by rw [rdRow, if_pos he])) ?_
   refine endF.one (.inr rfl) rfl (.tmp rfl) ?_ (by rw [List.length_set]; exact hN)
   rw [rdRow, if_pos he]; rfl
 have he : r.e = 0 := by simpa using h0
 have hde : rdRow r most = (r.moved tRow (unrowN (bl r.s) r.at_ most).2.1 (unrowN (bl r.s) r.at_ most).2.2, (unrowN (bl r.s) r.at_ most).1) := by rw [rdRow, if_neg (by omega)]
 refine AWP.skip (thenA_n (AWP.seq ?_))
 refine AWP.draw mixed (by kernel_rfl) (fun _ => ?_)
 refine mv ?_
 first | refine ARun.nilPe rfl rfl rfl rfl (ep rfl) optN ?_ | refine ARun.nilFn rfl rfl rfl rfl (ep rfl) optN ?_ | refine ARun.nilBox rfl rfl rfl rfl (ep rfl) (atO hi) optN ?_
 refine ARun.fieldBox (fo := 0) rfl rfl rfl rfl U182 rfl rfl sz9 (by decide) (ep rfl) (atO hi) optN ?_
 refine ARun.loadBox rfl rfl rfl rfl U9 rfl (ep rfl) (atO hi) rfl optN ?_
 refine mv ?_
 first | refine ARun.nilPe rfl rfl rfl rfl (ep rfl) optN ?_ | refine ARun.nilFn rfl rfl rfl rfl (ep rfl) optN ?_ | refine ARun.nilBox rfl rfl rfl rfl (ep rfl) (atO hi) optN ?_
 refine ARun.fieldBox (fo := 1) rfl rfl rfl rfl U182 rfl rfl sz3 (by decide) (ep rfl) (atO hi) optN ?_
 refine ARun.loadBox rfl rfl rfl rfl U3 rfl (ep rfl) (atO hi) rfl optN ?_
 refine mv ?_
 refine ARun.call rfl rfl rfl rfl cf119 (ep rfl) (.cons (ep rfl) (.cons (ep rfl) (.cons (ep rfl) .nil))) rfl (fun hg => unrowN_fn r.s r.at_ most h.2.2) optN ?_
 refine mv ?_
 refine ρ4 ?_
 refine ρ4 ?_
 refine ρ4 ?_
 refine ma ?_
 refine ma ?_
 refine ma ?_
 refine ⟨by kernel_rfl, _, _, rfl, hG, ?_⟩
 refine thenA_n (AWP.seq ?_)
 refine sr fun _ => ?_
 refine mv ?_
 refine mv ?_
 refine mv ?_
 refine ARun.callO hi hG rfl rfl rfl rfl cf118 (ep rfl) (.cons (ep rfl) (.cons (ep rfl) (.cons (ep rfl) (.cons (ep rfl) .nil)))) rfl (done_fn r tRow (unrowN (bl r.s) r.at_ most).2.1 (unrowN (bl r.s) r.at_ most).2.2 _ _ (atO hi)) (by first | exact noH_aRd _ _ | (simp; done) | (simp [cAV]; done)) optN (fun hG => ?_)
 refine ARun.not rfl rfl rfl rfl (ep rfl) optN ?_
 refine ez ?_
 refine ρq (fun h1 => ?_) (fun h1 => ?_)
 · simp at h1
   refine sr fun _ => ?_
   refine mz ?_
   refine AWP.ret (thenA_r ?_)
   refine endF.toG (congrArg (fun c => H.set i (AO.box c)) (by rw [hde])) ?_
   refine endF.one (.inr rfl) rfl (.tmp rfl) ?_ (by rw [List.length_set]; exact hN)
   rw [hde, unrow_bad h1]; rfl
 simp at h1
 refine AWP.skip (thenA_n (sr fun _ => ?_))
 refine mv ?_
 refine mz ?_
 refine AWP.ret ?_
 refine endF.toG (congrArg (fun c => H.set i (AO.box c)) (by rw [hde])) ?_
 refine endF.one (.inr rfl) rfl (.tmp rfl) ?_ (by rw [List.length_set]; exact hN)
 rw [hde]
theorem end_r (r : RdS) (h : r.ok) : FnM Tryz.prog 77 (fun i => [.box i 0]) (aRd r) (.tup []) (aRd (rdEnd r)) := by
 refine FnM.of Tryz.func77 rfl rfl (fun i => by simp) (fun H i m hHm hi hG => ?_)
 have hN : NoH H.length (.tup []) := (by simp [AV.cells, aIn, aOut])
 refine AWP.seq ?_
 refine AWP.draw mixed (by kernel_rfl) (fun _ => ?_)
 refine mv ?_
 refine ARun.callR rfl rfl rfl rfl cf116 (ep rfl) (.cons (ep rfl) .nil) rfl (fun hg => FnM.keep (goes_fn r) (atO hi)) optN ?_
 refine mv ?_
 refine ρi ?_
 first | refine ARun.nilPe rfl rfl rfl rfl (Ev.opt rfl (fun h => h)) optS ?_ | refine ARun.nilFn rfl rfl rfl rfl (Ev.opt rfl (fun h => h)) optS ?_ | refine ARun.nilBox rfl rfl rfl rfl (Ev.opt rfl (fun h => h)) (atO hi) optS ?_
 refine ARun.fieldBox (fo := 1) rfl rfl rfl rfl U182 rfl rfl sz3 (by decide) (Ev.opt rfl (fun h => h)) (atO hi) optS ?_
 refine ARun.loadBox rfl rfl rfl rfl U3 rfl (Ev.opt rfl (fun h => h)) (atO hi) rfl optS ?_
 refine ρi ?_
 first | refine ARun.nilPe rfl rfl rfl rfl (Ev.opt rfl (fun h => h)) optS ?_ | refine ARun.nilFn rfl rfl rfl rfl (Ev.opt rfl (fun h => h)) optS ?_ | refine ARun.nilBox rfl rfl rfl rfl (Ev.opt rfl (fun h => h)) (atO hi) optS ?_
 refine ARun.fieldBox (fo := 0) rfl rfl rfl rfl U182 rfl rfl sz9 (by decide) (Ev.opt rfl (fun h => h)) (atO hi) optS ?_
 refine ARun.loadBox rfl rfl rfl rfl U9 rfl (Ev.opt rfl (fun h => h)) (atO hi) rfl optS ?_
 refine ARun.lenStr rfl rfl rfl rfl U9 (Ev.opt rfl (fun h => h)) optS ?_
 refine ρw ?_
 refine ρ0 ?_
 refine ⟨by kernel_rfl, _, _, rfl, hG, ?_⟩
 refine thenA_n ?_
 refine ρq (fun h0 => ?_) (fun h0 => ?_)
 · simp at h0
   refine AWP.region (fun _ => ?_)
   refine mv ?_
   refine ARun.callO hi hG rfl rfl rfl rfl cf118 (ep rfl) (.cons (ep rfl) (.cons (ep rfl) (.cons (ep rfl) (.cons (ep rfl) .nil)))) rfl (done_fn r tEnd 0 6 _ _ (atO hi)) (by first | exact noH_aRd _ _ | (simp; done) | (simp [cAV]; done)) optN (fun hG => ?_)
   refine ⟨_, _, rfl, hG, ?_⟩
   refine endF.toG (congrArg (fun c => H.set i (AO.box c)) (by rw [rdEnd, if_pos h0])) ?_
   refine endF.many (.inl rfl) (rs := []) rfl .nil (by simp) ?_ (by rw [List.length_set]; exact hN)
   rfl
 simp at h0
 refine AWP.skip ?_
 refine endF.toG (congrArg (fun c => H.set i (AO.box c)) (by rw [rdEnd, if_neg (by omega)])) ?_
 refine endF.many (.inl rfl) (rs := []) rfl .nil (by simp) ?_ (by rw [List.length_set]; exact hN)
 rfl
theorem rdone_fn (r : RdS) : FnM Tryz.prog 78 (fun i => [.box i 0]) (aRd r) (aEr (errOf tRead r.p r.e)) (aRd r) := by
 refine FnM.of Tryz.func78 rfl rfl (fun i => by simp) (fun H i m hHm hi hG => ?_)
 have hN : NoH H.length (aEr (errOf tRead r.p r.e)) := (by simp [AV.cells, aIn, aOut])
 refine sr fun _ => ?_
 refine mz ?_
 refine AWP.seq (sr fun _ => ?_)
 refine mv ?_
 refine ARun.isNilBox rfl rfl rfl rfl U132 (ep rfl) (atO hi) (.inl ⟨rfl, rfl⟩) optN ?_
 refine mv ?_
 refine ρi ?_
 first | refine ARun.nilPe rfl rfl rfl rfl (Ev.opt rfl (fun h => h)) optS ?_ | refine ARun.nilFn rfl rfl rfl rfl (Ev.opt rfl (fun h => h)) optS ?_ | refine ARun.nilBox rfl rfl rfl rfl (Ev.opt rfl (fun h => h)) (atO hi) optS ?_
 refine ARun.fieldBox (fo := 3) rfl rfl rfl rfl U182 rfl rfl sz4 (by decide) (Ev.opt rfl (fun h => h)) (atO hi) optS ?_
 refine ARun.loadBox rfl rfl rfl rfl U4 rfl (Ev.opt rfl (fun h => h)) (atO hi) rfl optS ?_
 refine ARun.not rfl rfl rfl rfl (Ev.opt rfl (fun h => h)) optS ?_
 refine ρ8 ?_
 refine ez ?_
 refine ρq (fun h0 => ?_) (fun h0 => ?_)
 · simp at h0
 refine AWP.skip (thenA_n (sr fun _ => ?_))
 refine mv ?_
 first | refine ARun.nilPe rfl rfl rfl rfl (ep rfl) optN ?_ | refine ARun.nilFn rfl rfl rfl rfl (ep rfl) optN ?_ | refine ARun.nilBox rfl rfl rfl rfl (ep rfl) (atO hi) optN ?_
 refine ARun.fieldBox (fo := 2) rfl rfl rfl rfl U182 rfl rfl sz96 (by decide) (ep rfl) (atO hi) optN ?_
 refine ARun.loadBox rfl rfl rfl rfl U96 rfl (ep rfl) (atO hi) rfl optN ?_
 refine mz ?_
 refine AWP.ret ?_
 refine endF.toG (congrArg (fun c => H.set i (AO.box c)) rfl) ?_
 refine endF.one (.inr rfl) rfl (.tmp rfl) ?_ (by rw [List.length_set]; exact hN)
 rfl
theorem fit_one {n : Int} (h : -9223372036854775808 ≤ n ∧ n ≤ 9223372036854775807) : ∀ x, x ∈ [n] → -9223372036854775808 ≤ x ∧ x ≤ 9223372036854775807 := by
 intro x hx; simp at hx; subst hx; exact h
end Go.Proofs.YtcndnllmlhhjiaaGreatDoor
namespace Go.Proofs.YtcndnllmlhhjiaaGreatDoor
open Go.ChangeShapes Go.WideShapes Go.ChangeAt Go.RowKit
theorem flat_len {α : Type} (enc : α → List Value) (sz : Nat) (hz : ∀ x, (enc x).length = sz) (xs : List α) : (xs.flatMap enc).length = xs.length * sz := by
 induction xs with
 | nil => simp
 | cons x xs ih => rw [List.flatMap_cons, List.length_append, ih, hz, List.length_cons, Nat.add_mul]; omega
theorem Reads.flat {α : Type} {enc : α → List Value} {sz : Nat} (hsz : 0 < sz) (hz : ∀ x, (enc x).length = sz) {w : World} {ad : Addr} {xs : List α} (h : Reads enc sz w (some ad) xs) :
   ∀ j u, (xs.flatMap enc)[j]? = some u → ad.block < w.heap.size ∧ w.cell? (ad.add j) = some u := by
 intro j u hu
 have hj : j < xs.length * sz := by
   have := (List.getElem?_eq_some_iff.1 hu).1
   rwa [flat_len enc sz hz] at this
 have hi : j / sz < xs.length := (Nat.div_lt_iff_lt_mul hsz).2 hj
 obtain ⟨b, off, ha, hb, hc⟩ := h (j / sz) hi
 simp only [Option.some.injEq] at ha
 subst ha
 have hr := hc (j % sz) (Nat.mod_lt _ hsz)
 rw [← flat_get enc sz hz xs (j / sz) hi (j % sz) (Nat.mod_lt _ hsz)] at hr
 have e : j / sz * sz + j % sz = j := by rw [Nat.mul_comm]; exact Nat.div_add_mod j sz
 rw [Nat.add_assoc, e] at hr
 exact ⟨hb, by rw [addr_add]; exact hr.trans hu⟩
end Go.Proofs.YtcndnllmlhhjiaaGreatDoor
namespace Go.Proofs.YtcndnllmlhhjiaaGreatDoor
open Go.RowKit Go.WideShapes
inductive AllRep (β : List Hd) (w : World) : List Value → List AV → Prop where
 | nil : AllRep β w [] []
 | cons {v : Value} {x : AV} {vs : List Value} {xs : List AV} (h : VRep β w v x) (t : AllRep β w vs xs) : AllRep β w (v :: vs) (x :: xs)
theorem AllRep.reps {β : List Hd} {w : World} : ∀ {vs : List Value} {xs : List AV}, AllRep β w vs xs → VReps β w vs.toArray xs := by
 intro vs
 induction vs with
 | nil => intro xs h; cases h; exact ⟨rfl, fun j u x h => by simp at h⟩
 | cons v vs ih =>
   intro xs h
   cases h with
   | cons h t =>
     obtain ⟨h1, h2⟩ := ih t
     refine ⟨by simpa using h1, fun j u x k1 k2 => ?_⟩
     cases j with
     | zero => simp at k1 k2; subst k1 k2; exact h
     | succ j => exact h2 j u x (by simpa using k1) (by simpa using k2)
theorem law_of_fn {P : Program} {F : FuncId} {args : List AV} (h : FnP P F args (.bool true)) {w : World} (hg : GOk [] w) {vs : List Value} (hv : AllRep [] w vs args) : Calls P F vs.toArray w fun e w' => e = .returned (.bool true) ∧ Below w.heap.size w w' := by
 refine (pure_call h (HRel.nil w hg) hv.reps).mono ?_
 rintro e w' ⟨v, rfl, hb, hr⟩
 obtain rfl := hr.bool_inv
 exact ⟨rfl, hb⟩
end Go.Proofs.YtcndnllmlhhjiaaGreatDoor
namespace Go.Proofs.YtcndnllmlhhjiaaGreatDoor
open Go.RowKit
theorem VRep.owned {α : Type} {enc : α → List Value} {av : α → AV} {z : Nat} (hz : ∀ x, (enc x).length = z) (hc : ∀ x, (av x).cells = (enc x).map cAV) {β : List Hd} {w : World} {B : Nat} {e : TypeId} {v : Value} {xs : List α} (h : w.ownsRow B e z v xs.length (xs.flatMap enc)) (hβ : ∀ y, y ∈ β → ∀ b, b ∈ y.blks → b < B) : VRep β w v (.sl (xs.map av)) := by
 obtain ⟨a, cap, rfl, h1, h2, hr⟩ := Reads.of_owns hz rfl h
 cases a with
 | none =>
   rcases h.2 with ⟨e1, e2⟩ | ⟨g, cap', cur, e1, _⟩
   · have : xs = [] := List.length_eq_zero_iff.1 e2
     subst this
     cases e1; exact .slnil
   · cases e1
 | some x =>
   obtain ⟨b, off, sp⟩ := x
   rcases h.2 with ⟨e1, _⟩ | ⟨g, cap', cur, e1, hB, hg, _⟩
   · cases e1
   · cases e1
     have hget : ∀ (i j : Nat) (x y : AV), (xs.map av)[i]? = some x → x.cells[j]? = some y → ∃ u, w.cell? ⟨b, 0 + i * z + j, none⟩ = some u ∧ y = cAV u := by
       intro i j x y h3 h4
       rw [List.getElem?_map, Option.map_eq_some_iff] at h3
       obtain ⟨x', h3, rfl⟩ := h3
       obtain ⟨hi, rfl⟩ := List.getElem?_eq_some_iff.1 h3
       rw [hc, List.getElem?_map, Option.map_eq_some_iff] at h4
       obtain ⟨u, h4, rfl⟩ := h4
       obtain ⟨hj, h5⟩ := List.getElem?_eq_some_iff.1 h4
       obtain ⟨b', off', e1, e2, e3⟩ := hr i hi
       cases e1
       exact ⟨u, by rw [e3 j (by rw [← hz]; exact hj)]; exact h4, rfl⟩
     have h := VRep.sl (β := β) (w := w) b 0 cap z (xs.map av) (by simpa using h1) h2 (Array.getElem?_eq_some_iff.1 hg).1 (fun y hy hm => by have := hβ y hy _ hm; omega) (fun x hx => by
         obtain ⟨y, _, rfl⟩ := List.mem_map.1 hx
         rw [hc, List.length_map, hz])
       (fun i j x y h3 h4 => by obtain ⟨u, h5, _⟩ := hget i j x y h3 h4; exact ⟨u, h5⟩)
       (fun i j x y u h3 h4 h5 => by
         obtain ⟨u', h6, rfl⟩ := hget i j x y h3 h4
         rw [h5] at h6; cases h6; exact cAV_rep _ _ _)
     rw [List.length_map] at h
     exact h
theorem cAV_noH (m : Nat) (v : Value) : NoH m (cAV v) := by
 unfold cAV; split <;> first | exact .int _ _ | exact .bool _ | exact .str _ | exact .raw _ | exact .sl _ (fun x hx => by cases hx)
theorem FnP.of_owns {α : Type} (enc : α → List Value) (av : α → AV) (z : Nat) (hz : ∀ x, (enc x).length = z) (hc : ∀ x, (av x).cells = (enc x).map cAV) (hp : ∀ x u, u ∈ enc x → plainV u = true) {P : Program} {F : FuncId} {e : TypeId} (xs : List α)
   (h : ∀ (w : World) (a : Option Addr) (cap : Nat), Reads enc z w a xs → xs.length ≤ cap → cap ≤ maxLen → (a = none → cap = 0) → Calls P F #[.slice a xs.length cap] w fun e' w' => ∃ v, e' = .returned v ∧ w'.ownsRow w.heap.size e z v xs.length (xs.flatMap enc) ∧ Below w.heap.size w w') :
   FnP P F [.sl (xs.map av)] (.sl (xs.map av)) := by
 refine ⟨.sl _ fun x hx y hy => ?_, fun k w β vs hH hv => ?_⟩
 · obtain ⟨x', _, rfl⟩ := List.mem_map.1 hx
   rw [hc] at hy
   obtain ⟨u, _, rfl⟩ := List.mem_map.1 hy
   exact cAV_noH _ _
 · obtain ⟨v0, rfl, h0⟩ := VReps.single hv
   obtain ⟨a, cap, rfl, h1, h2, h3, h4⟩ := sl_reads hz hc hp h0
   refine (h w a cap h4 h1 h2 h3).mono ?_
   rintro e' w' ⟨v, rfl, ho, hb⟩
   exact ⟨v, β, rfl, Ext.of_below β hb, hH.below hb, VRep.owned hz hc ho (fun y hy b hm => by
     obtain ⟨j, hj, rfl⟩ := List.mem_iff_getElem.1 hy
     exact hH.lt (List.getElem?_eq_getElem hj) hm)⟩
end Go.Proofs.YtcndnllmlhhjiaaGreatDoor
namespace Go.Proofs.YtcndnllmlhhjiaaGreatDoor
open Go.ChangeShapes Go.WideShapes Go.ChangeAt Go.RowKit
theorem infoIC : (Tryz.prog.info? 3).map (fun i => (i.zero, i.size, i.bytes)) = some (some (.int .i64 0), 1, 8) := by kernel_rfl
theorem cloneI_any (a : Option Addr) (cap : Nat) (xs : List Int) (w : World) (hr : Reads encI 1 w a xs) (hl : xs.length ≤ 1000000) :
   Calls Tryz.prog 73 #[.slice a xs.length cap] w fun e w' => ∃ v, e = .returned v ∧ w'.ownsRow w.heap.size 3 1 v xs.length (xs.flatMap encI) ∧ Below w.heap.size w w' := by
 cases a with
 | none =>
   have hx : xs = [] := by
     cases xs with
     | nil => rfl
     | cons x xs => obtain ⟨b, off, h, _⟩ := hr 0 (by simp); cases h
   subst hx
   have hnil := Lib.run_eql_slice_nil (P := Tryz.prog) w 40 3 none 0 cap 0 0 U40
   have HP := Lib.hid (World.ownsRow_nil w w.heap.size 3 1)
   go_enter Tryz.func73, Tryz.ntmps73
   go_wp2_with fail
   go_ret
   exact ⟨_, rfl, HP.out, Below.refl _ _⟩
 | some ad =>
   obtain ⟨i0, hi, hz0, hz1, hz2⟩ := info_parts infoIC
   have hnil := Lib.run_eql_slice_nil (P := Tryz.prog) w 40 3 (some ad) xs.length cap 0 0 U40
   have HR := Lib.hid hr
   clear hr
   go_enter Tryz.func73, Tryz.ntmps73
   have hfl := HR.out.flat (by omega) encI_len
   have HFL := Lib.hid hfl
   clear hfl
   go_wp2_with (at_builtin; refine wpList_append_own _ rfl _ _ 40 rfl w.heap.size 3 i0 (.int .i64 0) 1 8 U40 hi hz0 hz1 hz2 rfl (by decide) _ _ _ rfl (World.ownsRow_made w #[] 0 (Nat.le_refl _) (by unfold maxLen; omega) rfl) ad xs.length cap (xs.flatMap encI) rfl ?c0 ?c1 ?c2 ?c3 ?c4 ?c5 ?_)
   case c0 => rw [flat_len encI 1 encI_len]
   case c1 =>
     intro j u hu
     obtain ⟨h1, h2⟩ := HFL.out j u hu
     have h3 : (ad.add j).block = ad.block := by unfold Addr.add; split <;> rfl
     rw [World.cell?_alloc_lt _ _ _ (by rw [h3]; exact h1)]
     exact h2
   case c2 =>
     intro u hu
     obtain ⟨x, _, hx⟩ := List.mem_flatMap.1 hu
     simp [encI] at hx
     subst hx; rfl
   case c3 => unfold maxLen; omega
   case c4 => omega
   case c5 => simp
   intro v' w2 hown' hgrow _
   have hbel : Below w.heap.size w w2 := ((Below.refl _ _).alloc (Nat.le_refl _) _).grown hgrow (by simp) (fun k hk => by simp [Value.ownBlock] at hk; omega)
   have HO := Lib.hid hown'
   clear hown' hgrow
   go_wp2_with fail
   go_ret
   exact ⟨_, rfl, HO.out, hbel⟩
theorem cloneI_fn (xs : List Int) (hl : xs.length ≤ 1000000) : FnP Tryz.prog 73 [.sl (xs.map (AV.int .i64))] (.sl (xs.map (AV.int .i64))) :=
 FnP.of_owns encI (AV.int .i64) 1 encI_len (fun _ => rfl) (fun x u hu => by simp [encI] at hu; subst hu; rfl) xs (fun w a cap hr h1 h2 h3 => cloneI_any a cap xs w hr hl)
end Go.Proofs.YtcndnllmlhhjiaaGreatDoor
namespace Go.Proofs.YtcndnllmlhhjiaaGreatDoor
open Go.RowKit
open NumP
def aLn (s : Ln) : AV := .agg [.int .i64 s.item, .int .i64 s.qty]
def aCl (c : Cl) : AV := .agg [.int .i64 c.client, .int .i64 c.seq, .int .i64 c.kind, .int .i64 c.item, .int .i64 c.to_, .int .i64 c.qty, .sl (c.lines.map aLn)]
def aRp (r : Rp) : AV := .agg [.int .i64 r.code, .sl (r.nums.map (AV.int .i64))]
theorem okAt_not (l : List Ln) (k : Nat) : (!numbP (l.getD k default).item || decide ((l.getD k default).item ≤ lastAt l k) || !someP (l.getD k default).qty) = !okAt l k := by
 cases h : numbP (l.getD k default).item with
 | false => unfold okAt; rw [h]; rfl
 | true =>
   unfold okAt
   rw [okAt_iff l k h, h]
   by_cases h2 : lastAt l k < (l.getD k default).item
   · rw [decide_eq_true h2, decide_eq_false (by omega)]; simp
   rw [decide_eq_false h2, decide_eq_true (by omega)]; simp
theorem new_none (p : ByteArray) (e : Int) : (Er.new p e).isNone = decide (e = 0) := by unfold Er.new; split <;> simp_all [Er.isNone]
theorem wrap_none (p : ByteArray) (e : Er) : (Er.wrap p e).isNone = e.isNone := by unfold Er.wrap; split <;> simp_all [Er.isNone]
theorem any_neg (l : List Int) : (l.any fun n => decide (n < 0)) = !nneg l := by
 induction l with
 | nil => rfl
 | cons x l ih => simp only [List.any_cons, nneg, List.all_cons] at ih ⊢; rw [ih]; by_cases h : x < 0 <;> simp [h] <;> omega
theorem pair_snoc (l : List Int) (k : Nat) (h : 2 * k + 1 < l.length) : (pairsL (l.take (2 * k))).map aLn ++ [AV.agg [AV.int .i64 (l.getD (2 * k) default), AV.int .i64 (l.getD (2 * k + 1) default)]] = (pairsL (l.take (2 * (k + 1)))).map aLn := by rw [pairsL_take l k h]; simp [aLn]
theorem pairsL_len : ∀ l : List Int, (pairsL l).length ≤ l.length
 | [] => Nat.le_refl _
 | [_] => by simp [pairsL]
 | a :: b :: r => by have := pairsL_len r; simp [pairsL]; omega
theorem last_succ (l : List Ln) (k : Nat) : lastAt l (k + 1) = (l.getD k default).item := by simp [lastAt]
theorem number_fn (n : Int) : FnP Tryz.prog 120 [.int .i64 n] (.bool (numbP n)) := by
 refine FnP.of Tryz.func120 rfl rfl (by simp) (by simp [AV.cells, aIn, aOut, aLn, aCl, aRp]) (fun G hG => ?_)
 have hN : NoH G.length (.bool (numbP n)) := (by simp [AV.cells, aIn, aOut, aLn, aCl, aRp])
 refine sr fun _ => ?_
 refine mz (sr fun _ => ?_)
 refine mv ?_
 refine ρ1 ?_
 refine mv ?_
 refine ρi ?_
 refine ρf ?_
 refine ρ0 ?_
 refine mz ?_
 refine AWP.ret ?_
 refine ρc ?_
 rfl
theorem some_fn (n : Int) : FnP Tryz.prog 145 [.int .i64 n] (.bool (someP n)) := by
 refine FnP.of Tryz.func145 rfl rfl (by simp) (by simp [AV.cells, aIn, aOut, aLn, aCl, aRp]) (fun G hG => ?_)
 have hN : NoH G.length (.bool (someP n)) := (by simp [AV.cells, aIn, aOut, aLn, aCl, aRp])
 refine sr fun _ => ?_
 refine mz (sr fun _ => ?_)
 refine mv ?_
 refine ρ1 ?_
 refine mv ?_
 refine ρi ?_
 refine ρf ?_
 refine ρ0 ?_
 refine mz ?_
 refine AWP.ret ?_
 refine ρc ?_
 rfl
theorem lines_fn (l : List Ln) (hl : l.length ≤ 100000) : FnP Tryz.prog 146 [.sl (l.map aLn)] (.bool (linesP l)) := by
 refine FnP.of Tryz.func146 rfl rfl (by simp) (by simp [AV.cells, aIn, aOut, aLn, aCl, aRp]) (fun G hG => ?_)
 have hN : NoH G.length (.bool (linesP l)) := (by simp [AV.cells, aIn, aOut, aLn, aCl, aRp])
 refine sr fun _ => ?_
 refine mz (sr fun _ => ?_)
 refine mz ?_
 refine AWP.seq (sr fun _ => ?_)
 refine mv ?_
 refine ρr U82 ?_
 refine mv ?_
 refine ez ?_
 refine AWP.block ?_
 refine AWP.rounds (fun k => k ≤ l.length ∧ ∀ j, j < k → okAt l j = true) (fun k => [(0, .sl (l.map aLn)), (3, .int .i64 (lastAt l k)), (6, .sl (l.map aLn)), (7, .int .i64 ((l.map aLn).length : Int)), (8, .int .i64 (k : Int))]) (fun k => []) (fun k => l.length - k) 0 0 ⟨by omega, fun j h => by omega⟩ (by repeat (first | exact .nil | refine .cons rfl ?_)) rfl (fun _ => rfl) (fun _ => ⟨by simp [AV.cells, aLn], by simp⟩) (fun k hI => ?_)
 obtain ⟨hk, hno⟩ := hI
 refine sr fun _ => ?_
 refine ρ1 ?_
 refine ez ?_
 refine AWP.seq ?_
 refine ρq (fun h0 => ?_) (fun h0 => ?_)
 · try simp [-List.getD_eq_getElem?_getD] at h0
   refine AWP.skip (thenA_n ?_)
   refine AWP.seq (AWP.block (sr fun _ => ?_))
   first | refine ρ9 U82 sz127 ?_ | refine ρ3 U82 sz127 ?_
   refine ρk U127 sz127 ?_
   refine ρp (j := 0) zv127 ?_
   refine ρ2 sz127 ?_
   refine ez ?_
   refine AWP.seq (sr fun _ => ?_)
   refine ρa (fo := 0) U127 sz3 ?_
   refine ρd U3 ?_
   refine ρj cf120 (fun hg => number_fn (l.getD k default).item) ?_
   refine ARun.not rfl rfl rfl rfl (ep rfl) optN ?_
   refine mv ?_
   refine ρt (fo := 0) U127 sz3 ?_
   refine ρs U3 ?_
   refine ρi ?_
   refine ρw ?_
   refine ρ8 ?_
   refine mv ?_
   refine ρt (fo := 1) U127 sz3 ?_
   refine ρs U3 ?_
   refine ρn cf145 (fun hg => some_fn (l.getD k default).qty) ?_
   refine ARun.not rfl rfl rfl rfl (Ev.opt rfl (fun h => h)) optS ?_
   refine ρ8 ?_
   refine ez ?_
   refine ρq (fun h1 => ?_) (fun h1 => ?_)
   · rw [show (!numbP (l.getD k default).item || decide ((l.getD k default).item ≤ lastAt l k) || !someP (l.getD k default).qty) = !okAt l k from okAt_not l k] at h1
     simp only [Bool.not_eq_true'] at h1
     refine sr fun _ => ?_
     refine mz ?_
     refine AWP.ret (thenA_r ?_)
     refine blockA_r (thenA_r ?_)
     refine thenA_r (blockA_r (thenA_r ?_))
     refine ρc ?_
     rw [linesP_no (by omega) h1]; rfl
   rw [show (!numbP (l.getD k default).item || decide ((l.getD k default).item ≤ lastAt l k) || !someP (l.getD k default).qty) = !okAt l k from okAt_not l k] at h1
   simp only [Bool.not_eq_false'] at h1
   refine AWP.skip (thenA_n ?_)
   refine AWP.region (fun _ => ?_)
   refine ρa (fo := 0) U127 sz3 ?_
   refine ρd U3 ?_
   refine ma ?_
   refine ⟨_, _, rfl, hG, ?_⟩
   refine blockA_n (thenA_n ?_)
   refine AWP.region (fun _ => ?_)
   first | refine ρ7 ?_ | refine ρg ?_
   refine mv ?_
   refine ⟨_, _, rfl, hG, ?_⟩
   refine thenA_n ⟨rfl, k + 1, _, ?_, ?_, rfl, ?_⟩
   · refine ⟨by omega, fun j hj => ?_⟩
     by_cases e : j = k
     · subst e; exact h1
     exact hno j (by omega)
   · rw [last_succ]
     repeat (first | exact .nil | refine .cons rfl ?_)
   omega
 try simp [-List.getD_eq_getElem?_getD] at h0
 refine AWP.exit ?_
 refine thenA_x ?_
 refine thenA_x ?_
 refine blockA_h ?_
 refine thenA_n (sr fun _ => ?_)
 refine mv ?_
 refine ρr U82 ?_
 refine ρ1 ?_
 refine mv ?_
 refine ρi ?_
 refine ARun.lenSl rfl rfl rfl rfl U82 (Ev.opt rfl (fun h => h)) optS ?_
 refine ρf ?_
 refine ρ0 ?_
 refine mz ?_
 refine AWP.ret ?_
 refine ρc ?_
 rw [linesP_yes (fun j hj => hno j (by omega))]; first | (simp; done) | (simp; congr 1; exact decide_eq_decide.2 (by omega))
theorem bare_fn (c : Cl) : FnP Tryz.prog 144 [aCl c] (.bool (bareP c)) := by
 refine FnP.of Tryz.func144 rfl rfl (by simp) (by simp [AV.cells, aIn, aOut, aLn, aCl, aRp]) (fun G hG => ?_)
 have hN : NoH G.length (.bool (bareP c)) := (by simp [AV.cells, aIn, aOut, aLn, aCl, aRp])
 refine sr fun _ => ?_
 refine ρv ?_
 refine mz (sr fun _ => ?_)
 refine ρ6 U84 sz3 ?_
 refine ρ5 U3 ?_
 refine ρ1 ?_
 refine mv ?_
 refine ρe U84 sz82 ?_
 refine ρb U82 ?_
 refine ARun.lenSl rfl rfl rfl rfl U82 (Ev.opt rfl (fun h => h)) optS ?_
 refine ρf ?_
 refine ρ0 ?_
 refine mv ?_
 refine ρe U84 sz3 ?_
 refine ρb U3 ?_
 refine ρn cf120 (fun hg => number_fn c.item) ?_
 refine ρ0 ?_
 refine mz ?_
 refine AWP.ret ?_
 refine ρc ?_
 simp [bareP]
theorem may_fn (c : Cl) (hl : c.lines.length ≤ 100000) : FnP Tryz.prog 121 [aCl c] (.bool (mayP c)) := by
 refine FnP.of Tryz.func121 rfl rfl (by simp) (by simp [AV.cells, aIn, aOut, aLn, aCl, aRp]) (fun G hG => ?_)
 have hN : NoH G.length (.bool (mayP c)) := (by simp [AV.cells, aIn, aOut, aLn, aCl, aRp])
 refine sr fun _ => ?_
 refine ρv ?_
 refine mz ?_
 refine AWP.seq (sr fun _ => ?_)
 refine ρ6 U84 sz3 ?_
 refine ρ5 U3 ?_
 refine ez ?_
 refine AWP.block (sr fun _ => ?_)
 refine ρ1 ?_
 refine mz ?_
 refine ρq (fun h0 => ?_) (fun h0 => ?_)
 · simp at h0
   refine sr fun _ => ?_
   refine ρk U84 sz84 ?_
   refine ρj cf144 (fun hg => bare_fn c) ?_
   refine mv ?_
   refine ρe U84 sz3 ?_
   refine ρb U3 ?_
   refine ρf ?_
   refine ARun.move (.inl rfl) rfl rfl rfl (Ev.opt rfl (fun h => h)) optS ?_
   refine ρe U84 sz3 ?_
   refine ρb U3 ?_
   refine ρn cf145 (fun hg => some_fn c.qty) ?_
   refine ARun.pick rfl rfl rfl rfl (Ev.opt rfl (fun h => h)) (ep rfl) (Ev.opt rfl (by first | exact pkF | exact pkF2 | simp +contextual)) (orB _ _) optS ?_
   refine ρ0 ?_
   refine mz ?_
   refine AWP.ret (blockA_r (thenA_r ?_))
   refine ρc ?_
   (unfold mayP; simp_all)
 simp at h0
 refine AWP.seq (sr fun _ => ?_)
 refine ρ1 ?_
 refine mz ?_
 refine ρq (fun h1 => ?_) (fun h1 => ?_)
 · simp at h1
   refine AWP.skip (thenA_n ?_)
   refine ρq (fun h2 => ?_) (fun h2 => ?_)
   · simp at h2
     refine sr fun _ => ?_
     refine ρk U84 sz84 ?_
     refine ρj cf144 (fun hg => bare_fn c) ?_
     refine mv ?_
     refine ρe U84 sz3 ?_
     refine ρb U3 ?_
     refine ρn cf145 (fun hg => some_fn c.qty) ?_
     refine ρ0 ?_
     refine mz ?_
     refine AWP.ret (blockA_r (thenA_r ?_))
     refine ρc ?_
     (unfold mayP; simp_all)
   simp at h2
   refine sr fun _ => ?_
   refine ρ1 ?_
   refine mz ?_
   refine ρq (fun h3 => ?_) (fun h3 => ?_)
   · simp at h3
     refine sr fun _ => ?_
     refine ρ6 U84 sz3 ?_
     refine ρ5 U3 ?_
     refine ρj cf120 (fun hg => number_fn c.item) ?_
     refine mv ?_
     refine ρe U84 sz3 ?_
     refine ρb U3 ?_
     refine ρn cf120 (fun hg => number_fn c.to_) ?_
     refine ρ0 ?_
     refine mv ?_
     refine ρe U84 sz3 ?_
     refine ρb U3 ?_
     refine ρe U84 sz3 ?_
     refine ρb U3 ?_
     refine ρw ?_
     refine ρ0 ?_
     refine mv ?_
     refine ρe U84 sz3 ?_
     refine ρb U3 ?_
     refine ρn cf145 (fun hg => some_fn c.qty) ?_
     refine ρ0 ?_
     refine mv ?_
     refine ρe U84 sz82 ?_
     refine ρb U82 ?_
     refine ARun.lenSl rfl rfl rfl rfl U82 (Ev.opt rfl (fun h => h)) optS ?_
     refine ρf ?_
     refine ρ0 ?_
     refine mz ?_
     refine AWP.ret (blockA_r (thenA_r ?_))
     refine ρc ?_
     (unfold mayP; simp_all)
   simp at h3
   refine sr fun _ => ?_
   refine ρ1 ?_
   refine mz ?_
   refine ρq (fun h4 => ?_) (fun h4 => ?_)
   · simp at h4
     refine sr fun _ => ?_
     refine ρk U84 sz84 ?_
     refine ρj cf144 (fun hg => bare_fn c) ?_
     refine mv ?_
     refine ρe U84 sz3 ?_
     refine ρb U3 ?_
     refine ρf ?_
     refine ρ0 ?_
     refine mz ?_
     refine AWP.ret (blockA_r (thenA_r ?_))
     refine ρc ?_
     (unfold mayP; simp_all)
   simp at h4
   refine AWP.skip (blockA_n (thenA_n (sr fun _ => ?_)))
   refine ρ6 U84 sz3 ?_
   refine ρ5 U3 ?_
   refine ρ1 ?_
   refine mv ?_
   refine ρe U84 sz3 ?_
   refine ρb U3 ?_
   refine ρf ?_
   refine ρ0 ?_
   refine mv ?_
   refine ρe U84 sz3 ?_
   refine ρb U3 ?_
   refine ρf ?_
   refine ρ0 ?_
   refine mv ?_
   refine ρe U84 sz82 ?_
   refine ρb U82 ?_
   refine ρn cf146 (fun hg => lines_fn c.lines hl) ?_
   refine ρ0 ?_
   refine mz ?_
   refine AWP.ret ?_
   refine ρc ?_
   (unfold mayP; simp_all)
 simp at h1
 refine sr fun _ => ?_
 refine ρ1 ?_
 refine mz ?_
 refine ρq (fun h5 => ?_) (fun h5 => ?_)
 · simp at h5
   refine AWP.skip (thenA_n ?_)
   refine ρq (fun h6 => ?_) (fun h6 => ?_)
   · simp at h6
     refine sr fun _ => ?_
     refine ρk U84 sz84 ?_
     refine ρj cf144 (fun hg => bare_fn c) ?_
     refine mv ?_
     refine ρe U84 sz3 ?_
     refine ρb U3 ?_
     refine ρn cf145 (fun hg => some_fn c.qty) ?_
     refine ρ0 ?_
     refine mz ?_
     refine AWP.ret (blockA_r (thenA_r ?_))
     refine ρc ?_
     (unfold mayP; simp_all)
   simp at h6
   refine sr fun _ => ?_
   refine ρ1 ?_
   refine mz ?_
   refine ρq (fun h7 => ?_) (fun h7 => ?_)
   · simp at h7
     refine sr fun _ => ?_
     refine ρ6 U84 sz3 ?_
     refine ρ5 U3 ?_
     refine ρj cf120 (fun hg => number_fn c.item) ?_
     refine mv ?_
     refine ρe U84 sz3 ?_
     refine ρb U3 ?_
     refine ρn cf120 (fun hg => number_fn c.to_) ?_
     refine ρ0 ?_
     refine mv ?_
     refine ρe U84 sz3 ?_
     refine ρb U3 ?_
     refine ρe U84 sz3 ?_
     refine ρb U3 ?_
     refine ρw ?_
     refine ρ0 ?_
     refine mv ?_
     refine ρe U84 sz3 ?_
     refine ρb U3 ?_
     refine ρn cf145 (fun hg => some_fn c.qty) ?_
     refine ρ0 ?_
     refine mv ?_
     refine ρe U84 sz82 ?_
     refine ρb U82 ?_
     refine ARun.lenSl rfl rfl rfl rfl U82 (Ev.opt rfl (fun h => h)) optS ?_
     refine ρf ?_
     refine ρ0 ?_
     refine mz ?_
     refine AWP.ret (blockA_r (thenA_r ?_))
     refine ρc ?_
     (unfold mayP; simp_all)
   simp at h7
   refine sr fun _ => ?_
   refine ρ1 ?_
   refine mz ?_
   refine ρq (fun h8 => ?_) (fun h8 => ?_)
   · simp at h8
     refine sr fun _ => ?_
     refine ρk U84 sz84 ?_
     refine ρj cf144 (fun hg => bare_fn c) ?_
     refine mv ?_
     refine ρe U84 sz3 ?_
     refine ρb U3 ?_
     refine ρf ?_
     refine ρ0 ?_
     refine mz ?_
     refine AWP.ret (blockA_r (thenA_r ?_))
     refine ρc ?_
     (unfold mayP; simp_all)
   simp at h8
   refine AWP.skip (blockA_n (thenA_n (sr fun _ => ?_)))
   refine ρ6 U84 sz3 ?_
   refine ρ5 U3 ?_
   refine ρ1 ?_
   refine mv ?_
   refine ρe U84 sz3 ?_
   refine ρb U3 ?_
   refine ρf ?_
   refine ρ0 ?_
   refine mv ?_
   refine ρe U84 sz3 ?_
   refine ρb U3 ?_
   refine ρf ?_
   refine ρ0 ?_
   refine mv ?_
   refine ρe U84 sz82 ?_
   refine ρb U82 ?_
   refine ρn cf146 (fun hg => lines_fn c.lines hl) ?_
   refine ρ0 ?_
   refine mz ?_
   refine AWP.ret ?_
   refine ρc ?_
   (unfold mayP; simp_all)
 simp at h5
 refine sr fun _ => ?_
 refine ρ1 ?_
 refine mz ?_
 refine ρq (fun h9 => ?_) (fun h9 => ?_)
 · simp at h9
   refine AWP.skip (thenA_n ?_)
   refine ρq (fun h10 => ?_) (fun h10 => ?_)
   · simp at h10
     refine sr fun _ => ?_
     refine ρk U84 sz84 ?_
     refine ρj cf144 (fun hg => bare_fn c) ?_
     refine mv ?_
     refine ρe U84 sz3 ?_
     refine ρb U3 ?_
     refine ρn cf145 (fun hg => some_fn c.qty) ?_
     refine ρ0 ?_
     refine mz ?_
     refine AWP.ret (blockA_r (thenA_r ?_))
     refine ρc ?_
     (unfold mayP; simp_all)
   simp at h10
   refine sr fun _ => ?_
   refine ρ1 ?_
   refine mz ?_
   refine ρq (fun h11 => ?_) (fun h11 => ?_)
   · simp at h11
     refine sr fun _ => ?_
     refine ρ6 U84 sz3 ?_
     refine ρ5 U3 ?_
     refine ρj cf120 (fun hg => number_fn c.item) ?_
     refine mv ?_
     refine ρe U84 sz3 ?_
     refine ρb U3 ?_
     refine ρn cf120 (fun hg => number_fn c.to_) ?_
     refine ρ0 ?_
     refine mv ?_
     refine ρe U84 sz3 ?_
     refine ρb U3 ?_
     refine ρe U84 sz3 ?_
     refine ρb U3 ?_
     refine ρw ?_
     refine ρ0 ?_
     refine mv ?_
     refine ρe U84 sz3 ?_
     refine ρb U3 ?_
     refine ρn cf145 (fun hg => some_fn c.qty) ?_
     refine ρ0 ?_
     refine mv ?_
     refine ρe U84 sz82 ?_
     refine ρb U82 ?_
     refine ARun.lenSl rfl rfl rfl rfl U82 (Ev.opt rfl (fun h => h)) optS ?_
     refine ρf ?_
     refine ρ0 ?_
     refine mz ?_
     refine AWP.ret (blockA_r (thenA_r ?_))
     refine ρc ?_
     (unfold mayP; simp_all)
   simp at h11
   refine sr fun _ => ?_
   refine ρ1 ?_
   refine mz ?_
   refine ρq (fun h12 => ?_) (fun h12 => ?_)
   · simp at h12
     refine sr fun _ => ?_
     refine ρk U84 sz84 ?_
     refine ρj cf144 (fun hg => bare_fn c) ?_
     refine mv ?_
     refine ρe U84 sz3 ?_
     refine ρb U3 ?_
     refine ρf ?_
     refine ρ0 ?_
     refine mz ?_
     refine AWP.ret (blockA_r (thenA_r ?_))
     refine ρc ?_
     (unfold mayP; simp_all)
   simp at h12
   refine AWP.skip (blockA_n (thenA_n (sr fun _ => ?_)))
   refine ρ6 U84 sz3 ?_
   refine ρ5 U3 ?_
   refine ρ1 ?_
   refine mv ?_
   refine ρe U84 sz3 ?_
   refine ρb U3 ?_
   refine ρf ?_
   refine ρ0 ?_
   refine mv ?_
   refine ρe U84 sz3 ?_
   refine ρb U3 ?_
   refine ρf ?_
   refine ρ0 ?_
   refine mv ?_
   refine ρe U84 sz82 ?_
   refine ρb U82 ?_
   refine ρn cf146 (fun hg => lines_fn c.lines hl) ?_
   refine ρ0 ?_
   refine mz ?_
   refine AWP.ret ?_
   refine ρc ?_
   (unfold mayP; simp_all)
 simp at h9
 refine AWP.region (fun _ => ?_)
 refine ρ1 ?_
 refine mz ?_
 refine ρq (fun h13 => ?_) (fun h13 => ?_)
 · simp at h13
   refine sr fun _ => ?_
   refine ρk U84 sz84 ?_
   refine ρj cf144 (fun hg => bare_fn c) ?_
   refine mv ?_
   refine ρe U84 sz3 ?_
   refine ρb U3 ?_
   refine ρn cf145 (fun hg => some_fn c.qty) ?_
   refine ρ0 ?_
   refine mz ?_
   refine AWP.ret (blockA_r (thenA_r ?_))
   refine ρc ?_
   (unfold mayP; simp_all)
 simp at h13
 refine sr fun _ => ?_
 refine ρ1 ?_
 refine mz ?_
 refine ρq (fun h14 => ?_) (fun h14 => ?_)
 · simp at h14
   refine sr fun _ => ?_
   refine ρ6 U84 sz3 ?_
   refine ρ5 U3 ?_
   refine ρj cf120 (fun hg => number_fn c.item) ?_
   refine mv ?_
   refine ρe U84 sz3 ?_
   refine ρb U3 ?_
   refine ρn cf120 (fun hg => number_fn c.to_) ?_
   refine ρ0 ?_
   refine mv ?_
   refine ρe U84 sz3 ?_
   refine ρb U3 ?_
   refine ρe U84 sz3 ?_
   refine ρb U3 ?_
   refine ρw ?_
   refine ρ0 ?_
   refine mv ?_
   refine ρe U84 sz3 ?_
   refine ρb U3 ?_
   refine ρn cf145 (fun hg => some_fn c.qty) ?_
   refine ρ0 ?_
   refine mv ?_
   refine ρe U84 sz82 ?_
   refine ρb U82 ?_
   refine ARun.lenSl rfl rfl rfl rfl U82 (Ev.opt rfl (fun h => h)) optS ?_
   refine ρf ?_
   refine ρ0 ?_
   refine mz ?_
   refine AWP.ret (blockA_r (thenA_r ?_))
   refine ρc ?_
   (unfold mayP; simp_all)
 simp at h14
 refine sr fun _ => ?_
 refine ρ1 ?_
 refine mz ?_
 refine ρq (fun h15 => ?_) (fun h15 => ?_)
 · simp at h15
   refine sr fun _ => ?_
   refine ρk U84 sz84 ?_
   refine ρj cf144 (fun hg => bare_fn c) ?_
   refine mv ?_
   refine ρe U84 sz3 ?_
   refine ρb U3 ?_
   refine ρf ?_
   refine ρ0 ?_
   refine mz ?_
   refine AWP.ret (blockA_r (thenA_r ?_))
   refine ρc ?_
   (unfold mayP; simp_all)
 simp at h15
 refine AWP.skip (blockA_n (thenA_n (sr fun _ => ?_)))
 refine ρ6 U84 sz3 ?_
 refine ρ5 U3 ?_
 refine ρ1 ?_
 refine mv ?_
 refine ρe U84 sz3 ?_
 refine ρb U3 ?_
 refine ρf ?_
 refine ρ0 ?_
 refine mv ?_
 refine ρe U84 sz3 ?_
 refine ρb U3 ?_
 refine ρf ?_
 refine ρ0 ?_
 refine mv ?_
 refine ρe U84 sz82 ?_
 refine ρb U82 ?_
 refine ρn cf146 (fun hg => lines_fn c.lines hl) ?_
 refine ρ0 ?_
 refine mz ?_
 refine AWP.ret ?_
 refine ρc ?_
 (unfold mayP; simp_all)
theorem check_fn (c : Cl) (hl : c.lines.length ≤ 100000) : FnP Tryz.prog 81 [aCl c] (aEr (Er.new tCall (checkP c))) := by
 refine FnP.of Tryz.func81 rfl rfl (by simp) (by simp [AV.cells, aIn, aOut, aLn, aCl, aRp]) (fun G hG => ?_)
 have hN : NoH G.length (aEr (Er.new tCall (checkP c))) := (by simp [AV.cells, aIn, aOut, aLn, aCl, aRp])
 refine sr fun _ => ?_
 refine ρv ?_
 refine mz ?_
 refine AWP.seq (AWP.block (sr fun _ => ?_))
 refine ρ6 U84 sz3 ?_
 refine ρ5 U3 ?_
 refine ρ1 ?_
 refine mv ?_
 refine ρe U84 sz3 ?_
 refine ρb U3 ?_
 refine ρf ?_
 refine ρ8 ?_
 refine mz ?_
 refine ρq (fun h0 => ?_) (fun h0 => ?_)
 · simp at h0
   refine sr fun _ => ?_
   refine ρm cf80 (fun hg => new_fn tCall 30) ?_
   refine mz ?_
   refine AWP.ret (blockA_r (thenA_r ?_))
   refine ρc ?_
   rw [checkP, if_pos (by omega)]
 simp at h0
 refine sr fun _ => ?_
 refine ρ6 U84 sz3 ?_
 refine ρ5 U3 ?_
 refine ρj cf120 (fun hg => number_fn c.client) ?_
 refine ARun.not rfl rfl rfl rfl (ep rfl) optN ?_
 refine mv ?_
 refine ρe U84 sz3 ?_
 refine ρb U3 ?_
 refine ρn cf120 (fun hg => number_fn c.seq) ?_
 refine ARun.not rfl rfl rfl rfl (Ev.opt rfl (fun h => h)) optS ?_
 refine ρ8 ?_
 refine mv ?_
 refine ARun.loadPeA rfl rfl rfl rfl U84 rfl sz84 (ep rfl) rfl optS ?_
 refine ρn cf121 (fun hg => may_fn c hl) ?_
 refine ARun.not rfl rfl rfl rfl (Ev.opt rfl (fun h => h)) optS ?_
 refine ρ8 ?_
 refine mz ?_
 refine ρq (fun h1 => ?_) (fun h1 => ?_)
 · simp at h1
   refine sr fun _ => ?_
   refine ρm cf80 (fun hg => new_fn tCall 2) ?_
   refine mz ?_
   refine AWP.ret (blockA_r (thenA_r ?_))
   refine ρc ?_
   rw [checkP, if_neg (by omega), if_neg (by simp; intro q1 q2; rcases h1 with (h1 | h1) | h1 <;> simp_all)]
 simp at h1
 refine AWP.skip (blockA_n (thenA_n (sr fun _ => ?_)))
 refine mz ?_
 refine AWP.ret ?_
 refine ρc ?_
 rw [checkP, if_neg (by omega), if_pos (by simp [h1])]; rfl
theorem sameI_fn (a b : List Int) (hl : a.length ≤ 9223372036854775807) : FnP Tryz.prog 16 [.sl (a.map (AV.int .i64)), .sl (b.map (AV.int .i64))] (.bool (decide (a = b))) := by
 refine FnP.of Tryz.func16 rfl rfl (by simp) (by simp [AV.cells, aIn, aOut, aLn, aCl, aRp]) (fun G hG => ?_)
 have hN : NoH G.length (.bool (decide (a = b))) := (by simp [AV.cells, aIn, aOut, aLn, aCl, aRp])
 refine sr fun _ => ?_
 refine mz ?_
 refine AWP.seq (sr fun _ => ?_)
 refine mv ?_
 refine ρr U40 ?_
 refine mv ?_
 refine ρr U40 ?_
 refine ρ1 ?_
 refine ez ?_
 refine ρq (fun h0 => ?_) (fun h0 => ?_)
 · simp [-List.getD_eq_getElem?_getD] at h0
   refine sr fun _ => ?_
   refine mz ?_
   refine AWP.ret (thenA_r ?_)
   refine ρc ?_
   rw [decide_eq_false (fun e => absurd (congrArg List.length e) (by omega))]; rfl
 simp [-List.getD_eq_getElem?_getD] at h0
 refine AWP.skip (thenA_n (AWP.seq (sr fun _ => ?_)))
 refine mz ?_
 refine AWP.block ?_
 refine AWP.rounds (fun k => k ≤ a.length ∧ a.take k = b.take k) (fun k => [(0, .sl (a.map (AV.int .i64))), (1, .sl (b.map (AV.int .i64))), (5, .int .i64 (k : Int))]) (fun k => []) (fun k => a.length - k) 0 0 ⟨by omega, rfl⟩ (by repeat (first | exact .nil | refine .cons rfl ?_)) rfl (fun _ => rfl) (fun _ => ⟨by simp [AV.cells], by simp⟩) (fun k hI => ?_)
 obtain ⟨hk, hs⟩ := hI
 refine AWP.seq (sr fun _ => ?_)
 refine mv ?_
 refine mv ?_
 refine ρr U40 ?_
 refine ρ1 ?_
 refine ez ?_
 refine ρq (fun h1 => ?_) (fun h1 => ?_)
 · simp [-List.getD_eq_getElem?_getD] at h1
   refine AWP.skip (thenA_n ?_)
   refine AWP.seq (AWP.block (AWP.seq ?_))
   refine AWP.draw mixed (by kernel_rfl) (fun _ => ?_)
   refine mv ?_
   refine mv ?_
   first | refine ρ9 U40 sz3 ?_ | refine ρ3 U40 sz3 ?_
   refine ρ5 U3 ?_
   refine mv ?_
   refine mv ?_
   first | refine ρ9 U40 sz3 ?_ | refine ρ3 U40 sz3 ?_
   refine ρ5 U3 ?_
   refine ρ1 ?_
   refine ⟨by kernel_rfl, _, _, rfl, hG, ?_⟩
   refine thenA_n ?_
   refine ρq (fun h2 => ?_) (fun h2 => ?_)
   · simp [-List.getD_eq_getElem?_getD] at h2
     refine sr fun _ => ?_
     refine mz ?_
     refine AWP.ret (blockA_r ?_)
     refine thenA_r (thenA_r ?_)
     refine blockA_r (thenA_r ?_)
     refine ρc ?_
     rw [decide_eq_false (ne_of_get (k := k) h2)]; rfl
   simp [-List.getD_eq_getElem?_getD] at h2
   refine AWP.skip (blockA_n (thenA_n ?_))
   refine AWP.region (fun _ => ?_)
   refine mv ?_
   first | refine ρ7 ?_ | refine ρg ?_
   refine ma ?_
   refine ⟨_, _, rfl, hG, ?_⟩
   refine thenA_n ⟨rfl, k + 1, _, ?_, ?_, rfl, ?_⟩
   · exact ⟨by omega, take_eq_go hs h1 (by omega) h2⟩
   · repeat (first | exact .nil | refine .cons rfl ?_)
   omega
 simp [-List.getD_eq_getElem?_getD] at h1
 refine AWP.exit ?_
 refine thenA_x ?_
 refine thenA_x ?_
 refine blockA_h ?_
 refine thenA_n (sr fun _ => ?_)
 refine mz ?_
 refine AWP.ret ?_
 refine ρc ?_
 rw [decide_eq_true (by rw [List.take_of_length_le h1, List.take_of_length_le (by omega)] at hs; exact hs)]; rfl
theorem told_fn (e : Int) (l : List Int) (hl : l.length ≤ 100000) : FnP Tryz.prog 51 [.int .i64 e, .sl (l.map (AV.int .i64))] (aRp ⟨e, l⟩) := by
 refine FnP.of Tryz.func51 rfl rfl (by simp) (by simp [AV.cells, aIn, aOut, aLn, aCl, aRp]) (fun G hG => ?_)
 have hN : NoH G.length (aRp ⟨e, l⟩) := (by simp [AV.cells, aIn, aOut, aLn, aCl, aRp])
 refine sr fun _ => ?_
 refine ρp (j := 0) zv93 ?_
 refine ez (sr fun _ => ?_)
 refine mv ?_
 refine mv ?_
 refine ARun.call rfl rfl rfl rfl cf73 (ep rfl) (.cons (ep rfl) .nil) rfl (fun hg => cloneI_fn l (by omega)) optN ?_
 refine ARun.build rfl rfl rfl rfl so93 (.cons (ep rfl) (.cons (ep rfl) .nil)) rfl rfl optN ?_
 refine ρ2 sz93 ?_
 refine ez ?_
 refine AWP.ret ?_
 refine endF.one (.inr rfl) rfl (.cellA rfl ((hG.at _ _).trans rfl) U93 rfl sz93 rfl rfl) ?_ hN
 rfl
theorem neg_fn (n : Int) : FnP Tryz.prog 111 [.int .i64 n] (.bool (decide (n < 0))) := by
 refine FnP.of Tryz.func111 rfl rfl (by simp) (by simp [AV.cells, aIn, aOut, aLn, aCl, aRp]) (fun G hG => ?_)
 have hN : NoH G.length (.bool (decide (n < 0))) := (by simp [AV.cells, aIn, aOut, aLn, aCl, aRp])
 refine sr fun _ => ?_
 refine mz (sr fun _ => ?_)
 refine mv ?_
 refine ρ1 ?_
 refine mz ?_
 refine AWP.ret ?_
 refine ρc ?_
 rfl
theorem indexI (F : Nat) (fs cs : List AV) (p : Int → Bool) (l : List Int) (hl : l.length ≤ 9223372036854775807) (hcf : ∀ (vs : Array Value) (W : World), (callFunc F vs).run Tryz.prog W = .ok (.enter F vs) W) (hn : (∀ x, x ∈ fs → NoH 0 x) ∧ ∀ x, x ∈ cs → NoH 0 x) (hp : ∀ x, x ∈ l → FnP Tryz.prog F (fs ++ [(AV.int .i64) x] ++ cs) (.bool (p x))) : FnP Tryz.prog 138 [.sl (l.map (AV.int .i64)), .fn (.func F) fs cs] (.int .i64 (idxOf p l)) := by
 refine FnP.of Tryz.func138 rfl rfl (by simp) (by simp [AV.cells, aIn, aOut, aLn, aCl, aRp]) (fun G hG => ?_)
 have hN : NoH G.length (.int .i64 (idxOf p l)) := (by simp [AV.cells, aIn, aOut, aLn, aCl, aRp])
 refine sr fun _ => ?_
 refine mz ?_
 refine AWP.seq (sr fun _ => ?_)
 refine mv ?_
 refine ρr U40 ?_
 refine mv ?_
 refine ez ?_
 refine AWP.block ?_
 refine AWP.rounds (fun k => k ≤ l.length ∧ ∀ j, j < k → p (l.getD j default) = false) (fun k => [(0, .sl (l.map (AV.int .i64))), (1, .fn (.func F) fs cs), (7, .int .i64 ((l.map (AV.int .i64)).length : Int)), (8, .int .i64 (k : Int))]) (fun k => []) (fun k => l.length - k) 0 0 ⟨by omega, fun j h => by omega⟩ (by repeat (first | exact .nil | refine .cons rfl ?_)) rfl (fun _ => rfl) (fun _ => ⟨by simp [AV.cells, aIn, aOut, aLn, aCl, aRp]; exact ⟨fun x hx => (hn.1 x hx).mono (by omega), fun x hx => (hn.2 x hx).mono (by omega)⟩, by simp⟩) (fun k hI => ?_)
 obtain ⟨hk, hno⟩ := hI
 refine sr fun _ => ?_
 refine ρ1 ?_
 refine ez ?_
 refine AWP.seq ?_
 refine ρq (fun h0 => ?_) (fun h0 => ?_)
 · try simp [-List.getD_eq_getElem?_getD] at h0
   refine AWP.skip (thenA_n ?_)
   refine AWP.seq (AWP.block (sr fun _ => ?_))
   refine mv ?_
   refine mz (sr fun _ => ?_)
   refine mv ?_
   refine mv ?_
   refine mv ?_
   first | refine ρ9 U40 sz3 ?_ | refine ρ3 U40 sz3 ?_
   refine ρ5 U3 ?_
   refine ARun.call rfl rfl rfl rfl hcf (ep rfl) (.cons (ep rfl) .nil) rfl (fun hg => hp _ (by rw [List.getD, List.getElem?_eq_getElem h0]; exact List.getElem_mem h0)) optN ?_
   refine ez ?_
   refine ρq (fun h1 => ?_) (fun h1 => ?_)
   · try simp [-List.getD_eq_getElem?_getD] at h1
     refine sr fun _ => ?_
     refine mv ?_
     refine mz ?_
     refine AWP.ret (blockA_r ?_)
     refine thenA_r (thenA_r ?_)
     refine blockA_r (thenA_r ?_)
     refine ρc ?_
     rw [idx_hit h0 hno h1]
   try simp [-List.getD_eq_getElem?_getD] at h1
   refine AWP.skip (blockA_n (thenA_n ?_))
   refine AWP.region (fun _ => ?_)
   first | refine ρ7 ?_ | refine ρg ?_
   refine mv ?_
   refine ⟨_, _, rfl, hG, ?_⟩
   refine thenA_n ⟨rfl, k + 1, _, ?_, ?_, rfl, ?_⟩
   · refine ⟨by omega, fun j hj => ?_⟩
     by_cases e : j = k
     · subst e; exact h1
     exact hno j (by omega)
   · repeat (first | exact .nil | refine .cons rfl ?_)
   omega
 try simp [-List.getD_eq_getElem?_getD] at h0
 refine AWP.exit ?_
 refine thenA_x ?_
 refine thenA_x ?_
 refine blockA_h ?_
 refine thenA_n (sr fun _ => ?_)
 refine mz ?_
 refine AWP.ret ?_
 refine ρc ?_
 rw [idx_none (fun j hj => hno j (by omega))]; rfl
theorem containsI (F : Nat) (fs cs : List AV) (p : Int → Bool) (l : List Int) (hl : l.length ≤ 9223372036854775807) (hcf : ∀ (vs : Array Value) (W : World), (callFunc F vs).run Tryz.prog W = .ok (.enter F vs) W) (hn : (∀ x, x ∈ fs → NoH 0 x) ∧ ∀ x, x ∈ cs → NoH 0 x) (hp : ∀ x, x ∈ l → FnP Tryz.prog F (fs ++ [(AV.int .i64) x] ++ cs) (.bool (p x))) : FnP Tryz.prog 112 [.sl (l.map (AV.int .i64)), .fn (.func F) fs cs] (.bool (l.any p)) := by
 refine FnP.of Tryz.func112 rfl rfl (by simp) (by simp [AV.cells, aIn, aOut, aLn, aCl, aRp]) (fun G hG => ?_)
 have hN : NoH G.length (.bool (l.any p)) := (by simp [AV.cells, aIn, aOut, aLn, aCl, aRp])
 refine sr fun _ => ?_
 refine mz (sr fun _ => ?_)
 refine mv ?_
 refine mv ?_
 refine ρm cf138 (fun hg => indexI F fs cs p l hl hcf hn hp) ?_
 refine ρ1 ?_
 refine mz ?_
 refine AWP.ret ?_
 refine ρc ?_
 rw [← any_idx]
theorem putR_c (c : Rp) (hl : c.nums.length ≤ 100000) (hf : ∀ x, x ∈ c.nums → -9223372036854775808 ≤ x ∧ x ≤ 9223372036854775807) : FnP Tryz.prog 72 [aRp c] (.tup [.str (putR c), aEr (Er.new tReply (repE c))]) := by
 refine FnP.of Tryz.func72 rfl rfl (by simp) (by simp [AV.cells, aIn, aOut, aLn, aCl, aRp]) (fun G hG => ?_)
 have hN : NoH G.length (.tup [.str (putR c), aEr (Er.new tReply (repE c))]) := (by simp [AV.cells, aIn, aOut, aLn, aCl, aRp])
 refine sr fun _ => ?_
 refine ρv ?_
 refine ma ?_
 refine mz (sr fun _ => ?_)
 refine mz ?_
 refine AWP.seq (sr fun _ => ?_)
 refine ρ6 U93 sz36 ?_
 refine ρ5 U36 ?_
 refine ρ1 ?_
 refine mv ?_
 refine ρe U93 sz36 ?_
 refine ρb U36 ?_
 refine ρf ?_
 refine ρ8 ?_
 refine mv ?_
 refine ρe U93 sz40 ?_
 refine ρb U40 ?_
 refine ARun.lenSl rfl rfl rfl rfl U40 (Ev.opt rfl (fun h => h)) optS ?_
 refine ρf ?_
 refine ρ8 ?_
 refine mv ?_
 refine ρe U93 sz40 ?_
 refine ρb U40 ?_
 refine ρi ?_
 refine ARun.call rfl rfl rfl rfl cf112 (ep rfl) (.cons (Ev.opt rfl (fun h => h)) (.cons (Ev.opt rfl (fun h => h)) .nil)) rfl (fun hg => containsI 111 [] [] (fun n => decide (n < 0)) c.nums (by omega) cf111 (by simp) (fun x _ => neg_fn x)) optS ?_
 refine ρ8 ?_
 refine ez ?_
 refine ρq (fun h0 => ?_) (fun h0 => ?_)
 · rw [any_neg] at h0
   simp at h0
   refine sr fun _ => ?_
   refine ρm cf80 (fun hg => new_fn tReply 2) ?_
   refine ma ?_
   refine mz ?_
   refine AWP.ret (thenA_r ?_)
   refine ρl (rs := [.tmp 2, .tmp 3]) (.cons (.tmp rfl) (.cons (.tmp rfl) .nil)) ?_
   have he : repE c = 2 := by rw [repE, if_pos (by rcases h0 with ((h0 | h0) | h0) | h0 <;> first | exact .inr (.inr (.inr h0)) | omega)]
   rw [putR, if_neg (by omega), he]; rfl
 rw [any_neg] at h0
 simp at h0
 have he : repE c = 0 := by rw [repE, if_neg (by simp [h0]; omega)]
 have hlay := layR_ok he
 have hwl := wrNums_len [c.code] WrS.new
 have hwl3 : WrS.new.s.length = 0 := rfl
 simp only [List.length_cons, List.length_nil] at hwl
 refine AWP.skip (thenA_n (sr fun _ => ?_))
 refine ARun.allocBld (j := 0) (e := 5) hG rfl rfl rfl rfl rfl zv177 rfl rfl rfl optN ?_
 refine ez (sr fun _ => ?_)
 refine ρ6 U93 sz36 ?_
 refine ρ5 U36 ?_
 refine ARun.buildSl rfl rfl rfl rfl U40 sz3 zv3 rfl (by decide) (.cons (ep rfl) .nil) rfl rfl rfl rfl (by decide) rfl rfl optN ?_
 refine ARun.callSet (j := 0) hG rfl rfl rfl rfl cf113 (ep rfl) (.cons (ep rfl) (.cons (ep rfl) .nil)) rfl (nums_w WrS.new [c.code] (by simp) (by simp [WrS.new]) (fit_one (by omega)) _ _ ((hG.at _ _).trans rfl)) rfl optN ?_
 refine ez (sr fun _ => ?_)
 refine ρ6 U93 sz40 ?_
 refine ρ5 U40 ?_
 refine ARun.callSet (j := 0) hG rfl rfl rfl rfl cf114 (ep rfl) (.cons (ep rfl) (.cons (ep rfl) .nil)) rfl (row_w (wrNums WrS.new [c.code]) c.nums (by omega) (by omega) hf _ _ ((hG.at _ _).trans rfl)) rfl optN ?_
 refine ez (sr fun _ => ?_)
 refine ARun.callSet (j := 0) hG rfl rfl rfl rfl cf115 (ep rfl) (.cons (ep rfl) .nil) rfl (done_w (layR c) _ _ ((hG.at _ _).trans rfl)) rfl optN ?_
 refine ρ4 ?_
 refine ρ4 ?_
 refine ma ?_
 refine mz ?_
 refine AWP.ret ?_
 refine ρl (rs := [.tmp 2, .tmp 3]) (.cons (.tmp rfl) (.cons (.tmp rfl) .nil)) ?_
 rw [putR, if_pos he, hlay, he]; rfl
theorem take_c (s : ByteArray) (hs : s.size ≤ 1000000) : FnP Tryz.prog 52 [.str s] (.tup [aCl (takeC s), aEr (takeErr s)]) := by
 have hrl := rdRow_len (sixR s 6) 10
 refine FnP.of Tryz.func52 rfl rfl (by simp) (by simp [AV.cells, aIn, aOut, aLn, aCl, aRp]) (fun G hG => ?_)
 have hN : NoH G.length (.tup [aCl (takeC s), aEr (takeErr s)]) := (by simp [AV.cells, aIn, aOut, aLn, aCl, aRp])
 refine sr fun _ => ?_
 refine ρp (j := 0) zv84 ?_
 refine mz (sr fun _ => ?_)
 refine mv ?_
 refine ARun.callNewB (j := 1) hG rfl rfl rfl rfl rfl cf74 (ep rfl) (.cons (ep rfl) .nil) rfl (newr_fn s) optN ?_
 refine mz (sr fun _ => ?_)
 refine mv ?_
 refine ARun.makeFunc rfl rfl rfl rfl (.cons (ep rfl) .nil) .nil optN ?_
 refine mz (sr fun _ => ?_)
 refine mv ?_
 refine ARun.callSet (j := 1) hG rfl rfl rfl rfl cf75 (ep rfl) (.cons (ep rfl) .nil) rfl (num_r (sixR s 0) 2000000 (sixR_ok hs 0) _ _ ((hG.at _ _).trans rfl)) rfl optN ?_
 refine mv ?_
 refine ARun.callSet (j := 1) hG rfl rfl rfl rfl cf75 (ep rfl) (.cons (ep rfl) .nil) rfl (num_r (sixR s 1) 2000000 (sixR_ok hs 1) _ _ ((hG.at _ _).trans rfl)) rfl optN ?_
 refine mv ?_
 refine ARun.callSet (j := 1) hG rfl rfl rfl rfl cf75 (ep rfl) (.cons (ep rfl) .nil) rfl (num_r (sixR s 2) 2000000 (sixR_ok hs 2) _ _ ((hG.at _ _).trans rfl)) rfl optN ?_
 refine mv ?_
 refine ARun.callSet (j := 1) hG rfl rfl rfl rfl cf75 (ep rfl) (.cons (ep rfl) .nil) rfl (num_r (sixR s 3) 2000000 (sixR_ok hs 3) _ _ ((hG.at _ _).trans rfl)) rfl optN ?_
 refine mv ?_
 refine ARun.callSet (j := 1) hG rfl rfl rfl rfl cf75 (ep rfl) (.cons (ep rfl) .nil) rfl (num_r (sixR s 4) 2000000 (sixR_ok hs 4) _ _ ((hG.at _ _).trans rfl)) rfl optN ?_
 refine mv ?_
 refine ARun.callSet (j := 1) hG rfl rfl rfl rfl cf75 (ep rfl) (.cons (ep rfl) .nil) rfl (num_r (sixR s 5) 2000000 (sixR_ok hs 5) _ _ ((hG.at _ _).trans rfl)) rfl optN ?_
 refine ARun.buildNil (e := 127) (z := 2) (j := 2) (p := 6) hG rfl rfl rfl rfl rfl so84 rfl (.cons (ep rfl) (.cons (ep rfl) (.cons (ep rfl) (.cons (ep rfl) (.cons (ep rfl) (.cons (ep rfl) .nil)))))) rfl rfl optN ?_
 refine ρp (j := 3) zv84 ?_
 refine ρ2 sz84 ?_
 refine ez (sr fun _ => ?_)
 refine mv ?_
 refine ARun.callSet (j := 1) hG rfl rfl rfl rfl cf76 (ep rfl) (.cons (ep rfl) (.cons (ep rfl) .nil)) rfl (row_r (sixR s 6) 10 (sixR_ok hs 6) _ _ ((hG.at _ _).trans rfl)) rfl optN ?_
 refine mz (sr fun _ => ?_)
 refine mv ?_
 refine ARun.callSet (j := 1) hG rfl rfl rfl rfl cf77 (ep rfl) (.cons (ep rfl) .nil) rfl (end_r (rdRow (sixR s 6) 10).1 (rdRow_ok (sixR_ok hs 6) _) _ _ ((hG.at _ _).trans rfl)) rfl optN ?_
 refine ez ?_
 refine AWP.seq (sr fun _ => ?_)
 refine mv ?_
 refine ARun.callR rfl rfl rfl rfl cf78 (ep rfl) (.cons (ep rfl) .nil) rfl (fun hg => FnM.keep (rdone_fn (rdCall s).1) ((hG.at _ _).trans rfl)) optN ?_
 refine mz (sr fun _ => ?_)
 refine mv ?_
 refine ARun.isNil rfl rfl rfl rfl U96 (ep rfl) (fun hg => by first | rfl | exact nilA_aEr _) (.inr ⟨rfl, rfl⟩) optN ?_
 refine ez ?_
 refine ρq (fun h0 => ?_) (fun h0 => ?_)
 · have he : (rdCall s).1.e ≠ 0 := by simpa [errOf_none] using h0
   refine sr fun _ => ?_
   refine ARun.build rfl rfl rfl rfl so84 .nil rfl rfl optN ?_
   refine mv ?_
   refine ρm cf79 (fun hg => wrap_fn tTake (errOf tRead (rdCall s).1.p (rdCall s).1.e)) ?_
   refine ρ2 sz84 ?_
   refine mz ?_
   refine AWP.ret (thenA_r ?_)
   refine ρl (rs := [.cell 2 84, .tmp 3]) (.cons (.cellA rfl ((hG.at _ _).trans rfl) U84 rfl sz84 rfl rfl) (.cons (.tmp rfl) .nil)) ?_
   have ht : takeE s ≠ 0 := by rw [takeE, if_pos he]; exact he
   rw [takeC, if_neg ht, takeErr, if_pos he]; rfl
 have he : (rdCall s).1.e = 0 := by simpa [errOf_none] using h0
 refine AWP.skip (thenA_n (AWP.seq (sr fun _ => ?_)))
 refine mv ?_
 refine ρr U40 ?_
 refine ARun.remI rfl rfl rfl rfl (ep rfl) (ep rfl) (fun _ => by decide) optN ?_
 refine ρ1 ?_
 refine ez ?_
 refine ρq (fun h1 => ?_) (fun h1 => ?_)
 · simp at h1
   have h1p : (((rdRow (sixR s 6) 10).2.length % 2 : Nat) : Int) ≠ 0 := h1
   refine sr fun _ => ?_
   refine ARun.build rfl rfl rfl rfl so84 .nil rfl rfl optN ?_
   refine ρm cf80 (fun hg => new_fn tTake 5) ?_
   refine ρ2 sz84 ?_
   refine mz ?_
   refine AWP.ret (thenA_r ?_)
   refine ρl (rs := [.cell 2 84, .tmp 3]) (.cons (.cellA rfl ((hG.at _ _).trans rfl) U84 rfl sz84 rfl rfl) (.cons (.tmp rfl) .nil)) ?_
   have h1q : (rdCall s).2.2.length % 2 = 1 := by show (rdRow (sixR s 6) 10).2.length % 2 = 1; omega
   have ht : takeE s ≠ 0 := by rw [takeE, if_neg (by omega), if_pos h1q]; decide
   rw [takeC, if_neg ht, takeErr, if_neg (by omega), if_pos h1q]; rfl
 simp at h1
 have h1p : (((rdRow (sixR s 6) 10).2.length % 2 : Nat) : Int) = 0 := h1
 refine AWP.skip (thenA_n (AWP.seq (sr fun _ => ?_)))
 refine mz ?_
 refine AWP.block ?_
 refine AWP.rounds (fun st => 2 * st.1 ≤ (rdRow (sixR s 6) 10).2.length) (fun st => [(2, .box (G.length + 0) 0), (6, .box (G.length + 3) 0), (7, .sl ((rdRow (sixR s 6) 10).2.map (AV.int .i64))), (9, .int .i64 ((2 * st.1 : Nat) : Int))]) (fun st => [.box [.int .i64 0, .int .i64 0, .int .i64 0, .int .i64 0, .int .i64 0, .int .i64 0, .sl []], .box (aRd (rdCall s).1), .row st.2 127 2 ((pairsL ((rdRow (sixR s 6) 10).2.take (2 * st.1))).map aLn), .box [.int .i64 (sixN s 0), .int .i64 (sixN s 1), .int .i64 (sixN s 2), .int .i64 (sixN s 3), .int .i64 (sixN s 4), .int .i64 (sixN s 5), .own (G.length + 2) st.2]]) (fun st => (rdRow (sixR s 6) 10).2.length - 2 * st.1) 4 ((0, 0) : Nat × Nat) (Nat.zero_le _) (by repeat (first | exact .nil | refine .cons rfl ?_)) rfl (fun _ => rfl) (fun _ => ⟨by simp [AV.cells], by simp [AO.conts, aRd, aLn, AV.cells]; rintro y a _ (rfl | rfl) <;> simp⟩) (fun st hI => ?_)
 obtain ⟨k, g⟩ := st
 dsimp only at hI
 show AWP _ _ _ _ _ [(2, .box (G.length + 0) 0), (6, .box (G.length + 3) 0), (7, .sl ((rdRow (sixR s 6) 10).2.map (AV.int .i64))), (9, .int .i64 ((2 * k : Nat) : Int))] _ [.box [.int .i64 0, .int .i64 0, .int .i64 0, .int .i64 0, .int .i64 0, .int .i64 0, .sl []], .box (aRd (rdCall s).1), .row g 127 2 ((pairsL ((rdRow (sixR s 6) 10).2.take (2 * k))).map aLn), .box [.int .i64 (sixN s 0), .int .i64 (sixN s 1), .int .i64 (sixN s 2), .int .i64 (sixN s 3), .int .i64 (sixN s 4), .int .i64 (sixN s 5), .own (G.length + 2) g]]
 refine AWP.seq (sr fun _ => ?_)
 refine mv ?_
 refine mv ?_
 refine ρr U40 ?_
 refine ρ1 ?_
 refine ez ?_
 refine ρq (fun h2 => ?_) (fun h2 => ?_)
 · try simp [-List.getD_eq_getElem?_getD] at h2
   refine AWP.skip (thenA_n ?_)
   refine AWP.seq (AWP.block ?_)
   refine AWP.draw mixed (by kernel_rfl) (fun _ => ?_)
   refine ρa (fo := 6) U84 sz82 ?_
   refine ρd U82 ?_
   refine mv ?_
   refine mv ?_
   first | refine ρ9 U40 sz3 ?_ | refine ρ3 U40 sz3 ?_
   refine ρ5 U3 ?_
   refine mv ?_
   refine mv ?_
   first | refine ρ7 ?_ | refine ρg ?_
   first | refine ρ9 U40 sz3 ?_ | refine ρ3 U40 sz3 ?_
   refine ρ5 U3 ?_
   refine ARun.build rfl rfl rfl rfl so127 (.cons (ep rfl) (.cons (ep rfl) .nil)) rfl rfl optN ?_
   refine ARun.buildSl rfl rfl rfl rfl U82 sz127 zv127 rfl (by decide) (.cons (ep rfl) .nil) rfl rfl rfl rfl (by decide) rfl rfl optN ?_
   refine ARun.appendL hG rfl rfl rfl rfl U82 ti127 rfl (by decide) (ep rfl) (ep rfl) rfl rfl (by have := pairsL_len (((rdRow (sixR s 6) 10).2).take (2 * k)); simp only [List.length_take] at this; simp [maxLen]; omega) (by have := pairsL_len (((rdRow (sixR s 6) 10).2).take (2 * k)); simp only [List.length_take] at this; simp; omega) (pair_snoc (rdRow (sixR s 6) 10).2 k (by omega)) optN rfl ?_
   refine ρa (fo := 6) U84 sz82 ?_
   refine ρu sz82 ?_
   refine ⟨by kernel_rfl, _, _, rfl, hG, ?_⟩
   refine blockA_n (thenA_n ?_)
   refine AWP.region (fun _ => ?_)
   refine mv ?_
   first | refine ρ7 ?_ | refine ρg ?_
   refine ma ?_
   refine ⟨_, _, rfl, hG, ?_⟩
   refine thenA_n ⟨rfl, (k + 1, g + 1), _, ?_, ?_, rfl, ?_⟩
   · dsimp only; omega
   · repeat (first | exact .nil | refine .cons rfl ?_)
   dsimp only; omega
 simp at h2
 have hk2 : 2 * k = (rdRow (sixR s 6) 10).2.length := by omega
 rw [hk2, List.take_length]
 refine AWP.exit ?_
 refine thenA_x ?_
 refine thenA_x ?_
 refine blockA_h ?_
 refine thenA_n ?_
 refine AWP.seq (AWP.seq ?_)
 refine AWP.frzIn (j := 2) (q := 3) (p := 6) hG rfl (by have := pairsL_len (rdRow (sixR s 6) 10).2; have := rdRow_len (sixR s 6) 10; simp [maxLen]; omega) rfl rfl rfl ?_
 refine AWP.region (fun _ => ?_)
 refine ρo U84 sz84 ?_
 refine ARun.call rfl rfl rfl rfl cf81 (ep rfl) (.cons (ep rfl) .nil) rfl (fun hg => check_fn (mkCall (sixL s) (rdRow (sixR s 6) 10).2) (by have := pairsL_len (rdRow (sixR s 6) 10).2; show (pairsL (rdRow (sixR s 6) 10).2).length ≤ _; omega)) optN ?_
 refine mz (sr fun _ => ?_)
 refine mv ?_
 refine ARun.isNil rfl rfl rfl rfl U96 (ep rfl) (fun hg => by first | rfl | exact nilA_aEr _) (.inr ⟨rfl, rfl⟩) optN ?_
 refine ez ?_
 refine ρq (fun h3 => ?_) (fun h3 => ?_)
 · simp [new_none] at h3
   refine sr fun _ => ?_
   refine ARun.build rfl rfl rfl rfl so84 .nil rfl rfl optN ?_
   refine mv ?_
   refine ρm cf79 (fun hg => wrap_fn tTake (Er.new tCall (checkP (mkCall (sixL s) (rdRow (sixR s 6) 10).2)))) ?_
   refine ρ2 sz84 ?_
   refine mz ?_
   refine AWP.ret (thenA_r ?_)
   refine ρl (rs := [.cell 2 84, .tmp 3]) (.cons (.cellA rfl ((hG.at _ _).trans rfl) U84 rfl sz84 rfl rfl) (.cons (.tmp rfl) .nil)) ?_
   have h1q : ¬ (rdCall s).2.2.length % 2 = 1 := by show ¬ (rdRow (sixR s 6) 10).2.length % 2 = 1; omega
   have ht : takeE s ≠ 0 := by rw [takeE, if_neg (by omega), if_neg h1q]; exact h3
   rw [takeC, if_neg ht, takeErr, if_neg (by omega), if_neg h1q]; rfl
 simp [new_none] at h3
 refine AWP.skip (thenA_n (sr fun _ => ?_))
 refine ρo U84 sz84 ?_
 refine ρ2 sz84 ?_
 refine mz ?_
 refine AWP.ret ?_
 refine ρl (rs := [.cell 2 84, .tmp 3]) (.cons (.cellA rfl ((hG.at _ _).trans rfl) U84 rfl sz84 rfl rfl) (.cons (.tmp rfl) .nil)) ?_
 have h1q : ¬ (rdCall s).2.2.length % 2 = 1 := by show ¬ (rdRow (sixR s 6) 10).2.length % 2 = 1; omega
 have ht : takeE s = 0 := by rw [takeE, if_neg (by omega), if_neg h1q]; exact h3
 rw [takeC, if_pos ht, takeErr, if_neg (by omega), if_neg h1q, show checkP (mkCall (rdCall s).2.1 (rdCall s).2.2) = 0 from h3]; rfl
end Go.Proofs.YtcndnllmlhhjiaaGreatDoor
namespace Go.Proofs.YtcndnllmlhhjiaaGreatDoor
open Go.RowKit
open NumP
theorem takeErr_none (s : ByteArray) : (takeErr s).isNone = decide (takeE s = 0) := by
 unfold takeErr takeE
 split
 · rw [wrap_none, errOf_none]
 split
 · rw [new_none]
 rw [wrap_none, new_none]
theorem may_no_t {o : Co} (h : (!decide (takeE o.payload = 0) || !decide ((takeC o.payload).client = o.client) || !decide ((takeC o.payload).seq = o.seq) || !momentP o.start) = true) : mayO o = false := by
 unfold mayO
 cases h1 : decide (takeE o.payload = 0) <;> cases h2 : decide ((takeC o.payload).client = o.client) <;> cases h3 : decide ((takeC o.payload).seq = o.seq) <;> cases h4 : momentP o.start <;> simp [h1, h2, h3, h4] at h ⊢
theorem may_yes_t {o : Co} (h : (!decide (takeE o.payload = 0) || !decide ((takeC o.payload).client = o.client) || !decide ((takeC o.payload).seq = o.seq) || !momentP o.start) = false) : mayO o = if o.end_ = 0 then decide (o.reply = ⟨#[]⟩) else decide (o.start < o.end_) && decide (o.end_ ≤ 1000000) := by
 unfold mayO
 cases h1 : decide (takeE o.payload = 0) <;> cases h2 : decide ((takeC o.payload).client = o.client) <;> cases h3 : decide ((takeC o.payload).seq = o.seq) <;> cases h4 : momentP o.start <;> simp [h1, h2, h3, h4] at h ⊢
theorem moment_fn (n : Int) : FnP Tryz.prog 102 [.int .i64 n] (.bool (momentP n)) := by
 refine FnP.of Tryz.func102 rfl rfl (by simp) (by simp [AV.cells, aIn, aOut, aLn, aCl, aRp, aCo]) (fun G hG => ?_)
 have hN : NoH G.length (.bool (momentP n)) := (by simp [AV.cells, aIn, aOut, aLn, aCl, aRp, aCo])
 refine sr fun _ => ?_
 refine mz (sr fun _ => ?_)
 refine mv ?_
 refine ρ1 ?_
 refine mv ?_
 refine ρi ?_
 refine ρf ?_
 refine ρ0 ?_
 refine mz ?_
 refine AWP.ret ?_
 refine ρc ?_
 rfl
theorem may_fn2 (o : Co) (hp : o.payload.size ≤ 1000000) : FnP Tryz.prog 63 [aCo o] (.bool (mayO o)) := by
 refine FnP.of Tryz.func63 rfl rfl (by simp) (by simp [AV.cells, aIn, aOut, aLn, aCl, aRp, aCo]) (fun G hG => ?_)
 have hN : NoH G.length (.bool (mayO o)) := (by simp [AV.cells, aIn, aOut, aLn, aCl, aRp, aCo])
 refine sr fun _ => ?_
 refine ρv ?_
 refine mz (sr fun _ => ?_)
 refine ρ6 U50 sz9 ?_
 refine ρ5 U9 ?_
 refine ρj cf52 (fun hg => take_c o.payload hp) ?_
 refine mv ?_
 refine ρ4 ?_
 refine ρ4 ?_
 refine ρp (j := 0) zv84 ?_
 refine ρ2 sz84 ?_
 refine mz ?_
 refine AWP.seq (sr fun _ => ?_)
 refine mv ?_
 refine ARun.isNil rfl rfl rfl rfl U96 (ep rfl) (fun hg => by first | rfl | exact nilA_aEr _) (.inr ⟨rfl, rfl⟩) optN ?_
 refine mv ?_
 refine ρt (fo := 0) U84 sz3 ?_
 refine ρs U3 ?_
 refine ρe U50 sz3 ?_
 refine ρb U3 ?_
 refine ρw ?_
 refine ρ8 ?_
 refine mv ?_
 refine ρt (fo := 1) U84 sz3 ?_
 refine ρs U3 ?_
 refine ρe U50 sz3 ?_
 refine ρb U3 ?_
 refine ρw ?_
 refine ρ8 ?_
 refine mv ?_
 refine ρe U50 sz3 ?_
 refine ρb U3 ?_
 refine ρn cf102 (fun hg => moment_fn o.start) ?_
 refine ARun.not rfl rfl rfl rfl (Ev.opt rfl (fun h => h)) optS ?_
 refine ρ8 ?_
 refine ez ?_
 refine ρq (fun h0 => ?_) (fun h0 => ?_)
 · simp only [takeErr_none] at h0
   refine sr fun _ => ?_
   refine mz ?_
   refine AWP.ret (thenA_r ?_)
   refine ρc ?_
   rw [may_no_t (by simpa using h0)]; rfl
 simp only [takeErr_none] at h0
 refine AWP.skip (thenA_n (AWP.seq (sr fun _ => ?_)))
 refine ρ6 U50 sz3 ?_
 refine ρ5 U3 ?_
 refine ρ1 ?_
 refine ez ?_
 refine ρq (fun h1 => ?_) (fun h1 => ?_)
 · simp at h1
   refine sr fun _ => ?_
   refine ρk U50 sz50 ?_
   refine ρ6 U50 sz3 ?_
   refine ρ5 U3 ?_
   refine ρ6 U50 sz3 ?_
   refine ρ5 U3 ?_
   refine ρ6 U50 sz9 ?_
   refine ρ5 U9 ?_
   refine ρ6 U50 sz3 ?_
   refine ρ5 U3 ?_
   refine ARun.build rfl rfl rfl rfl so50 (.cons (ep rfl) (.cons (ep rfl) (.cons (ep rfl) (.cons (ep rfl) .nil)))) rfl rfl optN ?_
   refine ARun.eqAgg rfl rfl rfl rfl eq50 (ep rfl) (ep rfl) rfl (.inl ⟨rfl, rfl⟩) optN ?_
   refine mz ?_
   refine AWP.ret (thenA_r ?_)
   refine ρc ?_
   rw [may_yes_t (by simpa using h0), if_pos h1]; simp [h1]
 simp at h1
 refine AWP.skip (thenA_n (sr fun _ => ?_))
 refine ρ6 U50 sz3 ?_
 refine ρ5 U3 ?_
 refine ρ6 U50 sz3 ?_
 refine ρ5 U3 ?_
 refine ρ1 ?_
 refine mv ?_
 refine ρe U50 sz3 ?_
 refine ρb U3 ?_
 refine ρf ?_
 refine ρ0 ?_
 refine mz ?_
 refine AWP.ret ?_
 refine ρc ?_
 rw [may_yes_t (by simpa using h0), if_neg h1]
theorem ahead_fn (a b : Co) : FnP Tryz.prog 35 [aCo a, aCo b] (.bool (aheadP a b)) := by
 refine FnP.of Tryz.func35 rfl rfl (by simp) (by simp [AV.cells, aIn, aOut, aLn, aCl, aRp, aCo]) (fun G hG => ?_)
 have hN : NoH G.length (.bool (aheadP a b)) := (by simp [AV.cells, aIn, aOut, aLn, aCl, aRp, aCo])
 refine sr fun _ => ?_
 refine ρv ?_
 refine ρv ?_
 refine mz (sr fun _ => ?_)
 refine ρ6 U50 sz3 ?_
 refine ρ5 U3 ?_
 refine ρ1 ?_
 refine mv ?_
 refine ρe U50 sz3 ?_
 refine ρb U3 ?_
 refine ρe U50 sz3 ?_
 refine ρb U3 ?_
 refine ρw ?_
 refine ρ0 ?_
 refine mz ?_
 refine AWP.ret ?_
 refine ρc ?_
 simp [aheadP]
theorem ofF_fn (x : Co) (c : Int) : FnP Tryz.prog 103 [aCo x, .pe [.int .i64 c]] (.bool (decide (x.client = c))) := by
 refine FnP.of Tryz.func103 rfl rfl (by simp) (by simp [AV.cells, aIn, aOut, aLn, aCl, aRp, aCo]) (fun G hG => ?_)
 have hN : NoH G.length (.bool (decide (x.client = c))) := (by simp [AV.cells, aIn, aOut, aLn, aCl, aRp, aCo])
 refine sr fun _ => ?_
 refine ρv ?_
 refine mz (sr fun _ => ?_)
 refine ρ6 U50 sz3 ?_
 refine ρ5 U3 ?_
 first | refine ρ5 U3 ?_ | refine ρd U3 ?_
 refine ρ1 ?_
 refine mz ?_
 refine AWP.ret ?_
 refine ρc ?_
 rfl
theorem openF_fn (x : Co) : FnP Tryz.prog 49 [aCo x] (.bool (decide (x.end_ = 0))) := by
 refine FnP.of Tryz.func49 rfl rfl (by simp) (by simp [AV.cells, aIn, aOut, aLn, aCl, aRp, aCo]) (fun G hG => ?_)
 have hN : NoH G.length (.bool (decide (x.end_ = 0))) := (by simp [AV.cells, aIn, aOut, aLn, aCl, aRp, aCo])
 refine sr fun _ => ?_
 refine ρv ?_
 refine mz (sr fun _ => ?_)
 refine ρ6 U50 sz3 ?_
 refine ρ5 U3 ?_
 refine ρ1 ?_
 refine mz ?_
 refine AWP.ret ?_
 refine ρc ?_
 rfl
theorem those_fn (F : Nat) (fs cs : List AV) (p : Co → Bool) (l : List Co) (hl : l.length ≤ 1000) (hcf : ∀ (vs : Array Value) (W : World), (callFunc F vs).run Tryz.prog W = .ok (.enter F vs) W) (hn : (∀ x, x ∈ fs → NoH 0 x) ∧ ∀ x, x ∈ cs → NoH 0 x) (hF : ∀ x, x ∈ l → FnP Tryz.prog F (fs ++ [aCo x] ++ cs) (.bool (p x))) : FnP Tryz.prog 48 [.sl (l.map aCo), .fn (.func F) fs cs] (.sl ((l.filter p).map aCo)) := by
 refine FnP.of Tryz.func48 rfl rfl (by simp) (by simp [AV.cells, aCo]; intro x x1 _ _ e y hy; subst e; simp at hy; rcases hy with rfl | rfl | rfl | rfl | rfl | rfl <;> simp) (fun G hG => ?_)
 have hN : NoH G.length (.sl ((l.filter p).map aCo)) := (by simp [AV.cells, aCo]; intro x x1 _ _ e y hy; subst e; simp at hy; rcases hy with rfl | rfl | rfl | rfl | rfl | rfl <;> simp)
 refine sr fun _ => ?_
 refine mz (sr fun _ => ?_)
 refine ARun.nilOwn (e := 50) (z := 6) (j := 0) hG rfl ⟨.inl rfl, rfl⟩ (fun _ => rfl) rfl rfl rfl optN ?_
 refine ez ?_
 refine AWP.seq (sr fun _ => ?_)
 refine mv ?_
 refine ρr U26 ?_
 refine mv ?_
 refine ez ?_
 refine AWP.block ?_
 refine AWP.rounds (fun st => st.1 ≤ l.length) (fun st => [(1, .fn (.func F) fs cs), (5, .own (G.length + 0) st.2), (8, .sl (l.map aCo)), (9, .int .i64 ((l.map aCo).length : Int)), (10, .int .i64 (st.1 : Int))]) (fun st => [.row st.2 50 6 (((l.take st.1).filter p).map aCo)]) (fun st => l.length - st.1) 1 ((0, 0) : Nat × Nat) (Nat.zero_le _) (by repeat (first | exact .nil | refine .cons rfl ?_)) rfl (fun _ => rfl) (fun _ => ⟨by simp [AV.cells, aCo]; exact ⟨fun x hx => (hn.1 x hx).mono (by omega), fun x hx => (hn.2 x hx).mono (by omega)⟩, by simp [AO.conts, aCo, AV.cells]; intro y x1 x2 _ _ e hy; subst e; simp at hy; rcases hy with rfl | rfl | rfl | rfl | rfl | rfl <;> simp⟩) (fun st hI => ?_)
 obtain ⟨k, g⟩ := st
 dsimp only at hI
 show AWP _ _ _ _ _ [(1, .fn (.func F) fs cs), (5, .own (G.length + 0) g), (8, .sl (l.map aCo)), (9, .int .i64 ((l.map aCo).length : Int)), (10, .int .i64 (k : Int))] _ [.row g 50 6 (((l.take k).filter p).map aCo)]
 refine sr fun _ => ?_
 refine ρ1 ?_
 refine ez ?_
 refine AWP.seq ?_
 refine ρq (fun h0 => ?_) (fun h0 => ?_)
 · try simp [-List.getD_eq_getElem?_getD] at h0
   refine AWP.skip (thenA_n ?_)
   refine AWP.seq (AWP.block (sr fun _ => ?_))
   first | refine ρ9 U26 sz50 ?_ | refine ρ3 U26 sz50 ?_
   refine ρk U50 sz50 ?_
   refine ρp (j := 1) zv50 ?_
   refine ρ2 sz50 ?_
   refine ez (sr fun _ => ?_)
   refine mv ?_
   refine ρo U50 sz50 ?_
   refine ARun.call rfl rfl rfl rfl hcf (ep rfl) (.cons (ep rfl) .nil) rfl (fun hg => hF _ (by rw [Co_idx (by omega)]; exact List.getElem_mem _)) optN ?_
   refine ez ?_
   refine ρq (fun h1 => ?_) (fun h1 => ?_)
   · refine AWP.region (fun _ => ?_)
     refine mv ?_
     refine ρo U50 sz50 ?_
     refine ARun.buildSl rfl rfl rfl rfl U26 sz50 zv50 rfl (by decide) (.cons (ep rfl) .nil) rfl rfl rfl rfl (by decide) rfl rfl optN ?_
     refine ARun.appendL hG rfl rfl rfl rfl U26 ti50 rfl (by decide) (ep rfl) (ep rfl) rfl rfl (by have := filter_len p (l.take k); simp only [List.length_take] at this; simp [maxLen]; omega) (by have := filter_len p (l.take k); simp only [List.length_take] at this; simp; omega) (co_app p l k (by omega) h1) optN rfl ?_
     refine ma ?_
     refine ⟨_, _, rfl, hG, ?_⟩
     refine blockA_n (thenA_n ?_)
     refine AWP.region (fun _ => ?_)
     first | refine ρ7 ?_ | refine ρg ?_
     refine mv ?_
     refine ⟨_, _, rfl, hG, ?_⟩
     refine thenA_n ⟨rfl, (k + 1, g + 1), _, ?_, ?_, rfl, ?_⟩
     · dsimp only; omega
     · repeat (first | exact .nil | refine .cons rfl ?_)
     dsimp only; omega
   rw [show (l.take k).filter p = (l.take (k + 1)).filter p from by rw [co_filter p l k (by omega), if_neg (by rw [h1]; decide)]]
   refine AWP.skip (blockA_n (thenA_n ?_))
   refine AWP.region (fun _ => ?_)
   first | refine ρ7 ?_ | refine ρg ?_
   refine mv ?_
   refine ⟨_, _, rfl, hG, ?_⟩
   refine thenA_n ⟨rfl, (k + 1, g), _, ?_, ?_, rfl, ?_⟩
   · dsimp only; omega
   · repeat (first | exact .nil | refine .cons rfl ?_)
   dsimp only; omega
 simp at h0
 obtain rfl : k = l.length := by omega
 rw [List.take_length]
 refine AWP.exit ?_
 refine thenA_x ?_
 refine thenA_x ?_
 refine blockA_h ?_
 refine thenA_n (AWP.seq ?_)
 refine AWP.frzOwn 5 hG rfl rfl (by decide) (by have := filter_len p l; simp [maxLen]; omega) rfl ?_
 refine AWP.region (fun _ => ?_)
 refine mv ?_
 refine mz ?_
 refine AWP.ret ?_
 refine ρc ?_
 rfl
theorem okO_h2 {l : List Co} {k : Nat} (a : Int) (ha : 0 < k → a = (l.getD (k - 1) default).start) : (!mayO (l.getD k default) || (decide (0 < (k : Int)) && decide ((l.getD k default).start ≤ a))) = !(mayO (l.getD k default) && (decide (k = 0) || decide ((l.getD (k - 1) default).start < (l.getD k default).start))) := by
 by_cases hk : 0 < k
 · rw [ha hk, decide_eq_true (show 0 < (k : Int) by omega), decide_eq_false (show ¬ k = 0 by omega)]
   by_cases h : (l.getD (k - 1) default).start < (l.getD k default).start
   · rw [decide_eq_true h, decide_eq_false (by omega)]; cases mayO (l.getD k default) <;> rfl
   rw [decide_eq_false h, decide_eq_true (by omega)]; cases mayO (l.getD k default) <;> rfl
 obtain rfl : k = 0 := by omega
 cases mayO (l.getD 0 default) <;> simp
theorem okO_mk {l : List Co} {k : Nat} (hk : k < l.length) (hok : ∀ j, j < k → okO l j = true) (h2 : (mayO (l.getD k default) && (decide (k = 0) || decide ((l.getD (k - 1) default).start < (l.getD k default).start))) = true) (h3 : hadOk l k = true) : okO l k = true := by
 unfold okO; rw [← had_all hk hok, h2, h3]; rfl
theorem okO_no1 {l : List Co} {k : Nat} (h2 : (mayO (l.getD k default) && (decide (k = 0) || decide ((l.getD (k - 1) default).start < (l.getD k default).start))) = false) : okO l k = false := by
 unfold okO; rw [h2]; rfl
theorem had_none {l : List Co} {k : Nat} (h : ¬ 0 < (ofP (l.take k) (l.getD k default).client).length) : hadOk l k = true := by unfold hadOk; rw [if_neg h]
theorem had_if {l : List Co} {k : Nat} (h : 0 < (ofP (l.take k) (l.getD k default).client).length) : (!aheadP ((ofP (l.take k) (l.getD k default).client).getD ((ofP (l.take k) (l.getD k default).client).length - 1) default) (l.getD k default) || decide ((l.getD k default).seq ≤ ((ofP (l.take k) (l.getD k default).client).getD ((ofP (l.take k) (l.getD k default).client).length - 1) default).seq)) = !hadOk l k := by
 unfold hadOk; rw [if_pos h]
 generalize (ofP (l.take k) (l.getD k default).client).getD ((ofP (l.take k) (l.getD k default).client).length - 1) default = o
 by_cases h2 : o.seq < (l.getD k default).seq
 · rw [decide_eq_true h2, decide_eq_false (by omega)]; simp
 rw [decide_eq_false h2, decide_eq_true (by omega)]; simp
theorem okO_no2 {l : List Co} {k : Nat} (hk : k < l.length) (hok : ∀ j, j < k → okO l j = true) (h3 : hadOk l k = false) : okO l k = false := by
 unfold okO; rw [← had_all hk hok, h3, Bool.and_false]
theorem of_fn (l : List Co) (c : Int) (hl : l.length ≤ 1000) : FnP Tryz.prog 64 [.sl (l.map aCo), .int .i64 c] (.sl ((ofP l c).map aCo)) := by
 refine FnP.of Tryz.func64 rfl rfl (by simp) (noH_cos _ _) (fun G hG => ?_)
 have hN : NoH G.length (.sl ((ofP l c).map aCo)) := (noH_cos _ _)
 refine sr fun _ => ?_
 refine ARun.boxPe1 rfl rfl rfl rfl (ep rfl) (by first | rfl | exact aEr_one _ | exact aFl_one _) optN ?_
 refine mz (sr fun _ => ?_)
 refine mv ?_
 refine ARun.makeFunc rfl rfl rfl rfl .nil (.cons (ep rfl) .nil) optN ?_
 refine ρh cf48 ?_ (hF := fun hg => those_fn 103 [] [.pe [.int .i64 c]] (fun o => decide (o.client = c)) l hl cf103 (by simp) (fun x _ => ofF_fn x c))
 refine mz ?_
 refine AWP.ret ?_
 refine ρc ?_
 rfl
theorem open_fn (l : List Co) (hl : l.length ≤ 1000) : FnP Tryz.prog 36 [.sl (l.map aCo)] (.sl ((openP l).map aCo)) := by
 refine FnP.of Tryz.func36 rfl rfl (by simp) (noH_cos _ _) (fun G hG => ?_)
 have hN : NoH G.length (.sl ((openP l).map aCo)) := (noH_cos _ _)
 refine sr fun _ => ?_
 refine mz (sr fun _ => ?_)
 refine mv ?_
 refine ρh cf48 ?_ (hF := fun hg => those_fn 49 [] [] (fun o => decide (o.end_ = 0)) l hl cf49 (by simp) (fun x _ => openF_fn x))
 refine mz ?_
 refine AWP.ret ?_
 refine ρc ?_
 rfl
theorem of_cut (l : List Co) (k : Nat) (c : Int) (hl : l.length ≤ 1000) : FnP Tryz.prog 64 [.sl (((l.map aCo).take k).drop 0), .int .i64 c] (.sl ((ofP (l.take k) c).map aCo)) := by
 have hh := of_fn (l.take k) c (by rw [List.length_take]; omega)
 rw [List.map_take] at hh; exact hh
theorem checkO_fn (l : List Co) (hl : l.length ≤ 1000) (hp : ∀ x, x ∈ l → x.payload.size ≤ 1000000) : FnP Tryz.prog 41 [.sl (l.map aCo)] (.int .i64 (checkO l)) := by
 refine FnP.of Tryz.func41 rfl rfl (by simp) (by simp [AV.cells, aIn, aOut, aLn, aCl, aRp, aCo]) (fun G hG => ?_)
 have hN : NoH G.length (.int .i64 (checkO l)) := (by simp [AV.cells, aIn, aOut, aLn, aCl, aRp, aCo])
 refine sr fun _ => ?_
 refine mz ?_
 refine AWP.seq (sr fun _ => ?_)
 refine mv ?_
 refine ρr U26 ?_
 refine ρ1 ?_
 refine ez ?_
 refine ρq (fun h0 => ?_) (fun h0 => ?_)
 · simp at h0
   refine sr fun _ => ?_
   refine mz ?_
   refine AWP.ret (thenA_r ?_)
   refine ρc ?_
   rw [check_many (by omega)]; rfl
 simp at h0
 refine AWP.skip (thenA_n (AWP.seq (sr fun _ => ?_)))
 refine mv ?_
 refine ρr U26 ?_
 refine mv ?_
 refine ez ?_
 refine AWP.block ?_
 refine AWP.rounds (fun k => k ≤ l.length ∧ ∀ j, j < k → okO l j = true) (fun k => [(0, .sl (l.map aCo)), (10, .sl (l.map aCo)), (11, .int .i64 ((l.map aCo).length : Int)), (12, .int .i64 (k : Int))]) (fun k => []) (fun k => l.length - k) 0 0 ⟨by omega, fun j h => by omega⟩ (by repeat (first | exact .nil | refine .cons rfl ?_)) rfl (fun _ => rfl) (fun _ => ⟨by simp [AV.cells, aCo], by simp⟩) (fun k hI => ?_)
 obtain ⟨hk, hok⟩ := hI
 obtain ⟨hf1, hf2⟩ := ofP_len l k (l.getD k default).client hl
 refine sr fun _ => ?_
 refine ρ1 ?_
 refine ez ?_
 refine AWP.seq ?_
 refine ρq (fun h1 => ?_) (fun h1 => ?_)
 · try simp [-List.getD_eq_getElem?_getD] at h1
   refine AWP.skip (thenA_n ?_)
   refine AWP.seq (AWP.block (sr fun _ => ?_))
   refine mv ?_
   first | refine ρ9 U26 sz50 ?_ | refine ρ3 U26 sz50 ?_
   refine ρk U50 sz50 ?_
   refine ρp (j := 0) zv50 ?_
   refine ma ?_
   refine ρ2 sz50 ?_
   refine ez ?_
   refine AWP.seq (AWP.seq ?_)
   refine AWP.frzBox 4 hG rfl rfl rfl ?_
   refine AWP.draw mixed (by kernel_rfl) (fun _ => ?_)
   refine ρk U50 sz50 ?_
   refine ARun.call rfl rfl rfl rfl cf63 (ep rfl) (.cons (ep rfl) .nil) rfl (fun hg => may_fn2 (l.getD k default) (pay_at hp (by omega))) optN ?_
   refine ARun.not rfl rfl rfl rfl (ep rfl) optN ?_
   refine mv ?_
   refine ρi ?_
   refine ρf ?_
   refine ARun.move (.inl rfl) rfl rfl rfl (Ev.opt rfl (fun h => h)) optS ?_
   refine ρe U50 sz3 ?_
   refine ρb U3 ?_
   refine ρi ?_
   refine ρi ?_
   first | refine ARun.arith rfl rfl rfl rfl (Ev.opt rfl (fun h => h)) (ep rfl) rfl (fun hg => i64w (by (try simp at hg); omega)) optS ?_ | refine ARun.arith rfl rfl rfl rfl (Ev.opt rfl (fun h => h)) (ep rfl) rfl (fun _ => rfl) optS ?_
   first | refine ARun.indexSl rfl rfl rfl rfl U26 sz50 (Ev.opt rfl (fun h => h)) (Ev.opt rfl (fun h => h)) (fun _ => rfl) (fun hg => getMap _ _ _ (by (try simp at hg); omega)) rfl rfl optS ?_ | refine ARun.indexSl rfl rfl rfl rfl U26 sz50 (Ev.opt rfl (fun h => h)) (Ev.opt rfl (fun h => h)) (fun hg => ofNonneg (by (try simp at hg); omega)) (fun hg => getMap _ _ _ (by (try simp at hg); omega)) rfl rfl optS ?_
   refine ARun.fieldPe rfl rfl rfl rfl U50 rfl rfl sz3 (by decide) (Ev.opt rfl (fun h => h)) rfl optS ?_
   refine ρb U3 ?_
   refine ρw ?_
   refine ARun.pick rfl rfl rfl rfl (Ev.opt rfl (fun h => h)) (Ev.opt rfl (by first | exact pkT | exact pkT2 | simp +contextual)) (ep rfl) (andB _ _) optS ?_
   refine ρ8 ?_
   refine ⟨by kernel_rfl, _, _, rfl, hG, ?_⟩
   refine thenA_n ?_
   refine ρq (fun h2 => ?_) (fun h2 => ?_)
   · rw [okO_h2 (l.getD ((k : Int) - 1).toNat default).start (fun hk0 => by rw [show ((k : Int) - 1).toNat = k - 1 by omega])] at h2
     refine sr fun _ => ?_
     refine mz ?_
     refine AWP.ret (thenA_r ?_)
     refine blockA_r (thenA_r ?_)
     refine thenA_r (blockA_r (thenA_r ?_))
     refine ρc ?_
     rw [check_bad (by omega) (okO_no1 (by simpa only [Bool.not_eq_true'] using h2))]; rfl
   rw [okO_h2 (l.getD ((k : Int) - 1).toNat default).start (fun hk0 => by rw [show ((k : Int) - 1).toNat = k - 1 by omega])] at h2
   refine AWP.skip (thenA_n (AWP.seq ?_))
   refine AWP.draw mixed (by kernel_rfl) (fun _ => ?_)
   refine mv ?_
   refine mv ?_
   refine ARun.cutSl (a := 0) (b := k) rfl rfl rfl rfl U26 sz50 (ep rfl) (fun _ => (by intro x hx; obtain ⟨y, _, rfl⟩ := List.mem_map.1 hx; rfl)) (fun _ => rfl) ⟨_, _, (ep rfl), fun hg => (by (try simp at hg); omega)⟩ (fun hg => (by (try simp at hg); simp; omega)) rfl optN ?_
   refine ρ6 U50 sz3 ?_
   refine ρ5 U3 ?_
   refine ρm cf64 (fun hg => of_cut l k (l.getD k default).client hl) ?_
   refine ma ?_
   refine ⟨by kernel_rfl, _, _, rfl, hG, ?_⟩
   refine thenA_n (sr fun _ => ?_)
   refine mv ?_
   refine ρr U26 ?_
   refine ρ1 ?_
   refine ez ?_
   refine ρq (fun h3 => ?_) (fun h3 => ?_)
   · simp only [decide_eq_true_eq, List.length_map] at h3
     replace h3 : 0 < (ofP (l.take k) (l.getD k default).client).length := by omega
     have hix : ((((ofP (l.take k) (l.getD k default).client).map aCo).length : Int) - 1).toNat = (ofP (l.take k) (l.getD k default).client).length - 1 := by rw [List.length_map]; omega
     refine sr fun _ => ?_
     refine mv ?_
     refine mv ?_
     refine ρr U26 ?_
     first | refine ρ7 ?_ | refine ρg ?_
     first | refine ρ9 U26 sz50 ?_ | refine ρ3 U26 sz50 ?_
     refine ρk U50 sz50 ?_
     refine ρp (j := 1) zv50 ?_
     refine ρ2 sz50 ?_
     refine ez ?_
     refine AWP.seq ?_
     refine AWP.frzBox 6 hG rfl rfl rfl ?_
     refine AWP.region (fun _ => ?_)
     refine ρk U50 sz50 ?_
     refine ρk U50 sz50 ?_
     refine ρm cf35 (fun hg => ahead_fn ((ofP (l.take k) (l.getD k default).client).getD ((((ofP (l.take k) (l.getD k default).client).map aCo).length : Int) - 1).toNat default) (l.getD k default)) ?_
     refine ARun.not rfl rfl rfl rfl (ep rfl) optN ?_
     refine mv ?_
     refine ρe U50 sz3 ?_
     refine ρb U3 ?_
     refine ρe U50 sz3 ?_
     refine ρb U3 ?_
     refine ρw ?_
     refine ρ8 ?_
     refine ez ?_
     refine ρq (fun h4 => ?_) (fun h4 => ?_)
     · rw [hix, had_if h3] at h4
       refine sr fun _ => ?_
       refine mz ?_
       refine AWP.ret (blockA_r ?_)
       refine thenA_r (thenA_r ?_)
       refine blockA_r (thenA_r ?_)
       refine ρc ?_
       rw [check_bad (by omega) (okO_no2 (by omega) hok (by rw [Bool.not_eq_true'] at h4; exact h4))]; rfl
     rw [hix, had_if h3] at h4
     refine AWP.skip (blockA_n (thenA_n ?_))
     refine AWP.region (fun _ => ?_)
     first | refine ρ7 ?_ | refine ρg ?_
     refine mv ?_
     refine ⟨_, _, rfl, hG, ?_⟩
     refine thenA_n ⟨rfl, k + 1, _, ?_, ?_, rfl, ?_⟩
     · refine ⟨by omega, fun j hj => ?_⟩
       by_cases e : j = k
       · subst e; exact okO_mk (by omega) hok (by simpa only [Bool.not_eq_false'] using h2) (by rw [Bool.not_eq_false'] at h4; exact h4)
       exact hok j (by omega)
     · repeat (first | exact .nil | refine .cons rfl ?_)
     omega
   simp only [decide_eq_false_iff_not, List.length_map] at h3
   replace h3 : ¬ 0 < (ofP (l.take k) (l.getD k default).client).length := by omega
   refine AWP.skip (blockA_n (thenA_n ?_))
   refine AWP.region (fun _ => ?_)
   first | refine ρ7 ?_ | refine ρg ?_
   refine mv ?_
   refine ⟨_, _, rfl, hG, ?_⟩
   refine thenA_n ⟨rfl, k + 1, _, ?_, ?_, rfl, ?_⟩
   · refine ⟨by omega, fun j hj => ?_⟩
     by_cases e : j = k
     · subst e; exact okO_mk (by omega) hok (by simpa only [Bool.not_eq_false'] using h2) (had_none h3)
     exact hok j (by omega)
   · repeat (first | exact .nil | refine .cons rfl ?_)
   omega
 try simp [-List.getD_eq_getElem?_getD] at h1
 refine AWP.exit ?_
 refine thenA_x ?_
 refine thenA_x ?_
 refine blockA_h ?_
 refine thenA_n (sr fun _ => ?_)
 refine mz ?_
 refine AWP.ret ?_
 refine ρc ?_
 rw [check_good (by omega) (fun j hj => hok j (by omega))]; rfl
theorem set_cells {z : Nat} {xs : List AV} {k : Nat} {X : AV} (h : ∀ x, x ∈ xs → x.cells.length = z) (hX : X.cells.length = z) : ∀ x, x ∈ xs.set k X → x.cells.length = z := by
 intro x hx
 rcases List.mem_or_eq_of_mem_set hx with h1 | h1
 · exact h x h1
 subst h1; exact hX
end Go.Proofs.YtcndnllmlhhjiaaGreatDoor
namespace Go.Proofs.YtcndnllmlhhjiaaGreatDoor
open Go.RowKit
open NumP
def smallO (o : Co) : Bool := decide (o.payload.size ≤ 500) && decide (o.reply.size ≤ 1000)
def fewO (l : List Co) : Bool := decide (l.length ≤ 120) && l.all smallO
theorem fewO_no {l : List Co} {k : Nat} (hk : k < l.length) (h : (decide (500 < ((l.getD k default).payload.size : Int)) || decide (1000 < ((l.getD k default).reply.size : Int))) = true) : fewO l = false := by
 have : l.all smallO = false := List.all_eq_false.2 ⟨l[k], List.getElem_mem hk, by
   rw [← Co_idx hk]; unfold smallO
   simp only [Bool.or_eq_true, decide_eq_true_eq] at h
   simp only [Bool.and_eq_true, decide_eq_true_eq]; omega⟩
 unfold fewO; rw [this, Bool.and_false]
theorem fewO_yes {l : List Co} (h0 : l.length ≤ 120) (h : ∀ j, j < l.length → (decide (500 < ((l.getD j default).payload.size : Int)) || decide (1000 < ((l.getD j default).reply.size : Int))) = false) : fewO l = true := by
 have : l.all smallO = true := List.all_eq_true.2 fun x hx => by
   obtain ⟨j, hj, rfl⟩ := List.mem_iff_getElem.1 hx
   have := h j hj
   rw [Co_idx hj] at this
   unfold smallO
   simp only [Bool.or_eq_false_iff, decide_eq_false_iff_not] at this
   simp only [Bool.and_eq_true, decide_eq_true_eq]; omega
 unfold fewO; rw [this, decide_eq_true h0]; rfl
theorem fewO_fn (l : List Co) : FnP Tryz.prog 8 [.sl (l.map aCo)] (.bool (fewO l)) := by
 refine FnP.of Tryz.func8 rfl rfl (by simp) (by simp [AV.cells, aIn, aOut, aLn, aCl, aRp, aCo]) (fun G hG => ?_)
 have hN : NoH G.length (.bool (fewO l)) := (by simp [AV.cells, aIn, aOut, aLn, aCl, aRp, aCo])
 refine sr fun _ => ?_
 refine mz ?_
 refine AWP.seq (sr fun _ => ?_)
 refine mv ?_
 refine ρr U26 ?_
 refine ρ1 ?_
 refine ez ?_
 refine ρq (fun h0 => ?_) (fun h0 => ?_)
 · simp at h0
   refine sr fun _ => ?_
   refine mz ?_
   refine AWP.ret (thenA_r ?_)
   refine ρc ?_
   rw [show fewO l = false from by unfold fewO; rw [decide_eq_false (by omega)]; rfl]; rfl
 simp at h0
 refine AWP.skip (thenA_n (AWP.seq (sr fun _ => ?_)))
 refine mz ?_
 refine AWP.block ?_
 refine AWP.rounds (fun k => k ≤ l.length ∧ ∀ j, j < k → (decide (500 < ((l.getD j default).payload.size : Int)) || decide (1000 < ((l.getD j default).reply.size : Int))) = false) (fun k => [(0, .sl (l.map aCo)), (3, .int .i64 (k : Int))]) (fun k => []) (fun k => l.length - k) 0 0 ⟨by omega, fun j h => by omega⟩ (by repeat (first | exact .nil | refine .cons rfl ?_)) rfl (fun _ => rfl) (fun _ => ⟨by simp [AV.cells, aCo], by simp⟩) (fun k hI => ?_)
 obtain ⟨hk, hno⟩ := hI
 refine AWP.seq (sr fun _ => ?_)
 refine mv ?_
 refine mv ?_
 refine ρr U26 ?_
 refine ρ1 ?_
 refine ez ?_
 refine ρq (fun h1 => ?_) (fun h1 => ?_)
 · try simp [-List.getD_eq_getElem?_getD] at h1
   refine AWP.skip (thenA_n ?_)
   refine AWP.seq (AWP.block (sr fun _ => ?_))
   refine mv ?_
   refine mv ?_
   first | refine ρ9 U26 sz50 ?_ | refine ρ3 U26 sz50 ?_
   refine ρ6 U50 sz9 ?_
   refine ρ5 U9 ?_
   refine ARun.lenStr rfl rfl rfl rfl U9 (ep rfl) optN ?_
   refine ρ1 ?_
   refine mv ?_
   refine ρi ?_
   refine ρi ?_
   first | refine ARun.indexSl rfl rfl rfl rfl U26 sz50 (Ev.opt rfl (fun h => h)) (Ev.opt rfl (fun h => h)) (fun _ => rfl) (fun hg => getMap _ _ _ (by (try simp at hg); omega)) rfl rfl optS ?_ | refine ARun.indexSl rfl rfl rfl rfl U26 sz50 (Ev.opt rfl (fun h => h)) (Ev.opt rfl (fun h => h)) (fun hg => ofNonneg (by (try simp at hg); omega)) (fun hg => getMap _ _ _ (by (try simp at hg); omega)) rfl rfl optS ?_
   refine ARun.fieldPe rfl rfl rfl rfl U50 rfl rfl sz9 (by decide) (Ev.opt rfl (fun h => h)) rfl optS ?_
   refine ρb U9 ?_
   refine ARun.lenStr rfl rfl rfl rfl U9 (Ev.opt rfl (fun h => h)) optS ?_
   refine ρf ?_
   refine ρ8 ?_
   refine ez ?_
   refine ρq (fun h2 => ?_) (fun h2 => ?_)
   · refine sr fun _ => ?_
     refine mz ?_
     refine AWP.ret (blockA_r ?_)
     refine thenA_r (thenA_r ?_)
     refine blockA_r (thenA_r ?_)
     refine ρc ?_
     rw [fewO_no (by omega) h2]; rfl
   refine AWP.skip (blockA_n (thenA_n ?_))
   refine AWP.region (fun _ => ?_)
   refine mv ?_
   first | refine ρ7 ?_ | refine ρg ?_
   refine ma ?_
   refine ⟨_, _, rfl, hG, ?_⟩
   refine thenA_n ⟨rfl, k + 1, _, ?_, ?_, rfl, ?_⟩
   · refine ⟨by omega, fun j hj => ?_⟩
     by_cases e : j = k
     · subst e; exact h2
     exact hno j (by omega)
   · repeat (first | exact .nil | refine .cons rfl ?_)
   omega
 try simp [-List.getD_eq_getElem?_getD] at h1
 refine AWP.exit ?_
 refine thenA_x ?_
 refine thenA_x ?_
 refine blockA_h ?_
 refine thenA_n (sr fun _ => ?_)
 refine mz ?_
 refine AWP.ret ?_
 refine ρc ?_
 rw [fewO_yes (by omega) (fun j hj => hno j (by omega))]; rfl
end Go.Proofs.YtcndnllmlhhjiaaGreatDoor
namespace Go.Proofs.YtcndnllmlhhjiaaGreatDoor.StockP
structure It where
 id : Int
 free : Int
 held : Int
 gone : Int
deriving DecidableEq
abbrev Ln := Go.Proofs.YtcndnllmlhhjiaaGreatDoor.Ln
def may (x : It) : Bool := decide (1 ≤ x.id ∧ x.id ≤ 99999 ∧ 0 ≤ x.free ∧ 0 ≤ x.held ∧ 0 ≤ x.gone ∧ x.free + x.held + x.gone ≤ 1000000)
def okFrom : Int → List It → Bool
 | _, [] => true
 | p, x :: l => may x && decide (p < x.id) && okFrom x.id l
def ok (l : List It) : Bool := decide (l.length ≤ 20) && okFrom 0 l
def find (l : List It) (id : Int) : Option It := l.find? fun x => x.id == id
def put (l : List It) (x : It) : List It := (l.takeWhile fun y => decide (y.id < x.id)) ++ x :: l.filter fun y => decide (x.id < y.id)
theorem okFrom_lt {p : Int} {l : List It} (h : okFrom p l = true) : ∀ x, x ∈ l → p < x.id := by
 induction l generalizing p with
 | nil => intro x hx; cases hx
 | cons y l ih =>
   simp only [okFrom, Bool.and_eq_true, decide_eq_true_eq] at h
   intro x hx
   cases hx with
   | head => exact h.1.2
   | tail _ hx => have := ih h.2 x hx; omega
theorem okFrom_may {p : Int} {l : List It} (h : okFrom p l = true) : ∀ x, x ∈ l → may x = true := by
 induction l generalizing p with
 | nil => intro x hx; cases hx
 | cons y l ih =>
   simp only [okFrom, Bool.and_eq_true, decide_eq_true_eq] at h
   intro x hx
   cases hx with
   | head => exact h.1.1
   | tail _ hx => exact ih h.2 x hx
def place (q : It → Bool) : List It → Nat
 | [] => 0
 | x :: l => if q x then 0 else place q l + 1
theorem place_cons (q : It → Bool) (x : It) (l : List It) : place q (x :: l) = if q x then 0 else place q l + 1 := rfl
theorem place_le (q : It → Bool) (l : List It) : place q l ≤ l.length := by
 induction l with
 | nil => exact Nat.le_refl _
 | cons x l ih => unfold place; split <;> simp; exact ih
theorem put_set {p : Int} {l : List It} (h : okFrom p l = true) (x : It) (hx : place (fun y => y.id == x.id) l < l.length) :
   put l x = l.set (place (fun y => y.id == x.id) l) x := by
 induction l generalizing p with
 | nil => simp at hx
 | cons y l ih =>
   simp only [okFrom, Bool.and_eq_true, decide_eq_true_eq] at h
   have hlt := okFrom_lt h.2
   rw [place_cons] at hx ⊢
   by_cases e : y.id = x.id
   · have e2 : (y.id == x.id) = true := by simpa using e
     simp only [e2, if_true]
     unfold put
     rw [List.takeWhile_cons_of_neg (by simp; omega), List.filter_cons_of_neg (by simp; omega)]
     rw [List.filter_eq_self.2 (by intro z hz; have := hlt z hz; simp; omega)]
     rfl
   · have e2 : (y.id == x.id) = false := by simpa using e
     simp only [e2, Bool.false_eq_true, if_false, List.length_cons] at hx ⊢
     have ih' := ih h.2 (by omega)
     have hyx : y.id < x.id := by
       have hpl : place (fun y => y.id == x.id) l < l.length := by omega
       have : ∃ z, z ∈ l ∧ z.id = x.id := by
         clear ih ih' hlt hx h
         induction l with
         | nil => simp at hpl
         | cons z l ih =>
           rw [place_cons] at hpl
           by_cases e3 : z.id = x.id
           · exact ⟨z, List.mem_cons_self, e3⟩
           · have e4 : (z.id == x.id) = false := by simpa using e3
             simp only [e4, Bool.false_eq_true, if_false, List.length_cons] at hpl
             obtain ⟨u, hu, hu2⟩ := ih (by omega)
             exact ⟨u, List.mem_cons_of_mem _ hu, hu2⟩
       obtain ⟨z, hz, hz2⟩ := this
       have := hlt z hz
       omega
     show put (y :: l) x = y :: l.set (place _ l) x
     rw [← ih']
     unfold put
     rw [List.takeWhile_cons_of_pos (by simpa using hyx), List.filter_cons_of_neg (by simp; omega)]
     rfl
theorem put_insert {p : Int} {l : List It} (h : okFrom p l = true) (x : It) (hx : ∀ y, y ∈ l → y.id ≠ x.id) :
   put l x = l.take (place (fun y => decide (x.id < y.id)) l) ++ x :: l.drop (place (fun y => decide (x.id < y.id)) l) := by
 induction l generalizing p with
 | nil => rfl
 | cons y l ih =>
   simp only [okFrom, Bool.and_eq_true, decide_eq_true_eq] at h
   have hlt := okFrom_lt h.2
   have hne := hx y List.mem_cons_self
   unfold place
   by_cases e : x.id < y.id
   · have e2 : decide (x.id < y.id) = true := by simpa using e
     simp only [e2, if_true]
     unfold put
     rw [List.takeWhile_cons_of_neg (by simp; omega), List.filter_eq_self.2]
     · rfl
     · intro z hz
       cases hz with
       | head => simpa using e
       | tail _ hz => have := hlt z hz; simp; omega
   · have e2 : decide (x.id < y.id) = false := by simpa using e
     simp only [e2, Bool.false_eq_true, if_false]
     rw [List.take_succ_cons, List.drop_succ_cons, List.cons_append, ← ih h.2 (fun z hz => hx z (List.mem_cons_of_mem _ hz))]
     unfold put
     rw [List.takeWhile_cons_of_pos (by simp; omega), List.filter_cons_of_neg (by simp; omega)]
     rfl
def idx (q : It → Bool) (l : List It) : Int := if place q l < l.length then (place q l : Int) else -1
theorem place_at (q : It → Bool) (l : List It) (h : place q l < l.length) : q l[place q l] = true := by
 induction l with
 | nil => simp at h
 | cons x l ih =>
   by_cases e : q x = true
   · have : place q (x :: l) = 0 := by rw [place_cons, if_pos e]
     simp only [this, List.getElem_cons_zero]; exact e
   · have e2 : place q (x :: l) = place q l + 1 := by rw [place_cons, if_neg e]
     simp only [e2, List.getElem_cons_succ]
     exact ih (by rw [e2] at h; simpa using h)
theorem find_place (id : Int) (l : List It) : find l id = if h : place (fun x => x.id == id) l < l.length then some l[place (fun x => x.id == id) l] else none := by
 induction l with
 | nil => rfl
 | cons x l ih =>
   unfold find at *
   by_cases e : (x.id == id) = true
   · have e2 : place (fun x => x.id == id) (x :: l) = 0 := by rw [place_cons, if_pos e]
     rw [List.find?_cons, e]
     simp [e2]
   · have e2 : place (fun x => x.id == id) (x :: l) = place (fun x => x.id == id) l + 1 := by rw [place_cons, if_neg e]
     have e3 : (x.id == id) = false := by simpa using e
     rw [List.find?_cons, e3]
     simp only [ih]
     by_cases h : place (fun x => x.id == id) l < l.length
     · rw [dif_pos h, dif_pos (by rw [e2]; simpa using h)]
       simp only [e2, List.getElem_cons_succ]
     · rw [dif_neg h, dif_neg (by rw [e2]; simpa using h)]
def findT (l : List It) (id : Int) : It × Bool := match find l id with | some x => (x, true) | none => (⟨0, 0, 0, 0⟩, false)
def askedB (l : List It) (q : Int) : Bool := ok l && decide (1 ≤ q ∧ q ≤ 1000000)
def withP (g : It → It × Int) (l : List It) (id q : Int) : List It × Int :=
 if askedB l q = true then
   if h : place (fun x => x.id == id) l < l.length then
     if (g l[place (fun x => x.id == id) l]).2 = 0 then (l.set (place (fun x => x.id == id) l) (g l[place (fun x => x.id == id) l]).1, 0) else ([], (g l[place (fun x => x.id == id) l]).2)
   else ([], 40)
 else ([], 2)
def lastId : Int → List It → Int
 | p, [] => p
 | _, x :: l => lastId x.id l
theorem okFrom_snoc (l : List It) (x : It) : ∀ p, okFrom p (l ++ [x]) = (okFrom p l && (may x && decide (lastId p l < x.id))) := by
 induction l with
 | nil => intro p; simp [okFrom, lastId]; rfl
 | cons y l ih => intro p; simp only [List.cons_append, okFrom, ih, lastId, Bool.and_assoc]; rfl
theorem okFrom_prefix (l m : List It) : ∀ p, okFrom p (l ++ m) = true → okFrom p l = true := by
 induction l with
 | nil => intro p _; rfl
 | cons y l ih =>
   intro p h
   simp only [List.cons_append, okFrom, Bool.and_eq_true] at h ⊢
   exact ⟨h.1, ih _ h.2⟩
theorem lastId_snoc (l : List It) (x : It) : ∀ p, lastId p (l ++ [x]) = x.id := by
 induction l with
 | nil => intro p; rfl
 | cons y l ih => intro p; exact ih y.id
theorem lastId_take (xs : List It) (k : Nat) (h1 : 1 ≤ k) (h2 : k ≤ xs.length) : lastId 0 (xs.take k) = (xs[k - 1]'(by omega)).id := by
 obtain ⟨j, rfl⟩ : ∃ j, k = j + 1 := ⟨k - 1, by omega⟩
 rw [List.take_succ_eq_append_getElem (by omega), lastId_snoc]
 rfl
theorem okFrom_cut {xs : List It} {k : Nat} (h : okFrom 0 (xs.take k) = false) : okFrom 0 xs = false := by
 cases h2 : okFrom 0 xs with
 | false => rfl
 | true =>
   rw [← List.take_append_drop k xs] at h2
   rw [okFrom_prefix _ _ _ h2] at h
   exact absurd h (by decide)
end Go.Proofs.YtcndnllmlhhjiaaGreatDoor.StockP
namespace Go.Proofs.YtcndnllmlhhjiaaGreatDoor.StockP
def lentE (b c : Int) : Int := if b < 0 ∨ c < 0 then 42 else 0
def holdG (n : Int) (x : It) : It × Int := (⟨x.id, x.free - n, x.held + n, x.gone⟩, lentE (x.free - n) (x.held + n))
def freeG (n : Int) (x : It) : It × Int := (⟨x.id, x.free + n, x.held - n, x.gone⟩, lentE (x.free + n) (x.held - n))
def shipG (n : Int) (x : It) : It × Int := (⟨x.id, x.free, x.held - n, x.gone + n⟩, lentE x.free (x.held - n))
def outG (n : Int) (x : It) : It × Int := (⟨x.id, x.free - n, x.held, x.gone⟩, lentE (x.free - n) x.held)
def inG (n : Int) (x : It) : It × Int := if may ⟨x.id, x.free + n, x.held, x.gone⟩ = true then (⟨x.id, x.free + n, x.held, x.gone⟩, 0) else (⟨0, 0, 0, 0⟩, 43)
theorem may_bd {x : It} (h : may x = true) : 1 ≤ x.id ∧ x.id ≤ 99999 ∧ 0 ≤ x.free ∧ x.free ≤ 1000000 ∧ 0 ≤ x.held ∧ x.held ≤ 1000000 ∧ 0 ≤ x.gone ∧ x.gone ≤ 1000000 := by
 unfold may at h; simp at h; omega
theorem askedB_ok {l : List It} {q : Int} (h : askedB l q = true) : ok l = true ∧ 1 ≤ q ∧ q ≤ 1000000 := by
 unfold askedB at h; simp at h; exact h
theorem ok_may {l : List It} (h : ok l = true) : ∀ x, x ∈ l → may x = true := by
 unfold ok at h; simp at h; exact okFrom_may h.2
theorem ok_len {l : List It} (h : ok l = true) : l.length ≤ 20 := by unfold ok at h; simp at h; exact h.1
theorem ok_from {l : List It} (h : ok l = true) : okFrom 0 l = true := by unfold ok at h; simp at h; exact h.2
theorem findT_place (l : List It) (id : Int) : findT l id = if h : place (fun x => x.id == id) l < l.length then (l[place (fun x => x.id == id) l], true) else (⟨0, 0, 0, 0⟩, false) := by
 unfold findT; rw [find_place]
 by_cases h : place (fun x => x.id == id) l < l.length
 · rw [dif_pos h, dif_pos h]
 · rw [dif_neg h, dif_neg h]
theorem takeWhile_take (p : It → Bool) (l : List It) (k : Nat) (h1 : ∀ j, (hj : j < l.length) → j < k → p l[j] = true) (hk : k ≤ l.length) (h2 : ∀ h : k < l.length, p l[k] = false) : l.takeWhile p = l.take k := by
 induction l generalizing k with
 | nil => simp
 | cons x l ih =>
   cases k with
   | zero =>
     have := h2 (by simp)
     rw [List.takeWhile_cons_of_neg (by simpa using this)]; rfl
   | succ k =>
     have h0 := h1 0 (by simp) (by omega)
     rw [List.takeWhile_cons_of_pos (by simpa using h0), List.take_succ_cons]
     rw [ih k (fun j hj hjk => by have := h1 (j + 1) (by simpa using hj) (by omega); simpa using this) (by simpa using hk) (fun h => by have := h2 (by simpa using h); simpa using this)]
end Go.Proofs.YtcndnllmlhhjiaaGreatDoor.StockP
namespace Go.Proofs.YtcndnllmlhhjiaaGreatDoor.Stk
open Go.RowKit
open StockP
def aIt (s : It) : AV := .agg [.int .i64 s.id, .int .i64 s.free, .int .i64 s.held, .int .i64 s.gone]
instance : Inhabited It := ⟨⟨0, 0, 0, 0⟩⟩
theorem It_idx {l : List It} {k : Nat} (h : k < l.length) : l.getD k default = l[k] := by simp [List.getD, h]

def okE (l : List It) : Int := if ok l = true then 0 else 2
theorem step_ok (l : List It) (k : Nat) (hk : k < l.length) : okFrom 0 (l.take (k + 1)) = (okFrom 0 (l.take k) && (may (l.getD k default) && decide (lastId 0 (l.take k) < (l.getD k default).id))) := by
 rw [It_idx hk, show l.take (k + 1) = l.take k ++ [l[k]] by simp]; exact okFrom_snoc _ _ _
theorem last_of (l : List It) (k : Nat) (hk : k ≤ l.length) : lastId 0 (l.take k) = if 0 < k then (l.getD (k - 1) default).id else 0 := by
 by_cases h : 0 < k
 · rw [if_pos h, lastId_take l k h hk, It_idx (by omega)]
 obtain rfl : k = 0 := by omega
 rfl
theorem okE_bad {l : List It} {k : Nat} (h : okFrom 0 (l.take (k + 1)) = false) : okE l = 2 := by
 unfold okE ok; rw [okFrom_cut h]; simp
theorem okE_big {l : List It} (h : 20 < l.length) : okE l = 2 := by
 unfold okE ok; rw [decide_eq_false (by omega)]; simp
theorem okE_good {l : List It} (h : l.length ≤ 20) (h2 : okFrom 0 l = true) : okE l = 0 := by
 unfold okE ok; rw [decide_eq_true h, h2]; simp
theorem chk_bad {l : List It} {k : Nat} (hk : k < l.length) (h : may (l.getD k default) = false ∨ 0 < k ∧ (l.getD k default).id ≤ (l.getD (k - 1) default).id) : okE l = 2 := by
 refine okE_bad (k := k) ?_
 rw [step_ok l k hk, last_of l k (by omega)]
 rcases h with h | ⟨h, h2⟩
 · rw [h]; simp
 rw [if_pos h, decide_eq_false (by omega)]; simp
theorem may_iff {x : It} : may x = true ↔ 1 ≤ x.id ∧ x.id ≤ 99999 ∧ 0 ≤ x.free ∧ 0 ≤ x.held ∧ 0 ≤ x.gone ∧ x.free + x.held + x.gone ≤ 1000000 := by
 unfold may; simp
theorem may_no {x : It} (h : ¬ (1 ≤ x.id ∧ x.id ≤ 99999 ∧ 0 ≤ x.free ∧ 0 ≤ x.held ∧ 0 ≤ x.gone ∧ x.free + x.held + x.gone ≤ 1000000)) : may x = false := by
 unfold may; exact decide_eq_false h
theorem chk_go {l : List It} {k : Nat} (hk : k < l.length) (hok : okFrom 0 (l.take k) = true) (h : may (l.getD k default) = true ∧ (0 < k → (l.getD (k - 1) default).id < (l.getD k default).id)) : okFrom 0 (l.take (k + 1)) = true := by
 rw [step_ok l k hk, last_of l k (by omega), hok, h.1]
 have h1 := (may_iff.1 h.1).1
 by_cases hk0 : 0 < k
 · rw [if_pos hk0, decide_eq_true (h.2 hk0)]; rfl
 rw [if_neg hk0, decide_eq_true (by omega)]; rfl
theorem okE_ok {l : List It} : okE l = 0 ↔ ok l = true := by unfold okE; split <;> simp_all
theorem idxOf_cons {α : Type} (p : α → Bool) (x : α) (l : List α) : idxOf p (x :: l) = if p x = true then 0 else if 0 ≤ idxOf p l then idxOf p l + 1 else -1 := by
 unfold idxOf
 rw [List.findIdx?_cons]
 by_cases h : p x = true
 · simp [h]
 rw [if_neg h, if_neg h]
 cases l.findIdx? p with
 | none => simp
 | some i => simp
theorem idxOf_idx (q : It → Bool) (l : List It) : idxOf q l = idx q l := by
 induction l with
 | nil => simp [idxOf, idx, place]
 | cons x l ih =>
   rw [idxOf_cons, ih]
   unfold idx
   rw [place_cons]
   by_cases h : q x = true
   · simp [h]
   rw [if_neg h, if_neg h]
   by_cases h2 : place q l < l.length
   · rw [if_pos h2, if_pos (by omega), if_pos (by simp; omega)]; simp
   rw [if_neg h2, if_neg (by omega), if_neg (by simp; omega)]
theorem idx_neg {q : It → Bool} {l : List It} : idx q l < 0 ↔ ¬ place q l < l.length := by
 unfold idx; split <;> simp_all
theorem idx_pos {q : It → Bool} {l : List It} (h : ¬ idx q l < 0) : place q l < l.length ∧ idx q l = (place q l : Int) := by
 have h2 : place q l < l.length := by
   rw [idx_neg] at h; simpa using h
 exact ⟨h2, by unfold idx; rw [if_pos h2]⟩
theorem find_no {l : List It} {id : Int} (h : idx (fun x => x.id == id) l < 0) : findT l id = (default, false) := by
 rw [findT_place, dif_neg (idx_neg.1 h)]; rfl
theorem find_yes {l : List It} {id : Int} (h : ¬ idx (fun x => x.id == id) l < 0) : findT l id = (l.getD (idx (fun x => x.id == id) l).toNat default, true) := by
 obtain ⟨h1, h2⟩ := idx_pos h
 rw [findT_place, dif_pos h1, h2, Int.toNat_natCast, It_idx h1]
theorem asked_bd {l : List It} {q : Int} (h : askedB l q = true) : 1 ≤ q ∧ q ≤ 1000000 ∧ l.length ≤ 20 := ⟨(askedB_ok h).2.1, (askedB_ok h).2.2, ok_len (askedB_ok h).1⟩
theorem may_fn (x : It) : FnP Tryz.prog 104 [aIt x] (.bool (may x)) := by
 refine FnP.of Tryz.func104 rfl rfl (by simp) (by simp [AV.cells, aIt]) (fun G hG => ?_)
 have hN : NoH G.length (.bool (may x)) := (by simp [AV.cells, aIt])
 refine sr fun _ => ?_
 refine ARun.box (j := 0) hG rfl rfl rfl rfl rfl (ep rfl) rfl rfl optN ?_
 refine mz ?_
 refine AWP.seq (sr fun _ => ?_)
 refine ρa (fo := 0) U108 sz3 ?_
 refine ρd U3 ?_
 refine ρ1 ?_
 refine mv ?_
 refine ρt (fo := 0) U108 sz3 ?_
 refine ρs U3 ?_
 refine ρf ?_
 refine ρ8 ?_
 refine mv ?_
 refine ρt (fo := 1) U108 sz3 ?_
 refine ρs U3 ?_
 refine ρt (fo := 2) U108 sz3 ?_
 refine ρs U3 ?_
 refine ρt (fo := 3) U108 sz3 ?_
 refine ρs U3 ?_
 refine ARun.minmax3 rfl rfl rfl rfl (Ev.opt rfl (fun h => h)) (Ev.opt rfl (fun h => h)) (Ev.opt rfl (fun h => h)) (.inl ⟨rfl, rfl⟩) optS ?_
 refine ρf ?_
 refine ρ8 ?_
 refine mv ?_
 refine ρt (fo := 1) U108 sz3 ?_
 refine ρs U3 ?_
 refine ρt (fo := 2) U108 sz3 ?_
 refine ρs U3 ?_
 refine ρt (fo := 3) U108 sz3 ?_
 refine ρs U3 ?_
 refine ARun.minmax3 rfl rfl rfl rfl (Ev.opt rfl (fun h => h)) (Ev.opt rfl (fun h => h)) (Ev.opt rfl (fun h => h)) (.inr ⟨rfl, rfl⟩) optS ?_
 refine ρf ?_
 refine ρ8 ?_
 refine ez ?_
 refine ρq (fun h0 => ?_) (fun h0 => ?_)
 · simp at h0
   refine sr fun _ => ?_
   refine mz ?_
   refine AWP.ret (thenA_r ?_)
   refine ρc ?_
   rw [may_no (by omega)]; rfl
 simp at h0
 refine AWP.skip (thenA_n (sr fun _ => ?_))
 refine ρa (fo := 1) U108 sz3 ?_
 refine ρd U3 ?_
 refine ρa (fo := 2) U108 sz3 ?_
 refine ρd U3 ?_
 first | refine ρ7 ?_ | refine ρg ?_
 refine ρa (fo := 3) U108 sz3 ?_
 refine ρd U3 ?_
 first | refine ρ7 ?_ | refine ρg ?_
 refine ρ1 ?_
 refine mz ?_
 refine AWP.ret ?_
 refine ρc ?_
 rw [show may x = decide (x.free + x.held + x.gone ≤ 1000000) from by unfold may; by_cases e : x.free + x.held + x.gone ≤ 1000000 <;> simp [e] <;> omega]
theorem check_fn (l : List It) : FnP Tryz.prog 65 [.sl (l.map aIt)] (.int .i64 (okE l)) := by
 refine FnP.of Tryz.func65 rfl rfl (by simp) (by simp [AV.cells, aIt]) (fun G hG => ?_)
 have hN : NoH G.length (.int .i64 (okE l)) := (by simp [AV.cells, aIt])
 refine sr fun _ => ?_
 refine mz ?_
 refine AWP.seq (sr fun _ => ?_)
 refine mv ?_
 refine ρr U22 ?_
 refine ρ1 ?_
 refine ez ?_
 refine ρq (fun h0 => ?_) (fun h0 => ?_)
 · simp [-List.getD_eq_getElem?_getD] at h0
   refine sr fun _ => ?_
   refine mz ?_
   refine AWP.ret (thenA_r ?_)
   refine ρc ?_
   rw [okE_big (by omega)]; rfl
 simp [-List.getD_eq_getElem?_getD] at h0
 refine AWP.skip (thenA_n (AWP.seq (sr fun _ => ?_)))
 refine mv ?_
 refine ρr U22 ?_
 refine mv ?_
 refine ez ?_
 refine AWP.block ?_
 refine AWP.rounds (fun k => k ≤ l.length ∧ okFrom 0 (l.take k) = true) (fun k => [(0, .sl (l.map aIt)), (8, .sl (l.map aIt)), (9, .int .i64 ((l.map aIt).length : Int)), (10, .int .i64 (k : Int))]) (fun k => []) (fun k => l.length - k) 0 0 ⟨by omega, rfl⟩ (by repeat (first | exact .nil | refine .cons rfl ?_)) rfl (fun _ => rfl) (fun _ => (by simp [AO.conts, AV.cells, aIt])) (fun k hI => ?_)
 obtain ⟨hk, hok⟩ := hI
 refine sr fun _ => ?_
 refine ρ1 ?_
 refine ez ?_
 refine AWP.seq ?_
 refine ρq (fun h1 => ?_) (fun h1 => ?_)
 · simp [-List.getD_eq_getElem?_getD] at h1
   refine AWP.skip (thenA_n ?_)
   refine AWP.seq (AWP.block (sr fun _ => ?_))
   refine mv ?_
   first | refine ρ9 U22 sz108 ?_ | refine ρ3 U22 sz108 ?_
   refine ρk U108 sz108 ?_
   refine ρp (j := 0) zv108 ?_
   refine ma ?_
   refine ρ2 sz108 ?_
   refine ez ?_
   refine AWP.seq ?_
   refine AWP.draw mixed (by kernel_rfl) (fun _ => ?_)
   refine ρo U108 sz108 ?_
   refine ρj cf104 (fun hg => may_fn _) ?_
   refine ARun.not rfl rfl rfl rfl (ep rfl) optN ?_
   refine mv ?_
   refine ρi ?_
   refine ρf ?_
   refine ARun.move (.inl rfl) rfl rfl rfl (Ev.opt rfl (fun h => h)) optS ?_
   refine ρt (fo := 0) U108 sz3 ?_
   refine ρs U3 ?_
   refine ρi ?_
   refine ρi ?_
   first | refine ARun.arith rfl rfl rfl rfl (Ev.opt rfl (fun h => h)) (ep rfl) rfl (fun hg => i64w (by (try simp at hg); omega)) optS ?_ | refine ARun.arith rfl rfl rfl rfl (Ev.opt rfl (fun h => h)) (ep rfl) rfl (fun _ => rfl) optS ?_
   first | refine ARun.indexSl rfl rfl rfl rfl U22 sz108 (Ev.opt rfl (fun h => h)) (Ev.opt rfl (fun h => h)) (fun _ => rfl) (fun hg => getMap _ _ _ (by (try simp at hg); omega)) rfl rfl optS ?_ | refine ARun.indexSl rfl rfl rfl rfl U22 sz108 (Ev.opt rfl (fun h => h)) (Ev.opt rfl (fun h => h)) (fun hg => ofNonneg (by (try simp at hg); omega)) (fun hg => getMap _ _ _ (by (try simp at hg); omega)) rfl rfl optS ?_
   refine ARun.fieldPe rfl rfl rfl rfl U108 rfl rfl sz3 (by decide) (Ev.opt rfl (fun h => h)) rfl optS ?_
   refine ρb U3 ?_
   refine ρw ?_
   refine ARun.pick rfl rfl rfl rfl (Ev.opt rfl (fun h => h)) (Ev.opt rfl (by first | exact pkT | exact pkT2 | simp +contextual)) (ep rfl) (andB _ _) optS ?_
   refine ρ8 ?_
   refine ⟨by kernel_rfl, _, _, rfl, hG, ?_⟩
   refine thenA_n ?_
   refine ρq (fun h2 => ?_) (fun h2 => ?_)
   · simp [-List.getD_eq_getElem?_getD] at h2
     refine sr fun _ => ?_
     refine mz ?_
     refine AWP.ret (blockA_r ?_)
     refine thenA_r (thenA_r ?_)
     refine blockA_r (thenA_r ?_)
     refine ρc ?_
     rw [chk_bad h1 h2]; rfl
   simp [-List.getD_eq_getElem?_getD] at h2
   refine AWP.skip (blockA_n (thenA_n ?_))
   refine AWP.region (fun _ => ?_)
   first | refine ρ7 ?_ | refine ρg ?_
   refine mv ?_
   refine ⟨_, _, rfl, hG, ?_⟩
   refine thenA_n ⟨rfl, k + 1, _, ?_, ?_, rfl, ?_⟩
   · exact ⟨by omega, chk_go h1 hok h2⟩
   · repeat (first | exact .nil | refine .cons rfl ?_)
   omega
 simp [-List.getD_eq_getElem?_getD] at h1
 refine AWP.exit ?_
 refine thenA_x ?_
 refine thenA_x ?_
 refine blockA_h ?_
 refine thenA_n (sr fun _ => ?_)
 refine mz ?_
 refine AWP.ret ?_
 refine ρc ?_
 rw [okE_good (by omega) (by rw [← List.take_of_length_le h1]; exact hok)]; rfl
theorem asked_fn (l : List It) (q : Int) : FnP Tryz.prog 167 [.sl (l.map aIt), .int .i64 q] (.bool (askedB l q)) := by
 refine FnP.of Tryz.func167 rfl rfl (by simp) (by simp [AV.cells, aIt]) (fun G hG => ?_)
 have hN : NoH G.length (.bool (askedB l q)) := (by simp [AV.cells, aIt])
 refine sr fun _ => ?_
 refine mz (sr fun _ => ?_)
 refine mv ?_
 refine ρj cf65 (fun hg => check_fn l) ?_
 refine ρ1 ?_
 refine mv ?_
 refine ρi ?_
 refine ρf ?_
 refine ρ0 ?_
 refine mv ?_
 refine ρi ?_
 refine ρf ?_
 refine ρ0 ?_
 refine mz ?_
 refine AWP.ret ?_
 refine ρc ?_
 simp [askedB, okE_ok, Bool.decide_and, Bool.and_assoc]
theorem indexIt (F : Nat) (fs cs : List AV) (p : It → Bool) (l : List It) (hl : l.length ≤ 9223372036854775807) (hcf : ∀ (vs : Array Value) (W : World), (callFunc F vs).run Tryz.prog W = .ok (.enter F vs) W) (hn : (∀ x, x ∈ fs → NoH 0 x) ∧ ∀ x, x ∈ cs → NoH 0 x) (hp : ∀ x, x ∈ l → FnP Tryz.prog F (fs ++ [aIt x] ++ cs) (.bool (p x))) : FnP Tryz.prog 174 [.sl (l.map aIt), .fn (.func F) fs cs] (.int .i64 (idxOf p l)) := by
 refine FnP.of Tryz.func174 rfl rfl (by simp) (by simp [AV.cells, aIt]) (fun G hG => ?_)
 have hN : NoH G.length (.int .i64 (idxOf p l)) := (by simp [AV.cells, aIt])
 refine sr fun _ => ?_
 refine mz ?_
 refine AWP.seq (sr fun _ => ?_)
 refine mv ?_
 refine ρr U22 ?_
 refine mv ?_
 refine ez ?_
 refine AWP.block ?_
 refine AWP.rounds (fun k => k ≤ l.length ∧ ∀ j, j < k → p (l.getD j default) = false) (fun k => [(0, .sl (l.map aIt)), (1, .fn (.func F) fs cs), (7, .int .i64 ((l.map aIt).length : Int)), (8, .int .i64 (k : Int))]) (fun k => []) (fun k => l.length - k) 0 0 ⟨by omega, fun j h => by omega⟩ (by repeat (first | exact .nil | refine .cons rfl ?_)) rfl (fun _ => rfl) (fun _ => ⟨by simp [AV.cells, aIt]; exact ⟨fun x hx => (hn.1 x hx).mono (by omega), fun x hx => (hn.2 x hx).mono (by omega)⟩, by simp⟩) (fun k hI => ?_)
 obtain ⟨hk, hno⟩ := hI
 refine sr fun _ => ?_
 refine ρ1 ?_
 refine ez ?_
 refine AWP.seq ?_
 refine ρq (fun h0 => ?_) (fun h0 => ?_)
 · try simp [-List.getD_eq_getElem?_getD] at h0
   refine AWP.skip (thenA_n ?_)
   refine AWP.seq (AWP.block (sr fun _ => ?_))
   refine mv ?_
   refine mz (sr fun _ => ?_)
   refine mv ?_
   refine mv ?_
   refine mv ?_
   first | refine ρ9 U22 sz108 ?_ | refine ρ3 U22 sz108 ?_
   refine ρk U108 sz108 ?_
   refine ARun.call rfl rfl rfl rfl hcf (ep rfl) (.cons (ep rfl) .nil) rfl (fun hg => hp _ (by rw [List.getD, List.getElem?_eq_getElem h0]; exact List.getElem_mem h0)) optN ?_
   refine ez ?_
   refine ρq (fun h1 => ?_) (fun h1 => ?_)
   · try simp [-List.getD_eq_getElem?_getD] at h1
     refine sr fun _ => ?_
     refine mv ?_
     refine mz ?_
     refine AWP.ret (blockA_r ?_)
     refine thenA_r (thenA_r ?_)
     refine blockA_r (thenA_r ?_)
     refine ρc ?_
     rw [idx_hit h0 hno h1]
   try simp [-List.getD_eq_getElem?_getD] at h1
   refine AWP.skip (blockA_n (thenA_n ?_))
   refine AWP.region (fun _ => ?_)
   first | refine ρ7 ?_ | refine ρg ?_
   refine mv ?_
   refine ⟨_, _, rfl, hG, ?_⟩
   refine thenA_n ⟨rfl, k + 1, _, ?_, ?_, rfl, ?_⟩
   · refine ⟨by omega, fun j hj => ?_⟩
     by_cases e : j = k
     · subst e; exact h1
     exact hno j (by omega)
   · repeat (first | exact .nil | refine .cons rfl ?_)
   omega
 try simp [-List.getD_eq_getElem?_getD] at h0
 refine AWP.exit ?_
 refine thenA_x ?_
 refine thenA_x ?_
 refine blockA_h ?_
 refine thenA_n (sr fun _ => ?_)
 refine mz ?_
 refine AWP.ret ?_
 refine ρc ?_
 rw [idx_none (fun j hj => hno j (by omega))]; rfl

theorem atf_fn (x : It) (id : Int) : FnP Tryz.prog 183 [aIt x, .pe [.int .i64 id]] (.bool (x.id == id)) := by
 refine FnP.of Tryz.func183 rfl rfl (by simp) (by simp [AV.cells, aIt]) (fun G hG => ?_)
 have hN : NoH G.length (.bool (x.id == id)) := (by simp [AV.cells, aIt])
 refine sr fun _ => ?_
 refine ARun.box (j := 0) hG rfl rfl rfl rfl rfl (ep rfl) rfl rfl optN ?_
 refine mz (sr fun _ => ?_)
 refine ρo U108 sz108 ?_
 first | refine ρ5 U3 ?_ | refine ρd U3 ?_
 refine ρa (fo := 1) U108 sz3 ?_
 refine ρd U3 ?_
 refine ρa (fo := 2) U108 sz3 ?_
 refine ρd U3 ?_
 refine ρa (fo := 3) U108 sz3 ?_
 refine ρd U3 ?_
 refine ARun.build rfl rfl rfl rfl so108 (.cons (ep rfl) (.cons (ep rfl) (.cons (ep rfl) (.cons (ep rfl) .nil)))) rfl rfl optN ?_
 refine ARun.eqAgg rfl rfl rfl rfl eq108 (ep rfl) (ep rfl) rfl (.inl ⟨rfl, rfl⟩) optN ?_
 refine mz ?_
 refine AWP.ret ?_
 refine ρc ?_
 simp [BEq.beq]
theorem at_fn (l : List It) (id : Int) (hl : l.length ≤ 9223372036854775807) : FnP Tryz.prog 168 [.sl (l.map aIt), .int .i64 id] (.int .i64 (idx (fun x => x.id == id) l)) := by
 refine FnP.of Tryz.func168 rfl rfl (by simp) (by simp [AV.cells, aIt]) (fun G hG => ?_)
 have hN : NoH G.length (.int .i64 (idx (fun x => x.id == id) l)) := (by simp [AV.cells, aIt])
 refine sr fun _ => ?_
 refine ARun.box1 (j := 0) hG rfl rfl rfl rfl rfl (ep rfl) (by first | rfl | exact aEr_one _ | exact aFl_one _) optN ?_
 refine mz ?_
 refine AWP.seq ?_
 refine AWP.frzBox 3 hG rfl rfl rfl ?_
 refine AWP.region (fun _ => ?_)
 refine mv ?_
 refine ARun.makeFunc rfl rfl rfl rfl .nil (.cons (ep rfl) .nil) optN ?_
 refine ρh cf174 ?_ (hF := fun hg => indexIt 183 [] [.pe [.int .i64 id]] (fun x => x.id == id) l hl cf183 (by simp) (fun x _ => atf_fn x id))
 refine mz ?_
 refine AWP.ret ?_
 refine ρc ?_
 rw [← idxOf_idx]
theorem find_fn (l : List It) (id : Int) (hl : l.length ≤ 9223372036854775807) : FnP Tryz.prog 151 [.sl (l.map aIt), .int .i64 id] (.tup [aIt (findT l id).1, .bool (findT l id).2]) := by
 have hp := fun h => idx_pos (q := fun x : It => x.id == id) (l := l) h
 refine FnP.of Tryz.func151 rfl rfl (by simp) (by simp [AV.cells, aIt]) (fun G hG => ?_)
 have hN : NoH G.length (.tup [aIt (findT l id).1, .bool (findT l id).2]) := (by simp [AV.cells, aIt])
 refine sr fun _ => ?_
 refine ρp (j := 0) zv108 ?_
 refine mz (sr fun _ => ?_)
 refine mv ?_
 refine mv ?_
 refine ρm cf168 (fun hg => at_fn l id hl) ?_
 refine mz ?_
 refine AWP.seq (sr fun _ => ?_)
 refine mv ?_
 refine ρ1 ?_
 refine ez ?_
 refine ρq (fun h0 => ?_) (fun h0 => ?_)
 · try simp at h0
   refine sr fun _ => ?_
   refine ARun.build rfl rfl rfl rfl so108 .nil rfl rfl optN ?_
   refine ρ2 sz108 ?_
   refine mz ?_
   refine AWP.ret (thenA_r ?_)
   refine ρl (rs := [.cell 4 108, .tmp 5]) (.cons (.cellA rfl ((hG.at _ _).trans rfl) U108 rfl sz108 rfl rfl) (.cons (.tmp rfl) .nil)) ?_
   rw [find_no h0]; rfl
 try simp at h0
 refine AWP.skip (thenA_n (sr fun _ => ?_))
 refine mv ?_
 refine mv ?_
 first | refine ρ9 U22 sz108 ?_ | refine ρ3 U22 sz108 ?_
 refine ρk U108 sz108 ?_
 refine ρ2 sz108 ?_
 refine mz ?_
 refine AWP.ret ?_
 refine ρl (rs := [.cell 4 108, .tmp 5]) (.cons (.cellA rfl ((hG.at _ _).trans rfl) U108 rfl sz108 rfl rfl) (.cons (.tmp rfl) .nil)) ?_
 rw [find_yes (by omega)]; rfl
theorem lent_fn (x : It) : FnP Tryz.prog 184 [aIt x] (.int .i64 (lentE x.free x.held)) := by
 refine FnP.of Tryz.func184 rfl rfl (by simp) (by simp [AV.cells, aIt]) (fun G hG => ?_)
 have hN : NoH G.length (.int .i64 (lentE x.free x.held)) := (by simp [AV.cells, aIt])
 refine sr fun _ => ?_
 refine ARun.box (j := 0) hG rfl rfl rfl rfl rfl (ep rfl) rfl rfl optN ?_
 refine mz ?_
 refine AWP.seq (sr fun _ => ?_)
 refine ρa (fo := 1) U108 sz3 ?_
 refine ρd U3 ?_
 refine ρa (fo := 2) U108 sz3 ?_
 refine ρd U3 ?_
 refine ARun.minmax rfl rfl rfl rfl (ep rfl) (ep rfl) (.inl ⟨rfl, rfl⟩) optN ?_
 refine ρ1 ?_
 refine ez ?_
 refine ρq (fun h0 => ?_) (fun h0 => ?_)
 · simp at h0
   refine sr fun _ => ?_
   refine mz ?_
   refine AWP.ret (thenA_r ?_)
   refine ρc ?_
   unfold lentE; rw [if_pos (by omega)]; rfl
 simp at h0
 refine AWP.skip (thenA_n (sr fun _ => ?_))
 refine mz ?_
 refine AWP.ret ?_
 refine ρc ?_
 unfold lentE; rw [if_neg (by omega)]; rfl
theorem inA_fn (n : Int) (x : It) (hx : may x = true) (hn : 1 ≤ n ∧ n ≤ 1000000) : FnP Tryz.prog 171 [.int .i64 n, aIt x] (.tup [aIt (inG n x).1, .int .i64 (inG n x).2]) := by
 have hb := may_bd hx
 refine FnP.of Tryz.func171 rfl rfl (by simp) (by simp [AV.cells, aIt]) (fun G hG => ?_)
 have hN : NoH G.length (.tup [aIt (inG n x).1, .int .i64 (inG n x).2]) := (by simp [AV.cells, aIt])
 refine sr fun _ => ?_
 refine ARun.box (j := 0) hG rfl rfl rfl rfl rfl (ep rfl) rfl rfl optN ?_
 refine ρp (j := 1) zv108 ?_
 refine mz (sr fun _ => ?_)
 refine ρa (fo := 1) U108 sz3 ?_
 refine ρd U3 ?_
 refine mv ?_
 first | refine ρ7 ?_ | refine ρg ?_
 refine ρa (fo := 1) U108 sz3 ?_
 refine ρu sz3 ?_
 refine ez ?_
 refine AWP.seq (sr fun _ => ?_)
 refine ρo U108 sz108 ?_
 refine ρj cf104 (fun hg => may_fn ⟨x.id, x.free + n, x.held, x.gone⟩) ?_
 refine ARun.not rfl rfl rfl rfl (ep rfl) optN ?_
 refine ez ?_
 refine ρq (fun h0 => ?_) (fun h0 => ?_)
 · simp at h0
   refine sr fun _ => ?_
   refine ARun.build rfl rfl rfl rfl so108 .nil rfl rfl optN ?_
   refine ρ2 sz108 ?_
   refine mz ?_
   refine AWP.ret (thenA_r ?_)
   refine ρl (rs := [.cell 4 108, .tmp 5]) (.cons (.cellA rfl ((hG.at _ _).trans rfl) U108 rfl sz108 rfl rfl) (.cons (.tmp rfl) .nil)) ?_
   unfold inG; rw [if_neg (by simp [h0])]; rfl
 simp at h0
 refine AWP.skip (thenA_n (sr fun _ => ?_))
 refine ρo U108 sz108 ?_
 refine ρ2 sz108 ?_
 refine mz ?_
 refine AWP.ret ?_
 refine ρl (rs := [.cell 4 108, .tmp 5]) (.cons (.cellA rfl ((hG.at _ _).trans rfl) U108 rfl sz108 rfl rfl) (.cons (.tmp rfl) .nil)) ?_
 unfold inG; rw [if_pos h0]; rfl
theorem outA_fn (n : Int) (x : It) (hx : may x = true) (hn : 1 ≤ n ∧ n ≤ 1000000) : FnP Tryz.prog 170 [.int .i64 n, aIt x] (.tup [aIt (outG n x).1, .int .i64 (outG n x).2]) := by
 have hb := may_bd hx
 refine FnP.of Tryz.func170 rfl rfl (by simp) (by simp [AV.cells, aIt]) (fun G hG => ?_)
 have hN : NoH G.length (.tup [aIt (outG n x).1, .int .i64 (outG n x).2]) := (by simp [AV.cells, aIt])
 refine sr fun _ => ?_
 refine ARun.box (j := 0) hG rfl rfl rfl rfl rfl (ep rfl) rfl rfl optN ?_
 refine ρp (j := 1) zv108 ?_
 refine mz (sr fun _ => ?_)
 refine ρa (fo := 1) U108 sz3 ?_
 refine ρd U3 ?_
 refine mv ?_
 first | refine ρ7 ?_ | refine ρg ?_
 refine ρa (fo := 1) U108 sz3 ?_
 refine ρu sz3 ?_
 refine ez ?_
 refine AWP.seq ?_
 refine AWP.draw mixed (by kernel_rfl) (fun _ => ?_)
 refine ρo U108 sz108 ?_
 refine ρo U108 sz108 ?_
 refine ρj cf184 (fun hg => lent_fn ⟨x.id, x.free - n, x.held, x.gone⟩) ?_
 refine ρ2 sz108 ?_
 refine ma ?_
 refine ⟨by kernel_rfl, _, _, rfl, hG, ?_⟩
 refine thenA_n (AWP.ret ?_)
 refine ρl (rs := [.cell 4 108, .tmp 5]) (.cons (.cellA rfl ((hG.at _ _).trans rfl) U108 rfl sz108 rfl rfl) (.cons (.tmp rfl) .nil)) ?_
 rfl
theorem holdA_fn (n : Int) (x : It) (hx : may x = true) (hn : 1 ≤ n ∧ n ≤ 1000000) : FnP Tryz.prog 177 [.int .i64 n, aIt x] (.tup [aIt (holdG n x).1, .int .i64 (holdG n x).2]) := by
 have hb := may_bd hx
 refine FnP.of Tryz.func177 rfl rfl (by simp) (by simp [AV.cells, aIt]) (fun G hG => ?_)
 have hN : NoH G.length (.tup [aIt (holdG n x).1, .int .i64 (holdG n x).2]) := (by simp [AV.cells, aIt])
 refine sr fun _ => ?_
 refine ARun.box (j := 0) hG rfl rfl rfl rfl rfl (ep rfl) rfl rfl optN ?_
 refine ρp (j := 1) zv108 ?_
 refine mz (sr fun _ => ?_)
 refine ρa (fo := 1) U108 sz3 ?_
 refine ρd U3 ?_
 refine mv ?_
 first | refine ρ7 ?_ | refine ρg ?_
 refine ρa (fo := 2) U108 sz3 ?_
 refine ρd U3 ?_
 refine mv ?_
 first | refine ρ7 ?_ | refine ρg ?_
 refine ρa (fo := 1) U108 sz3 ?_
 refine ρu sz3 ?_
 refine ρa (fo := 2) U108 sz3 ?_
 refine ρu sz3 ?_
 refine ez ?_
 refine AWP.seq ?_
 refine AWP.draw mixed (by kernel_rfl) (fun _ => ?_)
 refine ρo U108 sz108 ?_
 refine ρo U108 sz108 ?_
 refine ρj cf184 (fun hg => lent_fn ⟨x.id, x.free - n, x.held + n, x.gone⟩) ?_
 refine ρ2 sz108 ?_
 refine ma ?_
 refine ⟨by kernel_rfl, _, _, rfl, hG, ?_⟩
 refine thenA_n (AWP.ret ?_)
 refine ρl (rs := [.cell 4 108, .tmp 5]) (.cons (.cellA rfl ((hG.at _ _).trans rfl) U108 rfl sz108 rfl rfl) (.cons (.tmp rfl) .nil)) ?_
 rfl
theorem freeA_fn (n : Int) (x : It) (hx : may x = true) (hn : 1 ≤ n ∧ n ≤ 1000000) : FnP Tryz.prog 178 [.int .i64 n, aIt x] (.tup [aIt (freeG n x).1, .int .i64 (freeG n x).2]) := by
 have hb := may_bd hx
 refine FnP.of Tryz.func178 rfl rfl (by simp) (by simp [AV.cells, aIt]) (fun G hG => ?_)
 have hN : NoH G.length (.tup [aIt (freeG n x).1, .int .i64 (freeG n x).2]) := (by simp [AV.cells, aIt])
 refine sr fun _ => ?_
 refine ARun.box (j := 0) hG rfl rfl rfl rfl rfl (ep rfl) rfl rfl optN ?_
 refine ρp (j := 1) zv108 ?_
 refine mz (sr fun _ => ?_)
 refine ρa (fo := 1) U108 sz3 ?_
 refine ρd U3 ?_
 refine mv ?_
 first | refine ρ7 ?_ | refine ρg ?_
 refine ρa (fo := 2) U108 sz3 ?_
 refine ρd U3 ?_
 refine mv ?_
 first | refine ρ7 ?_ | refine ρg ?_
 refine ρa (fo := 1) U108 sz3 ?_
 refine ρu sz3 ?_
 refine ρa (fo := 2) U108 sz3 ?_
 refine ρu sz3 ?_
 refine ez ?_
 refine AWP.seq ?_
 refine AWP.draw mixed (by kernel_rfl) (fun _ => ?_)
 refine ρo U108 sz108 ?_
 refine ρo U108 sz108 ?_
 refine ρj cf184 (fun hg => lent_fn ⟨x.id, x.free + n, x.held - n, x.gone⟩) ?_
 refine ρ2 sz108 ?_
 refine ma ?_
 refine ⟨by kernel_rfl, _, _, rfl, hG, ?_⟩
 refine thenA_n (AWP.ret ?_)
 refine ρl (rs := [.cell 4 108, .tmp 5]) (.cons (.cellA rfl ((hG.at _ _).trans rfl) U108 rfl sz108 rfl rfl) (.cons (.tmp rfl) .nil)) ?_
 rfl
theorem shipA_fn (n : Int) (x : It) (hx : may x = true) (hn : 1 ≤ n ∧ n ≤ 1000000) : FnP Tryz.prog 179 [.int .i64 n, aIt x] (.tup [aIt (shipG n x).1, .int .i64 (shipG n x).2]) := by
 have hb := may_bd hx
 refine FnP.of Tryz.func179 rfl rfl (by simp) (by simp [AV.cells, aIt]) (fun G hG => ?_)
 have hN : NoH G.length (.tup [aIt (shipG n x).1, .int .i64 (shipG n x).2]) := (by simp [AV.cells, aIt])
 refine sr fun _ => ?_
 refine ARun.box (j := 0) hG rfl rfl rfl rfl rfl (ep rfl) rfl rfl optN ?_
 refine ρp (j := 1) zv108 ?_
 refine mz (sr fun _ => ?_)
 refine ρa (fo := 2) U108 sz3 ?_
 refine ρd U3 ?_
 refine mv ?_
 first | refine ρ7 ?_ | refine ρg ?_
 refine ρa (fo := 3) U108 sz3 ?_
 refine ρd U3 ?_
 refine mv ?_
 first | refine ρ7 ?_ | refine ρg ?_
 refine ρa (fo := 2) U108 sz3 ?_
 refine ρu sz3 ?_
 refine ρa (fo := 3) U108 sz3 ?_
 refine ρu sz3 ?_
 refine ez ?_
 refine AWP.seq ?_
 refine AWP.draw mixed (by kernel_rfl) (fun _ => ?_)
 refine ρo U108 sz108 ?_
 refine ρo U108 sz108 ?_
 refine ρj cf184 (fun hg => lent_fn ⟨x.id, x.free, x.held - n, x.gone + n⟩) ?_
 refine ρ2 sz108 ?_
 refine ma ?_
 refine ⟨by kernel_rfl, _, _, rfl, hG, ?_⟩
 refine thenA_n (AWP.ret ?_)
 refine ρl (rs := [.cell 4 108, .tmp 5]) (.cons (.cellA rfl ((hG.at _ _).trans rfl) U108 rfl sz108 rfl rfl) (.cons (.tmp rfl) .nil)) ?_
 rfl
end Go.Proofs.YtcndnllmlhhjiaaGreatDoor.Stk
namespace Go.Proofs.YtcndnllmlhhjiaaGreatDoor.Stk
open Go.ChangeShapes Go.WideShapes Go.ChangeAt Go.RowKit
open StockP
def encIt (x : It) : List Value := [.int .i64 x.id, .int .i64 x.free, .int .i64 x.held, .int .i64 x.gone]
theorem encIt_len (x : It) : (encIt x).length = 4 := rfl
structure BoxIt (W : World) (B : Nat) (a0 a1 a2 a3 : Value) : Prop where
 size : B < W.heap.size
 x0 : W.cell? ⟨B, 0, none⟩ = some a0
 x1 : W.cell? ⟨B, 1, none⟩ = some a1
 x2 : W.cell? ⟨B, 2, none⟩ = some a2
 x3 : W.cell? ⟨B, 3, none⟩ = some a3
 fz : ∀ j, W.frozen? ⟨B, j, none⟩ = false
theorem infoIt : (Tryz.prog.info? 108).map (fun i => (i.zero, i.size, i.bytes)) = some (some (.agg #[.int .i64 0, .int .i64 0, .int .i64 0, .int .i64 0]), 4, 32) := by kernel_rfl
end Go.Proofs.YtcndnllmlhhjiaaGreatDoor.Stk
namespace Go.Proofs.YtcndnllmlhhjiaaGreatDoor.Stk
open Go.ChangeShapes Go.WideShapes Go.ChangeAt Go.RowKit
open StockP
theorem cloneIt_any (a : Option Addr) (cap : Nat) (xs : List It) (w : World) (hr : Reads encIt 4 w a xs) (hl : xs.length ≤ 1000000) :
   Calls Tryz.prog 57 #[.slice a xs.length cap] w fun e w' => ∃ v, e = .returned v ∧ w'.ownsRow w.heap.size 108 4 v xs.length (xs.flatMap encIt) ∧ Below w.heap.size w w' := by
 cases a with
 | none =>
   have hx : xs = [] := by
     cases xs with
     | nil => rfl
     | cons x xs => obtain ⟨b, off, h, _⟩ := hr 0 (by simp); cases h
   subst hx
   have hnil := Lib.run_eql_slice_nil (P := Tryz.prog) w 22 108 none 0 cap 0 0 U22
   have HP := Lib.hid (World.ownsRow_nil w w.heap.size 108 4)
   go_enter Tryz.func57, Tryz.ntmps57
   go_wp2_with fail
   go_ret
   exact ⟨_, rfl, HP.out, Below.refl _ _⟩
 | some ad =>
   obtain ⟨i0, hi, hz0, hz1, hz2⟩ := info_parts infoIt
   have hnil := Lib.run_eql_slice_nil (P := Tryz.prog) w 22 108 (some ad) xs.length cap 0 0 U22
   have HR := Lib.hid hr
   clear hr
   go_enter Tryz.func57, Tryz.ntmps57
   have hfl := HR.out.flat (by omega) encIt_len
   have HFL := Lib.hid hfl
   clear hfl
   go_wp2_with (at_builtin; refine wpList_append_own _ rfl _ _ 22 rfl w.heap.size 108 i0 (.agg #[.int .i64 0, .int .i64 0, .int .i64 0, .int .i64 0]) 4 32 U22 hi hz0 hz1 hz2 rfl (by decide) _ _ _ rfl (World.ownsRow_made w #[] 0 (Nat.le_refl _) (by unfold maxLen; omega) rfl) ad xs.length cap (xs.flatMap encIt) rfl ?c0 ?c1 ?c2 ?c3 ?c4 ?c5 ?_)
   case c0 => rw [flat_len encIt 4 encIt_len]
   case c1 =>
     intro j u hu
     obtain ⟨h1, h2⟩ := HFL.out j u hu
     have h3 : (ad.add j).block = ad.block := by unfold Addr.add; split <;> rfl
     rw [World.cell?_alloc_lt _ _ _ (by rw [h3]; exact h1)]
     exact h2
   case c2 =>
     intro u hu
     obtain ⟨x, _, hx⟩ := List.mem_flatMap.1 hu
     simp [encIt] at hx
     rcases hx with rfl | rfl | rfl | rfl <;> rfl
   case c3 => unfold maxLen; omega
   case c4 => omega
   case c5 => simp
   intro v' w2 hown' hgrow _
   have hbel : Below w.heap.size w w2 := ((Below.refl _ _).alloc (Nat.le_refl _) _).grown hgrow (by simp) (fun k hk => by simp [Value.ownBlock] at hk; omega)
   have HO := Lib.hid hown'
   clear hown' hgrow
   go_wp2_with fail
   go_ret
   exact ⟨_, rfl, HO.out, hbel⟩
end Go.Proofs.YtcndnllmlhhjiaaGreatDoor.Stk
namespace Go.Proofs.YtcndnllmlhhjiaaGreatDoor.Stk
open Go.ChangeShapes Go.WideShapes Go.ChangeAt Go.RowKit
theorem copy_run_eq {P : Program} (w : World) {o : Oper} {a : Act} {K : Act → World → Prop} {Q : Exit → Act → World → Prop} (d s : Operand) (t t' : TypeId)
   (ho : o.op = .call { callee := .builtin .copy, args := #[d, s], argTypes := #[t, t'] }) (v u : Value) (hd : a.eval d = v) (hs : a.eval s = u) {v' : Value} {w' : World}
   (hr : (Builtin.copy_ #[t, t'] o.type #[v, u]).run P w = .ok v' w') (h : K (a.put o.dst v') w') : o.wp P a w K Q := by
 unfold Oper.wp execOp
 simp only [ho, resolve, invoke, builtin, Sem.run_bind, Sem.run_pure, Result.andThen_ok, List.map_toArray, List.map_cons, List.map_nil, hd, hs, hr]
 exact h
theorem wpList_copy_eq {P : Program} (w : World) {ops : Array Oper} {rest : List Oper} {o : Oper} {a : Act} {Q : Exit → Act → World → Prop} (hgd : o.guard = none) (d s : Operand) (t t' : TypeId)
   (ho : o.op = .call { callee := .builtin .copy, args := #[d, s], argTypes := #[t, t'] }) (v u : Value) (hd : a.eval d = v) (hs : a.eval s = u) {v' : Value} {w' : World}
   (hr : (Builtin.copy_ #[t, t'] o.type #[v, u]).run P w = .ok v' w') (h : wpList P ops Q rest (a.put o.dst v') w') : wpList P ops Q (o :: rest) a w :=
 wpList_plain hgd fun _ hK => copy_run_eq w d s t t' ho v u hd hs hr (hK _ _ h)
theorem wpList_append_eq {P : Program} (w : World) {ops : Array Oper} {rest : List Oper} {o : Oper} {a : Act} {Q : Exit → Act → World → Prop} (hgd : o.guard = none) (d s : Operand) (t t' : TypeId)
   (ho : o.op = .call { callee := .builtin .append, args := #[d, s], argTypes := #[t, t'] }) (v u : Value) (hd : a.eval d = v) (hs : a.eval s = u) {v' : Value} {w' : World}
   (hr : (Builtin.append_ #[t, t'] o.type #[v, u]).run P w = .ok v' w') (h : wpList P ops Q rest (a.put o.dst v') w') : wpList P ops Q (o :: rest) a w := by
 refine wpList_plain hgd fun _ hK => ?_
 unfold Oper.wp execOp
 simp only [ho, resolve, invoke, builtin, Sem.run_bind, Sem.run_pure, Result.andThen_ok, List.map_toArray, List.map_cons, List.map_nil, hd, hs, hr]
 exact hK _ _ h
theorem run_copy_row {P : Program} (w : World) (dT sT ty elem : TypeId) (sz b o dLen dCap : Nat) (cur : Array Value) (T : TypeId) (a : Addr) (sLen sCap : Nat) (cs : List Value) (q : Nat)
   (hu : P.underlying dT = some (.slice elem)) (hs : Sz P elem sz) (hq : Nat.min sLen dLen = q) (hn : cs.length = q * sz) (hb : w.heap[b]? = some (.cells cur T (0, 0)))
   (hsrc : ∀ j v, cs[j]? = some v → w.cell? (a.add j) = some v) (hfit : o + cs.length ≤ cur.size) (h1 : ∀ v ∈ cs, v.oneCell' = true) :
   (Builtin.copy_ #[dT, sT] ty #[.slice (some ⟨b, o, none⟩) dLen dCap, .slice (some a) sLen sCap]).run P w = .ok (goInt q) (w.setRow b (cur.toList.take o ++ cs ++ cur.toList.drop (o + cs.length)).toArray) := by
 subst hq
 have hf := run_firstCells_some (P := P) w sz (Nat.min sLen dLen) a sLen sCap cs hn hsrc
 have hst := run_storeCells_at P b o T cs 0 cur w hb (by simpa using hfit) h1
 rw [Nat.add_zero] at hst
 simp [Builtin.copy_, run_underlying hu, Builtin.lenOf, hs.run, hf, hst]
theorem rowL {w : World} {b : Nat} {cur : Array Value} {T : TypeId} (h : w.heap[b]? = some (.cells cur T (0, 0))) (j : Nat) : w.cell? ⟨b, j, none⟩ = cur[j]? := by simp [World.cell?, h]
set_option maxHeartbeats 4000000 in
theorem insertIt_end (w : World) (v v2 : Value) (n : Nat) (us X : List Value) (hown : w.ownsRow 0 108 4 v n us) (ho2 : w.ownsRow 0 108 4 v2 1 X) (h1X : ∀ u ∈ X, u.oneCell' = true) (hn : n + 1 ≤ 1000000) :
   Calls Tryz.prog 176 #[v, .int .i64 n, v2] w fun e w' => ∃ v', e = .returned v' ∧ w'.ownsRow 0 108 4 v' (n + 1) (us ++ X) ∧ w.grownBy w' v.ownBlock ∧ (v'.ownBlock = v.ownBlock ∨ v'.ownBlock = some w.heap.size) := by
 obtain ⟨i0, hi, hz0, hz1, hz2⟩ : ∃ i0, Tryz.prog.info? 108 = some i0 ∧ i0.zero = some (.agg #[.int .i64 0, .int .i64 0, .int .i64 0, .int .i64 0]) ∧ i0.size = 4 ∧ i0.bytes = 32 := by
   have hT : Ti Tryz.prog 108 (.agg #[.int .i64 0, .int .i64 0, .int .i64 0, .int .i64 0]) 4 32 := by unfold Ti; kernel_rfl
   unfold Ti at hT
   cases hi : Tryz.prog.info? 108 with
   | none => rw [hi] at hT; cases hT
   | some i => rw [hi] at hT; simp at hT; exact ⟨i, rfl, hT⟩
 rcases ho2.2 with ⟨_, h0⟩ | ⟨vb, vc, vcur, rfl, _, hvg, hvnc, hvcm, hvcs, hvt⟩
 · omega
 have hXl : X.length = 1 * 4 := ho2.1
 have hXc : ∀ j u, X[j]? = some u → w.cell? ((⟨vb, 0, none⟩ : Addr).add j) = some u := ho2.cells rfl
 have HOWN := Lib.hid hown
 have HV : ∃ sa sc, v = .slice sa n sc ∧ n ≤ sc ∧ sc ≤ maxLen := by
   rcases hown.2 with ⟨rfl, rfl⟩ | ⟨g, cap, cur, rfl, _, _, h1, h2, _⟩
   · exact ⟨none, 0, rfl, Nat.le_refl _, Nat.zero_le _⟩
   · exact ⟨_, cap, rfl, h1, h2⟩
 obtain ⟨sa, sc, rfl, hsc, hscm⟩ := HV
 unfold maxLen at hscm
 have H2 := Lib.hid (And.intro hXl hXc)
 have H3 := Lib.hid h1X
 clear hown ho2 hvg hvt hXl hXc h1X
 by_cases hcn : sc = n
 · obtain rfl : n = sc := hcn.symm
   go_enter Tryz.func176, Tryz.ntmps176
   go_wp2_with (at_builtin; refine wpList_append_own_at _ rfl _ _ 22 rfl 0 108 i0 (.agg #[.int .i64 0, .int .i64 0, .int .i64 0, .int .i64 0]) 4 32 U22 hi hz0 hz1 hz2 rfl (by decide) _ n us rfl HOWN.out ⟨vb, 0, none⟩ 1 vc X rfl H2.out.1 H2.out.2 H3.out ?c3 ?c4 (Nat.zero_le _) ?_)
   case c3 => unfold maxLen; omega
   case c4 => omega
   intro v' w' hown' hgrow _ hblk
   have HF := Lib.hid (And.intro hown' (And.intro hgrow hblk))
   clear hown' hgrow hblk
   go_wp2_with fail
   go_ret
   exact ⟨_, rfl, HF.out.1, HF.out.2.1, HF.out.2.2⟩
 · have hcn' : ¬ n = sc := fun e => hcn e.symm
   go_enter Tryz.func176, Tryz.ntmps176
   go_wp2_with (at_builtin; refine wpList_append_own_at _ rfl _ _ 22 rfl 0 108 i0 (.agg #[.int .i64 0, .int .i64 0, .int .i64 0, .int .i64 0]) 4 32 U22 hi hz0 hz1 hz2 rfl (by decide) _ n us rfl HOWN.out ⟨vb, 0, none⟩ 1 vc X rfl H2.out.1 H2.out.2 H3.out ?c3 ?c4 (Nat.zero_le _) ?_)
   case c3 => unfold maxLen; omega
   case c4 => omega
   intro v' w' hown' hgrow _ hblk
   have HF := Lib.hid (And.intro hown' (And.intro hgrow hblk))
   clear hown' hgrow hblk
   go_wp2_with fail
   go_ret
   exact ⟨_, rfl, HF.out.1, HF.out.2.1, HF.out.2.2⟩
def midRow (cur : List Value) (X : List Value) (a n1 z : Nat) : List Value :=
 let R1 := cur.take (a + z) ++ (cur.drop a).take (n1 - a) ++ cur.drop (a + z + (n1 - a))
 R1.take a ++ X ++ R1.drop (a + z)
theorem midRow_take (cur X : List Value) (a n1 z : Nat) (ha : a ≤ n1) (hX : X.length = z) (hc : n1 + z ≤ cur.length) : (midRow cur X a n1 z).take (n1 + z) = cur.take a ++ X ++ (cur.take n1).drop a ∧ (midRow cur X a n1 z).length = cur.length := by
 unfold midRow
 simp only
 have e1 : (cur.take (a + z) ++ (cur.drop a).take (n1 - a) ++ cur.drop (a + z + (n1 - a))).take a = cur.take a := by
   rw [List.append_assoc, List.take_append_of_le_length (by simp; omega), List.take_take]; congr 1; omega
 have e2 : (cur.take (a + z) ++ (cur.drop a).take (n1 - a) ++ cur.drop (a + z + (n1 - a))).drop (a + z) = (cur.drop a).take (n1 - a) ++ cur.drop (a + z + (n1 - a)) := by
   rw [List.append_assoc, List.drop_append_of_le_length (by simp; omega), List.drop_eq_nil_of_le (by simp; omega), List.nil_append]
 rw [e1, e2]
 constructor
 · rw [← List.append_assoc, List.take_append_of_le_length (by simp; omega), List.take_of_length_le (by simp; omega), List.drop_take]
 · simp; omega
set_option maxHeartbeats 8000000 in
theorem insertIt_shift (w : World) (b n c k : Nat) (cur : Array Value) (vb vc : Nat) (vcur : Array Value) (X : List Value) (hb : w.heap[b]? = some (.cells cur 108 (0, 0))) (hcur : cur.size = c * 4) (hk : k < n) (hroom : n + 1 ≤ c) (hc63 : c ≤ 9223372036854775807)
   (hv : w.heap[vb]? = some (.cells vcur 108 (0, 0))) (hne : vb ≠ b) (hX : X.length = 4) (hXc : ∀ (j : Nat) (u : Value), X[j]? = some u → vcur[j]? = some u) (h1X : ∀ u ∈ X, u.oneCell' = true) (h1c : ∀ u ∈ cur.toList.take (n * 4), u.oneCell' = true) (hc0 : 0 < vcur.size) :
   Calls Tryz.prog 176 #[.slice (some ⟨b, 0, none⟩) n c, .int .i64 k, .slice (some ⟨vb, 0, none⟩) 1 vc] w fun e w' => e = .returned (.slice (some ⟨b, 0, none⟩) (n + 1) c) ∧ w'.heap[b]? = some (.cells (midRow cur.toList X (k * 4) (n * 4) 4).toArray 108 (0, 0)) ∧ w.grownBy w' (some b) := by
 have hov : ∀ o lb cb, (callFunc 187 #[.slice (some ⟨vb, 0, none⟩) 1 vc, .slice (some ⟨b, o, none⟩) lb cb]).run Tryz.prog w = .ok (.value (.bool false)) w := fun o lb cb => by
   rw [run_callFunc_extern Tryz.func187 (by kernel_rfl) (by kernel_rfl) (by kernel_rfl) (e := Extern.SlicesOverlaps.overlaps #[22, 22] #[4]) (by kernel_rfl),
     Lib.run_overlaps_apart w 22 4 108 U22 4 (fun w => Sz.run (by unfold Sz; kernel_rfl) w) ⟨vb, 0, none⟩ ⟨b, o, none⟩ 1 vc lb cb hne 108 108 vcur.size cur.size (by simp [World.shape?, hv]) (by simp [World.shape?, hb]) (by omega) (by simp [World.frozen?, hv]) (by simp [World.frozen?, hv])]
   rfl
 have hsz : Sz Tryz.prog 108 4 := by unfold Sz; kernel_rfl
 have hz2 : ((k : Int) == (n : Int)) = false := by simp; omega
 have hz3 : decide ((c : Int) < (n : Int) + 1) = false := by simp; omega
 have hb4 : ¬ (c = k) := by omega
 have hb2 : ¬ (c = k + 1) := by omega
 have hkc : k ≤ c := by omega
 have hk1 : IntKind.i64.wrap ((k : Int) + 1) = (k : Int) + 1 := IntWalk.i64_in _ (by omega)
 have hk2 : (0 : Int) ≤ (k : Int) + 1 := by omega
 have hk3 : ((k : Int) + 1).toNat = k + 1 := by omega
 have hk4 : (k : Int) + 1 ≤ (n : Int) + 1 := by omega
 have hk5 : (k : Int) ≤ (n : Int) + 1 := by omega
 have hk6 : (n : Int) + 1 ≤ (c : Int) := by omega
 have hd : ((cur.toList.drop (k * 4)).take (n * 4 - k * 4)).length = (n - k) * 4 := by simp [hcur]; omega
 have HB := Lib.hid hb
 have HV := Lib.hid hv
 have H1 := Lib.hid h1c
 have HX := Lib.hid hXc
 clear hb hv h1c hXc
 go_enter Tryz.func176, Tryz.ntmps176
 go_wp2_with (simp only [hov])
 (apply rg_region_tail 8 (by kernel_rfl) (by kernel_rfl) (by kernel_rfl); intro env)
 (apply rg_det rfl; (intro W K hW _ hK; obtain ⟨hc, hf⟩ := bcell hW; go_simp; first | (rw [IntWalk.i64_in]; (exact hK _ (Below.refl _ _)); omega) | exact hK _ (Below.refl _ _)); rfl)
 repeat (apply rg_det rfl; (intro W K hW _ hK; obtain ⟨hc, hf⟩ := bcell hW; go_simp; first | (rw [IntWalk.i64_in]; (exact hK _ (Below.refl _ _)); omega) | exact hK _ (Below.refl _ _)); rfl)
 (apply rg_tail; rfl; (simp only [List.drop_succ_cons, List.drop_zero]; rfl); intro W hW hF)
 have hWb : W.heap[b]? = some (.cells cur 108 (0, 0)) := (hW.block b (Array.getElem?_eq_some_iff.1 HB.out).1).trans HB.out
 have hWv : W.heap[vb]? = some (.cells vcur 108 (0, 0)) := (hW.block vb (Array.getElem?_eq_some_iff.1 HV.out).1).trans HV.out
 have hcp1 := run_copy_row (P := Tryz.prog) W 22 22 3 108 4 b ((k + 1) * 4) (n - k) (c - (k + 1)) cur 108 ⟨b, k * 4, none⟩ (n + 1 - k) (c - k) ((cur.toList.drop (k * 4)).take (n * 4 - k * 4)) (n - k) U22 hsz (by simp only [Nat.min_def]; split <;> omega) hd hWb
   (fun j u hj => by
     rw [aadd, rowL hWb]
     rw [List.getElem?_take] at hj
     split at hj
     · rw [List.getElem?_drop, Array.getElem?_toList] at hj; exact hj
     · cases hj) (by rw [hd, hcur]; omega) (fun u hu => H1.out u (by
     obtain ⟨q, hq, rfl⟩ := List.mem_iff_getElem.1 hu
     simp only [List.getElem_take, List.getElem_drop]
     rw [hd] at hq
     refine List.mem_iff_getElem.2 ⟨k * 4 + q, by simp [hcur]; omega, by simp⟩))
 refine wpList_copy_eq W rfl _ _ 22 22 rfl _ _ rfl rfl hcp1 ?_
 have hgr : w.grownBy W (some b) := ⟨hW.os, hW.tape, hW.output, hW.size, fun q hq _ => hW.block q hq⟩
 have hW1b := setRow_heap W b cur (cur.toList.take ((k + 1) * 4) ++ (cur.toList.drop (k * 4)).take (n * 4 - k * 4) ++ cur.toList.drop ((k + 1) * 4 + ((cur.toList.drop (k * 4)).take (n * 4 - k * 4)).length)).toArray 108 (0, 0) hWb
 have hW1v := (setRow_other W b vb (cur.toList.take ((k + 1) * 4) ++ (cur.toList.drop (k * 4)).take (n * 4 - k * 4) ++ cur.toList.drop ((k + 1) * 4 + ((cur.toList.drop (k * 4)).take (n * 4 - k * 4)).length)).toArray hne).trans hWv
 have hgr1 : w.grownBy (W.setRow b (cur.toList.take ((k + 1) * 4) ++ (cur.toList.drop (k * 4)).take (n * 4 - k * 4) ++ cur.toList.drop ((k + 1) * 4 + ((cur.toList.drop (k * 4)).take (n * 4 - k * 4)).length)).toArray) (some b) :=
   ⟨by simp [hgr.os], by simp [hgr.tape], by simp [hgr.output], by simpa using hgr.size, fun q hq hne2 => (setRow_other W b q _ (fun e => hne2 (by rw [e]))).trans (hgr.block q hq hne2)⟩
 have hR1 : (cur.toList.take ((k + 1) * 4) ++ (cur.toList.drop (k * 4)).take (n * 4 - k * 4) ++ cur.toList.drop ((k + 1) * 4 + ((cur.toList.drop (k * 4)).take (n * 4 - k * 4)).length)) = (cur.toList.take (k * 4 + 4) ++ (cur.toList.drop (k * 4)).take (n * 4 - k * 4) ++ cur.toList.drop (k * 4 + 4 + (n * 4 - k * 4))) := by
   rw [hd, Nat.add_mul, Nat.one_mul, Nat.sub_mul]
 rw [hR1] at hW1b hgr1 hW1v ⊢
 have hMid : midRow cur.toList X (k * 4) (n * 4) 4 = (cur.toList.take (k * 4 + 4) ++ (cur.toList.drop (k * 4)).take (n * 4 - k * 4) ++ cur.toList.drop (k * 4 + 4 + (n * 4 - k * 4))).take (k * 4) ++ X ++ (cur.toList.take (k * 4 + 4) ++ (cur.toList.drop (k * 4)).take (n * 4 - k * 4) ++ cur.toList.drop (k * 4 + 4 + (n * 4 - k * 4))).drop (k * 4 + 4) := rfl
 have hRl : (cur.toList.take (k * 4 + 4) ++ (cur.toList.drop (k * 4)).take (n * 4 - k * 4) ++ cur.toList.drop (k * 4 + 4 + (n * 4 - k * 4))).length = c * 4 := by simp [hcur]; omega
 have HM := Lib.hid hMid
 clear hMid
 generalize cur.toList.take (k * 4 + 4) ++ (cur.toList.drop (k * 4)).take (n * 4 - k * 4) ++ cur.toList.drop (k * 4 + 4 + (n * 4 - k * 4)) = R1 at *
 generalize W.setRow b R1.toArray = W1 at *
 clear hcp1 hWb hWv hW hF hgr hR1
 have hcp2 := run_copy_row (P := Tryz.prog) W1 22 22 3 108 4 b (k * 4) (n + 1 - k) (c - k) R1.toArray 108 ⟨vb, 0, none⟩ 1 vc X 1 U22 hsz (by simp only [Nat.min_def]; split <;> omega) (by omega) hW1b
   (fun j u hj => by rw [aadd, Nat.zero_add, rowL hW1v]; exact HX.out j u hj) (by simp [hRl, hX]; omega) h1X
 have hfin := setRow_heap W1 b R1.toArray (R1.take (k * 4) ++ X ++ R1.drop (k * 4 + 4)).toArray 108 (0, 0) hW1b
 have hgr2 : w.grownBy (W1.setRow b (R1.take (k * 4) ++ X ++ R1.drop (k * 4 + 4)).toArray) (some b) :=
   ⟨by simp [hgr1.os], by simp [hgr1.tape], by simp [hgr1.output], by simpa using hgr1.size, fun q hq hne2 => (setRow_other W1 b q _ (fun e => hne2 (by rw [e]))).trans (hgr1.block q hq hne2)⟩
 rw [hX] at hcp2
 have HFIN := Lib.hid (And.intro hfin hgr2)
 have HCP := Lib.hid hcp2
 clear hfin hgr2 hcp2 hgr1 hW1b hW1v
 go_wp2_with (refine wpList_copy_eq W1 rfl _ _ 22 22 rfl _ _ rfl rfl HCP.out ?_)
 go_ret
 have e := HFIN.out
 simp only [List.append_assoc] at e
 exact ⟨rfl, by rw [HM.out]; simp only [List.append_assoc]; exact e.1, e.2⟩
set_option maxHeartbeats 8000000 in
theorem insertIt_grow (w : World) (b n c k : Nat) (cur : Array Value) (vb vc : Nat) (vcur : Array Value) (X : List Value) (hb : w.heap[b]? = some (.cells cur 108 (0, 0))) (hcur : cur.size = c * 4) (hk : k < n) (hnc : n ≤ c) (hroom : c < n + 1) (hn : n + 1 ≤ 1000000)
   (hv : w.heap[vb]? = some (.cells vcur 108 (0, 0))) (hX : X.length = 4) (hXc : ∀ (j : Nat) (u : Value), X[j]? = some u → vcur[j]? = some u) (h1X : ∀ u ∈ X, u.oneCell' = true) (h1c : ∀ u ∈ cur.toList.take (n * 4), u.oneCell' = true) :
   Calls Tryz.prog 176 #[.slice (some ⟨b, 0, none⟩) n c, .int .i64 k, .slice (some ⟨vb, 0, none⟩) 1 vc] w fun e w' => ∃ (C : Nat) (row : List Value), e = .returned (.slice (some ⟨w.heap.size, 0, none⟩) (n + 1) C) ∧ n + 1 ≤ C ∧ C ≤ maxLen ∧ w'.heap[w.heap.size]? = some (.cells row.toArray 108 (0, 0)) ∧ row.length = C * 4 ∧ row.take ((n + 1) * 4) = cur.toList.take (k * 4) ++ X ++ (cur.toList.take (n * 4)).drop (k * 4) ∧ w.grownBy w' none := by
 obtain rfl : n = c := by omega
 obtain ⟨i0, hi, hz0, hz1, hz2⟩ : ∃ i0, Tryz.prog.info? 108 = some i0 ∧ i0.zero = some (.agg #[.int .i64 0, .int .i64 0, .int .i64 0, .int .i64 0]) ∧ i0.size = 4 ∧ i0.bytes = 32 := by
   have hT : Ti Tryz.prog 108 (.agg #[.int .i64 0, .int .i64 0, .int .i64 0, .int .i64 0]) 4 32 := by unfold Ti; kernel_rfl
   unfold Ti at hT
   cases hi : Tryz.prog.info? 108 with
   | none => rw [hi] at hT; cases hT
   | some i => rw [hi] at hT; simp at hT; exact ⟨i, rfl, hT⟩
 have hsz : Sz Tryz.prog 108 4 := by unfold Sz; kernel_rfl
 have hbw := (Array.getElem?_eq_some_iff.1 hb).1
 have hvw := (Array.getElem?_eq_some_iff.1 hv).1
 have hold : (Builtin.firstCells i0.size k (.slice (some ⟨b, 0, none⟩) k n)).run Tryz.prog w.drew = .ok (cur.toList.take (k * 4)).toArray w.drew := by
   rw [hz1]
   exact run_firstCells_some (P := Tryz.prog) w.drew 4 k ⟨b, 0, none⟩ k n (cur.toList.take (k * 4)) (by rw [List.length_take, Array.length_toList, hcur]; omega) (fun j v hj => by
     rw [aadd, Nat.zero_add]
     show w.cell? _ = _
     rw [rowL hb]
     rw [List.getElem?_take] at hj
     split at hj
     · simpa using hj
     · cases hj)
 have hrz : ∀ ty, (Builtin.append_ #[22, 3] ty #[.slice (some ⟨b, 0, none⟩) k n, .int .i64 ((n : Int) + 1 - (k : Int))]).run Tryz.prog w =
     .ok (.slice (some ⟨w.heap.size, 0, none⟩) (n + 1) (grownCap w (n + 1) n 108)) (w.drew.alloc (.cells ((cur.toList.take (k * 4)).toArray ++ Builtin.zeroCells (Value.cells (.agg #[.int .i64 0, .int .i64 0, .int .i64 0, .int .i64 0])) (n + 1 - k) ++ Builtin.zeroCells (Value.cells (.agg #[.int .i64 0, .int .i64 0, .int .i64 0, .int .i64 0])) (grownCap w (n + 1) n 108 - (n + 1))) 108)) := fun ty => by
   have h := Lib.run_append_grow_zeros w 22 3 ty 108 i0 _ .i64 .i64 U22 U3 hi hz0 (some ⟨b, 0, none⟩) k n (cur.toList.take (k * 4)) hold (n + 1 - k) (by omega) (by omega) (by omega) (by omega) (by rw [hz2]; omega) (by rw [hz2, show k + (n + 1 - k) = n + 1 by omega]; exact growslice_fits (by omega) (by omega))
   rw [show k + (n + 1 - k) = n + 1 by omega, show ((n + 1 - k : Nat) : Int) = (n : Int) + 1 - (k : Int) by omega] at h
   exact h
 have hC1 : n + 1 ≤ grownCap w (n + 1) n 108 := grownCap_ge w _ _ _
 have hC2 : grownCap w (n + 1) n 108 ≤ maxLen := grownCap_le_maxLen w (n + 1) n 108 (by unfold maxLen; omega)
 generalize grownCap w (n + 1) n 108 = C at *
 have hRs : ((cur.toList.take (k * 4)).toArray ++ Builtin.zeroCells (Value.cells (.agg #[.int .i64 0, .int .i64 0, .int .i64 0, .int .i64 0])) (n + 1 - k) ++ Builtin.zeroCells (Value.cells (.agg #[.int .i64 0, .int .i64 0, .int .i64 0, .int .i64 0])) (C - (n + 1))).size = C * 4 := by
   simp [Builtin.zeroCells, Value.cells, hcur]; omega
 have hRt : ((cur.toList.take (k * 4)).toArray ++ Builtin.zeroCells (Value.cells (.agg #[.int .i64 0, .int .i64 0, .int .i64 0, .int .i64 0])) (n + 1 - k) ++ Builtin.zeroCells (Value.cells (.agg #[.int .i64 0, .int .i64 0, .int .i64 0, .int .i64 0])) (C - (n + 1))).toList.take (k * 4) = cur.toList.take (k * 4) := by
   simp only [Array.toList_append, List.append_assoc]
   rw [List.take_append_of_le_length (by simp [hcur]; omega), List.take_of_length_le (by simp; omega)]
 generalize (cur.toList.take (k * 4)).toArray ++ Builtin.zeroCells (Value.cells (.agg #[.int .i64 0, .int .i64 0, .int .i64 0, .int .i64 0])) (n + 1 - k) ++ Builtin.zeroCells (Value.cells (.agg #[.int .i64 0, .int .i64 0, .int .i64 0, .int .i64 0])) (C - (n + 1)) = ROW at *
 have hk4 : ((k : Int) == (n : Int)) = false := by simp; omega
 have hk5 : decide ((n : Int) < (n : Int) + 1) = true := by simp; omega
 have hk6 : ¬ (n = k) := by omega
 have hk7 : k ≤ n := by omega
 have hk8 : ¬ (C = k) := by omega
 have hk9 : ¬ (C = k + 1) := by omega
 obtain ⟨W1, hW1⟩ : ∃ W1, W1 = w.drew.alloc (.cells ROW 108) := ⟨_, rfl⟩
 rw [← hW1] at hrz
 have hW1n : W1.heap[w.heap.size]? = some (.cells ROW 108 (0, 0)) := by rw [hW1]; exact heap_alloc_new w.drew _
 have hW1o : ∀ q, q < w.heap.size → W1.heap[q]? = w.heap[q]? := fun q hq => by rw [hW1]; exact heap_alloc_old w.drew _ hq
 have hg1 : w.grownBy W1 none := by rw [hW1]; exact ⟨rfl, rfl, rfl, by simp, fun q hq _ => heap_alloc_old w.drew _ hq⟩
 have hs1 : W1.heap.size = w.heap.size + 1 := by rw [hW1]; simp
 have hcpA := fun ty => run_copy_row (P := Tryz.prog) W1 22 22 ty 108 4 w.heap.size (k * 4) (n + 1 - k) (C - k) ROW 108 ⟨vb, 0, none⟩ 1 vc X 1 U22 hsz (by simp only [Nat.min_def]; split <;> omega) (by omega) hW1n
   (fun j u hj => by rw [aadd, Nat.zero_add, rowL ((hW1o vb hvw).trans hv)]; exact hXc j u hj) (by rw [hRs, hX]; omega) h1X
 rw [hX] at hcpA
 have hRl : ROW.toList.length = C * 4 := by simpa using hRs
 obtain ⟨R1, hR1⟩ : ∃ R1, R1 = ROW.toList.take (k * 4) ++ X ++ ROW.toList.drop (k * 4 + 4) := ⟨_, rfl⟩
 rw [← hR1] at hcpA
 have hR1l : R1.length = C * 4 := by rw [hR1]; simp [hRs, hX]; omega
 have hR1t : R1.take (k * 4 + 4) = cur.toList.take (k * 4) ++ X := by
   rw [hR1, List.take_append_of_le_length (by simp [hRs, hX]; omega), List.take_of_length_le (by simp [hX]; omega), hRt]
 obtain ⟨W2, hW2⟩ : ∃ W2, W2 = W1.setRow w.heap.size R1.toArray := ⟨_, rfl⟩
 rw [← hW2] at hcpA
 have hW2n : W2.heap[w.heap.size]? = some (.cells R1.toArray 108 (0, 0)) := by rw [hW2]; exact setRow_heap W1 _ ROW _ 108 (0, 0) hW1n
 have hW2o : ∀ q, q < w.heap.size → W2.heap[q]? = w.heap[q]? := fun q hq => by rw [hW2]; exact (setRow_other W1 _ q _ (by omega)).trans (hW1o q hq)
 have hg2 : w.grownBy W2 none := by rw [hW2]; exact ⟨by simp [hg1.os], by simp [hg1.tape], by simp [hg1.output], by simpa using hg1.size, fun q hq h => (setRow_other W1 _ q _ (by omega)).trans (hg1.block q hq h)⟩
 have hs2 : W2.heap.size = w.heap.size + 1 := by rw [hW2]; simpa using hs1
 have hd : ((cur.toList.drop (k * 4)).take (n * 4 - k * 4)).length = (n - k) * 4 := by simp [hcur]; omega
 have HRZ := Lib.hid hrz
 have HCPA := Lib.hid hcpA
 have HB := Lib.hid (And.intro hb hv)
 have H1 := Lib.hid h1c
 have HC := Lib.hid (And.intro hC1 hC2)
 have HR := Lib.hid (And.intro hR1l hR1t)
 have HW := Lib.hid (And.intro hW2n (And.intro hW2o hg2))
 have HS2 := Lib.hid hs2
 have HD := Lib.hid hd
 have HCUR := Lib.hid hcur
 have hCb : C ≤ 9223372036854775807 := by unfold maxLen at hC2; omega
 have hCk : k + 1 ≤ C := by omega
 have hCn : (n : Int) + 1 ≤ (C : Int) := by omega
 have hk1 : IntKind.i64.wrap ((k : Int) + 1) = (k : Int) + 1 := IntWalk.i64_in _ (by omega)
 have hk2 : (0 : Int) ≤ (k : Int) + 1 := by omega
 have hk3 : ((k : Int) + 1).toNat = k + 1 := by omega
 have hkb : (k : Int) + 1 ≤ (n : Int) + 1 := by omega
 have hkn : (k : Int) ≤ (n : Int) := by omega
 clear hb hv h1c hXc h1X hold hrz hC1 hC2 hRs hRt hi hz0 hz1 hz2 i0 hW1 hW1n hW1o hg1 hs1 hcpA hRl hR1 hR1l hR1t hW2 hW2n hW2o hg2 hs2 hd hcur ROW
 go_enter Tryz.func176, Tryz.ntmps176
 go_wp2_with (first | (refine wpList_append_eq w rfl _ _ 22 3 rfl _ _ rfl rfl (HRZ.out _) ?_) | (refine wpList_copy_eq W1 rfl _ _ 22 22 rfl _ _ rfl rfl (HCPA.out _) ?_))
 (apply rg_region_tail 8 (by kernel_rfl) (by kernel_rfl) (by kernel_rfl); intro env)
 repeat (apply rg_det rfl; (intro W K hW _ hK; obtain ⟨hc, hf⟩ := bcell hW; go_simp; first | (rw [IntWalk.i64_in]; (exact hK _ (Below.refl _ _)); omega) | exact hK _ (Below.refl _ _)); rfl)
 (apply rg_tail; rfl; (simp only [List.drop_succ_cons, List.drop_zero]; rfl); intro W hW hF)
 have hcur := HCUR.out
 have hd := HD.out
 have hWn : W.heap[w.heap.size]? = some (.cells R1.toArray 108 (0, 0)) := (hW.block _ (by rw [HS2.out]; omega)).trans HW.out.1
 have hWb : W.heap[b]? = some (.cells cur 108 (0, 0)) := (hW.block b (by rw [HS2.out]; omega)).trans ((HW.out.2.1 b hbw).trans HB.out.1)
 have hcpB := run_copy_row (P := Tryz.prog) W 22 22 3 108 4 w.heap.size ((k + 1) * 4) (n - k) (C - (k + 1)) R1.toArray 108 ⟨b, k * 4, none⟩ (n - k) (n - k) ((cur.toList.drop (k * 4)).take (n * 4 - k * 4)) (n - k) U22 hsz (by simp) hd hWn
   (fun j u hj => by
     rw [aadd, rowL hWb]
     rw [List.getElem?_take] at hj
     split at hj
     · rw [List.getElem?_drop, Array.getElem?_toList] at hj; exact hj
     · cases hj) (by have := HR.out.1; rw [hd]; simp [this]; omega) (fun u hu => H1.out u (by
     obtain ⟨q, hq, rfl⟩ := List.mem_iff_getElem.1 hu
     simp only [List.getElem_take, List.getElem_drop]
     rw [hd] at hq
     refine List.mem_iff_getElem.2 ⟨k * 4 + q, by simp [hcur]; omega, by simp⟩))
 rw [hd] at hcpB
 obtain ⟨R2, hR2⟩ : ∃ R2, R2 = R1.toArray.toList.take ((k + 1) * 4) ++ (cur.toList.drop (k * 4)).take (n * 4 - k * 4) ++ R1.toArray.toList.drop ((k + 1) * 4 + (n - k) * 4) := ⟨_, rfl⟩
 rw [← hR2] at hcpB
 have hfin := setRow_heap W w.heap.size R1.toArray R2.toArray 108 (0, 0) hWn
 have hgr : w.grownBy (W.setRow w.heap.size R2.toArray) none := by
   have h3 := HW.out.2.2
   exact ⟨by simp [hW.os, h3.os], by simp [hW.tape, h3.tape], by simp [hW.output, h3.output], by simpa using Nat.le_trans h3.size hW.size, fun q hq h => (setRow_other W _ q _ (by omega)).trans ((hW.block q (by rw [HS2.out]; omega)).trans (h3.block q hq h))⟩
 have hr2l : R2.length = C * 4 := by rw [hR2]; have := HR.out.1; simp [this, hcur]; omega
 have hr2t : R2.take ((n + 1) * 4) = cur.toList.take (k * 4) ++ X ++ (cur.toList.take (n * 4)).drop (k * 4) := by
   rw [hR2, List.toList_toArray, show (k + 1) * 4 = k * 4 + 4 by omega, HR.out.2, List.take_append_of_le_length (by simp [hcur, hX]; omega), List.take_of_length_le (by simp [hcur, hX]; omega), List.drop_take]
 have HF := Lib.hid (And.intro hfin (And.intro hgr (And.intro hr2l hr2t)))
 clear hfin hgr hr2l hr2t hR2 hWn hWb hW hF hd hcur
 refine wpList_copy_eq W rfl _ _ 22 22 rfl _ _ rfl rfl hcpB ?_
 clear hcpB
 go_wp2_with fail
 go_ret
 exact ⟨C, R2, rfl, HC.out.1, HC.out.2, HF.out.1, HF.out.2.2.1, HF.out.2.2.2, HF.out.2.1⟩
theorem flat_take {z : Nat} : ∀ (xs : List AV) (k : Nat), (∀ x, x ∈ xs → x.cells.length = z) → k ≤ xs.length → (xs.take k).flatMap AV.cells = (xs.flatMap AV.cells).take (k * z) ∧ (xs.drop k).flatMap AV.cells = (xs.flatMap AV.cells).drop (k * z) := by
 intro xs
 induction xs with
 | nil => intro k _ hk; simp
 | cons x xs ih =>
   intro k hz hk
   cases k with
   | zero => simp
   | succ k =>
     have hx := hz x List.mem_cons_self
     obtain ⟨h1, h2⟩ := ih k (fun y hy => hz y (List.mem_cons_of_mem _ hy)) (by simpa using hk)
     rw [List.take_succ_cons, List.drop_succ_cons, List.flatMap_cons, List.flatMap_cons, h1, h2]
     rw [show (k + 1) * z = x.cells.length + k * z by rw [hx, Nat.add_mul]; omega, List.take_length_add_append, List.drop_length_add_append]
     exact ⟨rfl, rfl⟩
theorem insRow_one {β : List Hd} {w : World} {us : List Value} {xs : List AV} (h4 : ∀ (j : Nat) (u : Value) (y : AV), us[j]? = some u → (xs.flatMap AV.cells)[j]? = some y → VRep β w u y) (hl : us.length = (xs.flatMap AV.cells).length) (ho : (xs.all fun x => x.cells.all AV.one) = true) : ∀ u ∈ us, u.oneCell' = true := by
 intro u hu
 obtain ⟨q, hq, rfl⟩ := List.mem_iff_getElem.1 hu
 have hq2 : q < (xs.flatMap AV.cells).length := by omega
 refine (h4 q _ _ (List.getElem?_eq_getElem hq) (List.getElem?_eq_getElem hq2)).one ?_
 obtain ⟨x, hx, hy⟩ := List.mem_flatMap.1 (List.getElem_mem hq2)
 exact List.all_eq_true.1 (List.all_eq_true.1 ho x hx) _ hy
theorem insertIt_lit (xs : List AV) (y : AV) (k : Nat) (hk : k ≤ xs.length) (hl : xs.length + 1 ≤ 1000000) (ho : (xs.all fun x => x.cells.all AV.one) = true) (hoy : y.cells.all AV.one = true) {H : List AO} (hyl : y.cells.all litOk = true) (hyz : y.cells.length = 4) {i g : Nat}
   {q : Int} (hq : q = (k : Int)) (hi : H[i]? = some (.row g 108 4 xs)):
   FnH Tryz.prog 176 [.own i g, .int .i64 q, .lit 1 108 (y.cells.map litV)] H (.own i (g + 1)) (H.set i (.row (g + 1) 108 4 (xs.take k ++ [y] ++ xs.drop k))) := by
 subst hq
 intro w β vs hH hv
 obtain ⟨hsz, hvr⟩ := hv
 obtain ⟨v, v1, v2, rfl⟩ : ∃ v v1 v2, vs = #[v, v1, v2] := by
   have h3 : vs.size = 3 := hsz
   exact ⟨vs[0], vs[1], vs[2], Array.ext (by simpa using h3) fun q h1 h2 => by
     have : q = 0 ∨ q = 1 ∨ q = 2 := by simp at h2; omega
     rcases this with rfl | rfl | rfl <;> rfl⟩
 obtain rfl := (hvr 1 v1 _ rfl rfl).int_inv
 obtain ⟨us, e1, e2, e3, e4⟩ := (hvr 0 v _ rfl rfl).own_at hH hi
 obtain ⟨b2, rfl, f1, fS, fh⟩ := (hvr 2 v2 _ rfl rfl).lit_inv
 have hy : y.cells.length = 4 := hyz
 obtain ⟨X, hXe⟩ : ∃ X, X = y.cells.map litV := ⟨_, rfl⟩
 rw [← hXe] at fh
 have f2 : w.ownsRow 0 108 4 (.slice (some ⟨b2, 0, none⟩) 1 1) 1 X := ⟨by rw [hXe, List.length_map, hy], .inr ⟨b2, 1, X.toArray, rfl, Nat.zero_le _, fh, Nat.le_refl _, by unfold maxLen; omega, by rw [hXe]; simp [hy], List.take_of_length_le (by rw [hXe]; simp [hy])⟩⟩
 have hlv : ∀ u : AV, litOk u = true → cAV (litV u) = u ∧ (litV u).oneCell' = true := by
   intro u hu
   cases u <;> first | exact ⟨rfl, rfl⟩ | cases hu
 have f4 : ∀ (q : Nat) (u : Value) (y' : AV), X[q]? = some u → y.cells[q]? = some y' → VRep β w u y' := by
   intro q u y' h1 h2
   rw [hXe, List.getElem?_map, h2] at h1
   cases h1
   have h3 := hlv y' (List.all_eq_true.1 hyl _ (List.mem_of_getElem? h2))
   have h4 := cAV_rep β w (litV y')
   rw [h3.1] at h4; exact h4
 have hul : us.length = (xs.flatMap AV.cells).length := by rw [e2.1, flat_len' xs e3]
 have hXl : X.length = 4 := by rw [hXe, List.length_map, hy]
 have h1us := insRow_one e4 hul ho
 have h1X : ∀ u ∈ X, u.oneCell' = true := by
   intro u hu
   rw [hXe] at hu
   obtain ⟨y', hy', rfl⟩ := List.mem_map.1 hu
   exact (hlv y' (List.all_eq_true.1 hyl _ hy')).2
 have hflat : (xs.take k ++ [y] ++ xs.drop k).flatMap AV.cells = (xs.flatMap AV.cells).take (k * 4) ++ y.cells ++ (xs.flatMap AV.cells).drop (k * 4) := by
   obtain ⟨a1, a2⟩ := flat_take xs k e3 hk
   rw [List.flatMap_append, List.flatMap_append, a1, a2]; simp
 have hzz : ∀ x, x ∈ xs.take k ++ [y] ++ xs.drop k → x.cells.length = 4 := by
   intro x hx
   simp only [List.mem_append, List.mem_singleton] at hx
   rcases hx with (hx | rfl) | hx
   · exact e3 x (List.mem_of_mem_take hx)
   · exact hy
   · exact e3 x (List.mem_of_mem_drop hx)
 have hlen : (xs.take k ++ [y] ++ xs.drop k).length = xs.length + 1 := by simp; omega
 have hkz : k * 4 ≤ us.length := by rw [e2.1]; omega
 have fin : ∀ (v' : Value) (w' : World), w'.ownsRow 0 108 4 v' (xs.length + 1) (us.take (k * 4) ++ X ++ us.drop (k * 4)) → w.grownBy w' v.ownBlock → (v'.ownBlock = v.ownBlock ∨ v'.ownBlock = some w.heap.size) →
     ∃ v β', Ending.returned v' = .returned v ∧ Ext β w β' w' ∧ HRel β' (H.set i (.row (g + 1) 108 4 (xs.take k ++ [y] ++ xs.drop k))) w' ∧ VRep β' w' v (.own i (g + 1)) := by
   intro v' w' q1 q2 q3
   have hlt := (List.getElem?_eq_some_iff.1 e1).1
   have hgrow := hH.grow e1 q2 q3 (o := .row (g + 1) 108 4 (xs.take k ++ [y] ++ xs.drop k)) (fun hx => ⟨rfl, _, by rw [hlen]; exact q1, hzz, fun q u y' p1 p2 => by
     refine VRep.ext hx ?_
     rw [hflat] at p2
     have hfl : (xs.flatMap AV.cells).length = us.length := hul.symm
     by_cases c1 : q < k * 4
     · rw [List.append_assoc, List.getElem?_append_left (by rw [List.length_take]; omega), List.getElem?_take_of_lt c1] at p1
       rw [List.append_assoc, List.getElem?_append_left (by rw [List.length_take]; omega), List.getElem?_take_of_lt c1] at p2
       exact e4 q u y' p1 p2
     · by_cases c2 : q < k * 4 + 4
       · rw [List.append_assoc, List.getElem?_append_right (by rw [List.length_take]; omega), List.length_take, Nat.min_eq_left hkz, List.getElem?_append_left (by rw [hXl]; omega)] at p1
         rw [List.append_assoc, List.getElem?_append_right (by rw [List.length_take]; omega), List.length_take, Nat.min_eq_left (by omega), List.getElem?_append_left (by rw [hy]; omega)] at p2
         exact f4 _ u y' p1 p2
       · rw [List.getElem?_append_right (by rw [List.length_append, List.length_take, hXl]; omega), List.getElem?_drop, List.length_append, List.length_take, hXl, Nat.min_eq_left hkz] at p1
         rw [List.getElem?_append_right (by rw [List.length_append, List.length_take, hy]; omega), List.getElem?_drop, List.length_append, List.length_take, hy, Nat.min_eq_left (by omega)] at p2
         exact e4 _ u y' p1 p2⟩)
   refine ⟨v', _, rfl, hgrow.1, hgrow.2, .own _ _ _ (by simpa using hlt) (fun u g' hb => ?_) (ownsRow_one q1)⟩
   rw [List.getElem?_set_self hlt] at hb
   cases hb
   exact ⟨Nat.le_refl _, fun _ => rfl⟩
 by_cases hkn : k = xs.length
 · subst hkn
   refine (insertIt_end w v _ xs.length us X e2 f2 h1X hl).mono ?_
   rintro e w' ⟨v', rfl, q1, q2, q3⟩
   have hull : us.length = xs.length * 4 := e2.1
   exact fin v' w' (by rw [List.take_of_length_le (by omega), List.drop_eq_nil_of_le (by omega), List.append_nil]; exact q1) q2 q3
 · rcases e2.2 with ⟨_, h0⟩ | ⟨b, cap, cur, hvv, _, hg, hnc, hcm, hcs, htk⟩
   · omega
   subst hvv
   obtain ⟨vb, rfl⟩ : ∃ vb, vb = b2 := ⟨_, rfl⟩
   have hg2 := fh
   have hnb : vb ≠ b := fun e => by subst e; exact fS _ (List.mem_of_getElem? e1) (opt_mem.2 rfl)
   have hXc : ∀ (j : Nat) (u : Value), X[j]? = some u → X.toArray[j]? = some u := fun j u h => by simpa using h
   have hc0 : 0 < X.toArray.size := by simp [hXl]
   have h1c : ∀ u ∈ cur.toList.take (xs.length * 4), u.oneCell' = true := by rw [htk]; exact h1us
   have hulz : us.length = xs.length * 4 := e2.1
   have hmid : cur.toList.take (k * 4) = us.take (k * 4) ∧ (cur.toList.take (xs.length * 4)).drop (k * 4) = us.drop (k * 4) := by
     constructor
     · rw [← htk, List.take_take]; congr 1; omega
     · rw [htk]
   by_cases hroom : xs.length + 1 ≤ cap
   · unfold maxLen at hcm
     refine (insertIt_shift w b xs.length cap k cur vb 1 X.toArray X hg hcs (by omega) hroom hcm hg2 hnb hXl hXc h1X h1c hc0).mono ?_
     rintro e w' ⟨rfl, q1, q2⟩
     have hcl : cur.toList.length = cap * 4 := by simpa using hcs
     obtain ⟨m1, m2⟩ := midRow_take cur.toList X (k * 4) (xs.length * 4) 4 (by omega) hXl (by rw [hcl]; omega)
     rw [hmid.1, hmid.2] at m1
     have hull : us.length = xs.length * 4 := hulz
     exact fin _ w' ⟨by simp [hXl]; omega, .inr ⟨b, cap, _, rfl, Nat.zero_le _, q1, hroom, by unfold maxLen; omega, by simp [m2, hcs], by rw [show (xs.length + 1) * 4 = xs.length * 4 + 4 by omega]; simpa using m1⟩⟩ q2 (.inl rfl)
   · refine (insertIt_grow w b xs.length cap k cur vb 1 X.toArray X hg hcs (by omega) hnc (by omega) hl hg2 hXl hXc h1X h1c).mono ?_
     rintro e w' ⟨C, row, rfl, q1, q2, q3, q4, q5, q6⟩
     rw [hmid.1, hmid.2] at q5
     have hull : us.length = xs.length * 4 := hulz
     exact fin _ w' ⟨by simp [hXl]; omega, .inr ⟨_, C, _, rfl, Nat.zero_le _, q3, q1, q2, by simp [q4], by simpa using q5⟩⟩ ⟨q6.os, q6.tape, q6.output, q6.size, fun q hq h => q6.block q hq (by simp)⟩ (.inr rfl)
end Go.Proofs.YtcndnllmlhhjiaaGreatDoor.Stk
namespace Go.Proofs.YtcndnllmlhhjiaaGreatDoor.Stk
open Go.RowKit
open StockP
theorem set_cells {z : Nat} {xs : List AV} {k : Nat} {X : AV} (h : ∀ x, x ∈ xs → x.cells.length = z) (hX : X.cells.length = z) : ∀ x, x ∈ xs.set k X → x.cells.length = z := by
 intro x hx
 rcases List.mem_or_eq_of_mem_set hx with hx | rfl
 · exact h x hx
 exact hX
theorem with_no {g : It → It × Int} {l : List It} {id q : Int} (h : askedB l q = true) (h2 : idx (fun x => x.id == id) l < 0) : withP g l id q = ([], 40) := by
 unfold withP; rw [if_pos h, dif_neg (idx_neg.1 h2)]
theorem with_bad {g : It → It × Int} {l : List It} {id q : Int} (h : askedB l q = true) (h2 : ¬ idx (fun x => x.id == id) l < 0) (h3 : ¬ (g (l.getD (idx (fun x => x.id == id) l).toNat default)).2 = 0) : withP g l id q = ([], (g (l.getD (idx (fun x => x.id == id) l).toNat default)).2) := by
 obtain ⟨p1, p2⟩ := idx_pos h2
 rw [p2, Int.toNat_natCast, It_idx p1] at h3 ⊢
 unfold withP; rw [if_pos h, dif_pos p1, if_neg h3]
theorem with_good {g : It → It × Int} {l : List It} {id q : Int} (h : askedB l q = true) (h2 : ¬ idx (fun x => x.id == id) l < 0) (h3 : (g (l.getD (idx (fun x => x.id == id) l).toNat default)).2 = 0) : withP g l id q = (l.set (idx (fun x => x.id == id) l).toNat (g (l.getD (idx (fun x => x.id == id) l).toNat default)).1, 0) := by
 obtain ⟨p1, p2⟩ := idx_pos h2
 rw [p2, Int.toNat_natCast, It_idx p1] at h3 ⊢
 unfold withP; rw [if_pos h, dif_pos p1, if_pos h3]
theorem ins_map (l : List It) (s : It) (k : Nat) : (l.take k ++ [s] ++ l.drop k).map aIt = (l.map aIt).take k ++ [aIt s] ++ (l.map aIt).drop k := by
 rw [List.map_append, List.map_append, List.map_take, List.map_drop]; rfl
theorem idx_range (q : It → Bool) (l : List It) : -1 ≤ idx q l ∧ idx q l < l.length := by
 unfold idx; split <;> omega
theorem may_at {l : List It} {q : Int} {k : Nat} (h : askedB l q = true) (hk : k < l.length) : may (l.getD k default) = true := by
 rw [It_idx hk]; exact ok_may (askedB_ok h).1 _ (List.getElem_mem hk)
theorem clone_new (l : List It) (hl : l.length ≤ 1000000) : FnNew Tryz.prog 57 [.sl (l.map aIt)] 108 4 (l.map aIt) :=
 FnNew.of_owns encIt aIt 4 encIt_len (fun x => rfl) (fun x u hu => by simp [encIt] at hu; rcases hu with rfl | rfl | rfl | rfl <;> rfl) l (fun w a cap hr _ _ _ => cloneIt_any a cap l w hr hl)
theorem with_fn (F : Nat) (fs : List AV) (g : It → It × Int) (l : List It) (id q : Int) (hl : l.length ≤ 1000) (hcf : ∀ (vs : Array Value) (W : World), (callFunc F vs).run Tryz.prog W = .ok (.enter F vs) W) (hn : ∀ x, x ∈ fs → NoH 0 x) (hp : ∀ x, may x = true → 1 ≤ q ∧ q ≤ 1000000 → FnP Tryz.prog F (fs ++ [aIt x] ++ []) (.tup [aIt (g x).1, .int .i64 (g x).2])) : FnP Tryz.prog 169 [.sl (l.map aIt), .int .i64 id, .int .i64 q, .fn (.func F) fs []] (.tup [.sl ((withP g l id q).1.map aIt), .int .i64 (withP g l id q).2]) := by
 have hr := idx_range (fun x => x.id == id) l
 have hbd := fun h => asked_bd (l := l) (q := q) h
 refine FnP.of Tryz.func169 rfl rfl (by simp) (by simp [AV.cells, aIt]) (fun G hG => ?_)
 have hN : NoH G.length (.tup [.sl ((withP g l id q).1.map aIt), .int .i64 (withP g l id q).2]) := (by simp [AV.cells, aIt])
 refine sr fun _ => ?_
 refine ma ?_
 refine mz ?_
 refine AWP.seq (sr fun _ => ?_)
 refine mv ?_
 refine mv ?_
 refine ρm cf167 (fun hg => asked_fn l q) ?_
 refine ARun.not rfl rfl rfl rfl (ep rfl) optN ?_
 refine ez ?_
 refine ρq (fun h0 => ?_) (fun h0 => ?_)
 · try simp at h0
   refine sr fun _ => ?_
   refine ma ?_
   refine mz ?_
   refine AWP.ret (thenA_r ?_)
   refine ρl (rs := [.tmp 8, .tmp 9]) (.cons (.tmp rfl) (.cons (.tmp rfl) .nil)) ?_
   rw [show withP g l id q = ([], 2) from by unfold withP; rw [if_neg (by simp [h0])]]; rfl
 try simp at h0
 refine AWP.skip (thenA_n (sr fun _ => ?_))
 refine mv ?_
 refine mv ?_
 refine ρh cf168 ?_ (hF := fun hg => at_fn l id (by omega))
 refine mz ?_
 refine AWP.seq (sr fun _ => ?_)
 refine mv ?_
 refine ρ1 ?_
 refine ez ?_
 refine ρq (fun h1 => ?_) (fun h1 => ?_)
 · try simp at h1
   refine sr fun _ => ?_
   refine ma ?_
   refine mz ?_
   refine AWP.ret (thenA_r ?_)
   refine ρl (rs := [.tmp 8, .tmp 9]) (.cons (.tmp rfl) (.cons (.tmp rfl) .nil)) ?_
   rw [with_no h0 h1]; rfl
 try simp at h1
 refine AWP.skip (thenA_n (sr fun _ => ?_))
 refine mv ?_
 refine mv ?_
 refine mv ?_
 first | refine ρ9 U22 sz108 ?_ | refine ρ3 U22 sz108 ?_
 refine ρk U108 sz108 ?_
 refine ARun.call rfl rfl rfl rfl hcf (ep rfl) (.cons (ep rfl) .nil) rfl (fun hg => hp _ (may_at h0 (by omega)) ⟨(hbd h0).1, (hbd h0).2.1⟩) optN ?_
 refine mv ?_
 refine ρ4 ?_
 refine ρ4 ?_
 refine ρp (j := 0) zv108 ?_
 refine ρ2 sz108 ?_
 refine mz ?_
 refine AWP.seq (sr fun _ => ?_)
 refine mv ?_
 refine ρ1 ?_
 refine ez ?_
 refine ρq (fun h2 => ?_) (fun h2 => ?_)
 · try simp at h2
   refine sr fun _ => ?_
   refine mv ?_
   refine ma ?_
   refine mz ?_
   refine AWP.ret (thenA_r ?_)
   refine ρl (rs := [.tmp 8, .tmp 9]) (.cons (.tmp rfl) (.cons (.tmp rfl) .nil)) ?_
   rw [with_bad h0 (by omega) h2]; rfl
 try simp at h2
 refine AWP.skip (thenA_n (sr fun _ => ?_))
 refine mv ?_
 refine ARun.callNew (j := 1) hG rfl rfl rfl rfl rfl cf57 (ep rfl) (.cons (ep rfl) .nil) rfl (clone_new l (by omega)) optN ?_
 refine mz (sr fun _ => ?_)
 refine mv ?_
 refine mv ?_
 refine ρo U108 sz108 ?_
 refine ARun.indexOwn (j := (idx (fun x => x.id == id) l).toNat) rfl rfl rfl rfl U22 sz108 ((hG.at _ _).trans rfl) (ep rfl) (ep rfl) (fun hg => ofNonneg (by omega)) (fun hg => (by simp; omega)) optN ?_
 refine ARun.storeEltL (zs := (l.map aIt).set (idx (fun x => x.id == id) l).toNat (aIt (g (l.getD (idx (fun x => x.id == id) l).toNat default)).1)) hG rfl rfl rfl sz108 (ep rfl) (ep rfl) rfl rfl rfl rfl rfl (by simp; omega) (flat_set _ _ (aIt (g (l.getD (idx (fun x => x.id == id) l).toNat default)).1) (by simp [aIt, AV.cells]) rfl (by simp; omega)) (by simp) (set_cells (by simp [aIt, AV.cells]) rfl) rfl ?_
 refine ez (sr fun _ => ?_)
 refine mv ?_
 refine ma ?_
 refine mz ?_
 refine AWP.frzOwn 8 hG rfl rfl (by decide) (by simp [maxLen]; omega) rfl ?_
 refine AWP.ret ?_
 refine ρl (rs := [.tmp 8, .tmp 9]) (.cons (.tmp rfl) (.cons (.tmp rfl) .nil)) ?_
 rw [with_good h0 (by omega) h2, List.map_set]; rfl
theorem restock_fn (l : List It) (id q : Int) (hl : l.length ≤ 1000) : FnP Tryz.prog 156 [.sl (l.map aIt), .int .i64 id, .int .i64 q] (.tup [.sl ((withP (inG q) l id q).1.map aIt), .int .i64 (withP (inG q) l id q).2]) := by
 refine FnP.of Tryz.func156 rfl rfl (by simp) (by simp [AV.cells, aIt]) (fun G hG => ?_)
 have hN : NoH G.length (.tup [.sl ((withP (inG q) l id q).1.map aIt), .int .i64 (withP (inG q) l id q).2]) := (by simp [AV.cells, aIt])
 refine sr fun _ => ?_
 refine ma ?_
 refine mz (sr fun _ => ?_)
 refine mv ?_
 refine ARun.makeFunc rfl rfl rfl rfl (.cons (ep rfl) .nil) .nil optN ?_
 refine mz (sr fun _ => ?_)
 refine mv ?_
 refine mv ?_
 refine mv ?_
 refine mv ?_
 refine ARun.call rfl rfl rfl rfl cf169 (ep rfl) (.cons (ep rfl) (.cons (ep rfl) (.cons (ep rfl) (.cons (ep rfl) .nil)))) rfl (fun hg => with_fn 171 [.int .i64 q] (inG q) l id q hl cf171 (by simp) (fun x hx hq => inA_fn q x hx hq)) optN ?_
 refine ρ4 ?_
 refine ρ4 ?_
 refine ma ?_
 refine mz ?_
 refine AWP.ret ?_
 refine ρl (rs := [.tmp 6, .tmp 7]) (.cons (.tmp rfl) (.cons (.tmp rfl) .nil)) ?_
 rfl
theorem reserve_fn (l : List It) (id q : Int) (hl : l.length ≤ 1000) : FnP Tryz.prog 157 [.sl (l.map aIt), .int .i64 id, .int .i64 q] (.tup [.sl ((withP (holdG q) l id q).1.map aIt), .int .i64 (withP (holdG q) l id q).2]) := by
 refine FnP.of Tryz.func157 rfl rfl (by simp) (by simp [AV.cells, aIt]) (fun G hG => ?_)
 have hN : NoH G.length (.tup [.sl ((withP (holdG q) l id q).1.map aIt), .int .i64 (withP (holdG q) l id q).2]) := (by simp [AV.cells, aIt])
 refine sr fun _ => ?_
 refine ma ?_
 refine mz (sr fun _ => ?_)
 refine mv ?_
 refine ARun.makeFunc rfl rfl rfl rfl (.cons (ep rfl) .nil) .nil optN ?_
 refine mz (sr fun _ => ?_)
 refine mv ?_
 refine mv ?_
 refine mv ?_
 refine mv ?_
 refine ARun.call rfl rfl rfl rfl cf169 (ep rfl) (.cons (ep rfl) (.cons (ep rfl) (.cons (ep rfl) (.cons (ep rfl) .nil)))) rfl (fun hg => with_fn 177 [.int .i64 q] (holdG q) l id q hl cf177 (by simp) (fun x hx hq => holdA_fn q x hx hq)) optN ?_
 refine ρ4 ?_
 refine ρ4 ?_
 refine ma ?_
 refine mz ?_
 refine AWP.ret ?_
 refine ρl (rs := [.tmp 6, .tmp 7]) (.cons (.tmp rfl) (.cons (.tmp rfl) .nil)) ?_
 rfl
theorem release_fn (l : List It) (id q : Int) (hl : l.length ≤ 1000) : FnP Tryz.prog 158 [.sl (l.map aIt), .int .i64 id, .int .i64 q] (.tup [.sl ((withP (freeG q) l id q).1.map aIt), .int .i64 (withP (freeG q) l id q).2]) := by
 refine FnP.of Tryz.func158 rfl rfl (by simp) (by simp [AV.cells, aIt]) (fun G hG => ?_)
 have hN : NoH G.length (.tup [.sl ((withP (freeG q) l id q).1.map aIt), .int .i64 (withP (freeG q) l id q).2]) := (by simp [AV.cells, aIt])
 refine sr fun _ => ?_
 refine ma ?_
 refine mz (sr fun _ => ?_)
 refine mv ?_
 refine ARun.makeFunc rfl rfl rfl rfl (.cons (ep rfl) .nil) .nil optN ?_
 refine mz (sr fun _ => ?_)
 refine mv ?_
 refine mv ?_
 refine mv ?_
 refine mv ?_
 refine ARun.call rfl rfl rfl rfl cf169 (ep rfl) (.cons (ep rfl) (.cons (ep rfl) (.cons (ep rfl) (.cons (ep rfl) .nil)))) rfl (fun hg => with_fn 178 [.int .i64 q] (freeG q) l id q hl cf178 (by simp) (fun x hx hq => freeA_fn q x hx hq)) optN ?_
 refine ρ4 ?_
 refine ρ4 ?_
 refine ma ?_
 refine mz ?_
 refine AWP.ret ?_
 refine ρl (rs := [.tmp 6, .tmp 7]) (.cons (.tmp rfl) (.cons (.tmp rfl) .nil)) ?_
 rfl
theorem ship_fn (l : List It) (id q : Int) (hl : l.length ≤ 1000) : FnP Tryz.prog 159 [.sl (l.map aIt), .int .i64 id, .int .i64 q] (.tup [.sl ((withP (shipG q) l id q).1.map aIt), .int .i64 (withP (shipG q) l id q).2]) := by
 refine FnP.of Tryz.func159 rfl rfl (by simp) (by simp [AV.cells, aIt]) (fun G hG => ?_)
 have hN : NoH G.length (.tup [.sl ((withP (shipG q) l id q).1.map aIt), .int .i64 (withP (shipG q) l id q).2]) := (by simp [AV.cells, aIt])
 refine sr fun _ => ?_
 refine ma ?_
 refine mz (sr fun _ => ?_)
 refine mv ?_
 refine ARun.makeFunc rfl rfl rfl rfl (.cons (ep rfl) .nil) .nil optN ?_
 refine mz (sr fun _ => ?_)
 refine mv ?_
 refine mv ?_
 refine mv ?_
 refine mv ?_
 refine ARun.call rfl rfl rfl rfl cf169 (ep rfl) (.cons (ep rfl) (.cons (ep rfl) (.cons (ep rfl) (.cons (ep rfl) .nil)))) rfl (fun hg => with_fn 179 [.int .i64 q] (shipG q) l id q hl cf179 (by simp) (fun x hx hq => shipA_fn q x hx hq)) optN ?_
 refine ρ4 ?_
 refine ρ4 ?_
 refine ma ?_
 refine mz ?_
 refine AWP.ret ?_
 refine ρl (rs := [.tmp 6, .tmp 7]) (.cons (.tmp rfl) (.cons (.tmp rfl) .nil)) ?_
 rfl
def moveP (l : List It) (a b q : Int) : List It × Int :=
 if askedB l q = true ∧ a ≠ b then
   if idx (fun x => x.id == a) l < 0 ∨ idx (fun x => x.id == b) l < 0 then ([], 40)
   else if (withP (outG q) l a q).2 = 0 then withP (inG q) (withP (outG q) l a q).1 b q else ([], (withP (outG q) l a q).2)
 else ([], 2)
theorem with_len (g : It → It × Int) (l : List It) (id q : Int) : (withP g l id q).1.length ≤ l.length := by
 unfold withP; split
 · split
   · split <;> simp
   simp
 simp
theorem move_fn (l : List It) (a b q : Int) (hl : l.length ≤ 1000) : FnP Tryz.prog 150 [.sl (l.map aIt), .int .i64 a, .int .i64 b, .int .i64 q] (.tup [.sl ((moveP l a b q).1.map aIt), .int .i64 (moveP l a b q).2]) := by
 have hwl := with_len (outG q) l a q
 refine FnP.of Tryz.func150 rfl rfl (by simp) (by simp [AV.cells, aIt]) (fun G hG => ?_)
 have hN : NoH G.length (.tup [.sl ((moveP l a b q).1.map aIt), .int .i64 (moveP l a b q).2]) := (by simp [AV.cells, aIt])
 refine sr fun _ => ?_
 refine ma ?_
 refine mz ?_
 refine AWP.seq (AWP.block (sr fun _ => ?_))
 refine mv ?_
 refine mv ?_
 refine ρm cf167 (fun hg => asked_fn l q) ?_
 refine ARun.not rfl rfl rfl rfl (ep rfl) optN ?_
 refine mv ?_
 refine ρi ?_
 refine ρi ?_
 refine ρw ?_
 refine ρ8 ?_
 refine mz ?_
 refine ρq (fun h0 => ?_) (fun h0 => ?_)
 · try simp at h0
   refine sr fun _ => ?_
   refine ma ?_
   refine mz ?_
   refine AWP.ret (blockA_r (thenA_r ?_))
   refine ρl (rs := [.tmp 8, .tmp 9]) (.cons (.tmp rfl) (.cons (.tmp rfl) .nil)) ?_
   rw [show moveP l a b q = ([], 2) from by unfold moveP; rw [if_neg (by rintro ⟨x, y⟩; simp_all)]]; rfl
 try simp at h0
 refine sr fun _ => ?_
 refine mv ?_
 refine mv ?_
 refine ρh cf168 ?_ (hF := fun hg => at_fn l a (by omega))
 refine ρ1 ?_
 refine mv ?_
 refine ρi ?_
 refine ρi ?_
 refine ARun.call rfl rfl rfl rfl cf168 (ep rfl) (.cons (Ev.opt rfl (fun h => h)) (.cons (Ev.opt rfl (fun h => h)) .nil)) rfl (fun hg => at_fn l b (by omega)) optS ?_
 refine ρf ?_
 refine ρ8 ?_
 refine mz ?_
 refine ρq (fun h1 => ?_) (fun h1 => ?_)
 · try simp at h1
   refine sr fun _ => ?_
   refine ma ?_
   refine mz ?_
   refine AWP.ret (blockA_r (thenA_r ?_))
   refine ρl (rs := [.tmp 8, .tmp 9]) (.cons (.tmp rfl) (.cons (.tmp rfl) .nil)) ?_
   rw [show moveP l a b q = ([], 40) from by unfold moveP; rw [if_pos h0, if_pos h1]]; rfl
 try simp at h1
 refine AWP.skip (blockA_n (thenA_n (sr fun _ => ?_)))
 refine mv ?_
 refine mv ?_
 refine mv ?_
 refine mv ?_
 refine ARun.makeFunc rfl rfl rfl rfl (.cons (ep rfl) .nil) .nil optN ?_
 refine ARun.call rfl rfl rfl rfl cf169 (ep rfl) (.cons (ep rfl) (.cons (ep rfl) (.cons (ep rfl) (.cons (ep rfl) .nil)))) rfl (fun hg => with_fn 170 [.int .i64 q] (outG q) l a q hl cf170 (by simp) (fun x hx hq => outA_fn q x hx hq)) optN ?_
 refine mv ?_
 refine ρ4 ?_
 refine ρ4 ?_
 refine ma ?_
 refine mz ?_
 refine AWP.seq (sr fun _ => ?_)
 refine mv ?_
 refine ρ1 ?_
 refine ez ?_
 refine ρq (fun h2 => ?_) (fun h2 => ?_)
 · try simp at h2
   refine sr fun _ => ?_
   refine mv ?_
   refine ma ?_
   refine mz ?_
   refine AWP.ret (thenA_r ?_)
   refine ρl (rs := [.tmp 8, .tmp 9]) (.cons (.tmp rfl) (.cons (.tmp rfl) .nil)) ?_
   rw [show moveP l a b q = ([], (withP (outG q) l a q).2) from by unfold moveP; rw [if_pos h0, if_neg (by omega), if_neg h2]]; rfl
 try simp at h2
 refine AWP.skip (thenA_n (sr fun _ => ?_))
 refine mv ?_
 refine mv ?_
 refine mv ?_
 refine mv ?_
 refine ARun.makeFunc rfl rfl rfl rfl (.cons (ep rfl) .nil) .nil optN ?_
 refine ARun.call rfl rfl rfl rfl cf169 (ep rfl) (.cons (ep rfl) (.cons (ep rfl) (.cons (ep rfl) (.cons (ep rfl) .nil)))) rfl (fun hg => with_fn 171 [.int .i64 q] (inG q) (withP (outG q) l a q).1 b q (by omega) cf171 (by simp) (fun x hx hq => inA_fn q x hx hq)) optN ?_
 refine ρ4 ?_
 refine ρ4 ?_
 refine ma ?_
 refine mz ?_
 refine AWP.ret ?_
 refine ρl (rs := [.tmp 8, .tmp 9]) (.cons (.tmp rfl) (.cons (.tmp rfl) .nil)) ?_
 rw [show moveP l a b q = withP (inG q) (withP (outG q) l a q).1 b q from by unfold moveP; rw [if_pos h0, if_neg (by omega), if_pos h2]]
def insP (l : List It) (x : It) : List It :=
 if idx (fun y => decide (x.id < y.id)) l < 0 then l.take l.length ++ [x] ++ l.drop l.length
 else l.take (idx (fun y => decide (x.id < y.id)) l).toNat ++ [x] ++ l.drop (idx (fun y => decide (x.id < y.id)) l).toNat
def createP (l : List It) (id q : Int) : List It × Int :=
 if okE l = 0 ∧ may ⟨id, q, 0, 0⟩ = true then
   if 0 ≤ idx (fun x => x.id == id) l then ([], 41) else if 20 ≤ l.length then ([], 8) else (insP l ⟨id, q, 0, 0⟩, 0)
 else ([], 2)
theorem crf_fn (x : It) (id : Int) : FnP Tryz.prog 175 [aIt x, .pe [.int .i64 id]] (.bool (decide (id < x.id))) := by
 refine FnP.of Tryz.func175 rfl rfl (by simp) (by simp [AV.cells, aIt]) (fun G hG => ?_)
 have hN : NoH G.length (.bool (decide (id < x.id))) := (by simp [AV.cells, aIt])
 refine sr fun _ => ?_
 refine ARun.box (j := 0) hG rfl rfl rfl rfl rfl (ep rfl) rfl rfl optN ?_
 refine mz (sr fun _ => ?_)
 refine ρa (fo := 0) U108 sz3 ?_
 refine ρd U3 ?_
 first | refine ρ5 U3 ?_ | refine ρd U3 ?_
 refine ρ1 ?_
 refine mz ?_
 refine AWP.ret ?_
 refine ρc ?_
 rfl
theorem create_fn (l : List It) (id q : Int) (hl : l.length ≤ 1000) : FnP Tryz.prog 155 [.sl (l.map aIt), .int .i64 id, .int .i64 q] (.tup [.sl ((createP l id q).1.map aIt), .int .i64 (createP l id q).2]) := by
 have hr := idx_range (fun y => decide (id < y.id)) l
 have hix := idxOf_idx (fun y => decide (id < y.id)) l
 refine FnP.of Tryz.func155 rfl rfl (by simp) (by simp [AV.cells, aIt]) (fun G hG => ?_)
 have hN : NoH G.length (.tup [.sl ((createP l id q).1.map aIt), .int .i64 (createP l id q).2]) := (by simp [AV.cells, aIt])
 refine sr fun _ => ?_
 refine ARun.box1 (j := 0) hG rfl rfl rfl rfl rfl (ep rfl) (by first | rfl | exact aEr_one _ | exact aFl_one _) optN ?_
 refine ma ?_
 refine mz (sr fun _ => ?_)
 refine ρd U3 ?_
 refine mv ?_
 refine ARun.build rfl rfl rfl rfl so108 (.cons (ep rfl) (.cons (ep rfl) .nil)) rfl rfl optN ?_
 refine ρp (j := 1) zv108 ?_
 refine ρ2 sz108 ?_
 refine ez ?_
 refine AWP.seq (AWP.block (sr fun _ => ?_))
 refine mv ?_
 refine ρj cf65 (fun hg => check_fn l) ?_
 refine ρ1 ?_
 refine mv ?_
 refine ARun.loadBoxA rfl rfl rfl rfl U108 rfl sz108 (ep rfl) ((hG.at _ _).trans rfl) rfl rfl optS ?_
 refine ρn cf104 (fun hg => may_fn ⟨id, q, 0, 0⟩) ?_
 refine ARun.not rfl rfl rfl rfl (Ev.opt rfl (fun h => h)) optS ?_
 refine ρ8 ?_
 refine mz ?_
 refine ρq (fun h0 => ?_) (fun h0 => ?_)
 · try simp at h0
   refine sr fun _ => ?_
   refine ma ?_
   refine mz ?_
   refine AWP.ret (blockA_r (thenA_r ?_))
   refine ρl (rs := [.tmp 6, .tmp 7]) (.cons (.tmp rfl) (.cons (.tmp rfl) .nil)) ?_
   rw [show createP l id q = ([], 2) from by unfold createP; rw [if_neg (by rintro ⟨x, y⟩; simp_all)]]; rfl
 try simp at h0
 refine sr fun _ => ?_
 refine mv ?_
 refine ρd U3 ?_
 refine ρh cf168 ?_ (hF := fun hg => at_fn l id (by omega))
 refine ρ1 ?_
 refine mz ?_
 refine ρq (fun h1 => ?_) (fun h1 => ?_)
 · try simp at h1
   refine sr fun _ => ?_
   refine ma ?_
   refine mz ?_
   refine AWP.ret (blockA_r (thenA_r ?_))
   refine ρl (rs := [.tmp 6, .tmp 7]) (.cons (.tmp rfl) (.cons (.tmp rfl) .nil)) ?_
   rw [show createP l id q = ([], 41) from by unfold createP; rw [if_pos h0, if_pos h1]]; rfl
 try simp at h1
 refine sr fun _ => ?_
 refine mv ?_
 refine ρr U22 ?_
 refine ρ1 ?_
 refine mz ?_
 refine ρq (fun h2 => ?_) (fun h2 => ?_)
 · try simp at h2
   refine sr fun _ => ?_
   refine ma ?_
   refine mz ?_
   refine AWP.ret (blockA_r (thenA_r ?_))
   refine ρl (rs := [.tmp 6, .tmp 7]) (.cons (.tmp rfl) (.cons (.tmp rfl) .nil)) ?_
   rw [show createP l id q = ([], 8) from by unfold createP; rw [if_pos h0, if_neg (by omega), if_pos (by omega)]]; rfl
 try simp at h2
 refine AWP.skip (blockA_n ?_)
 refine thenA_n (AWP.seq ?_)
 refine AWP.frzBox 4 hG rfl rfl rfl ?_
 refine AWP.region (fun _ => ?_)
 refine mv ?_
 refine ARun.makeFunc rfl rfl rfl rfl .nil (.cons (ep rfl) .nil) optN ?_
 refine ρh cf174 ?_ (hF := fun hg => indexIt 175 [] [.pe [.int .i64 id]] (fun y => decide (id < y.id)) l (by omega) cf175 (by simp) (fun x _ => crf_fn x id))
 refine mz ?_
 refine AWP.seq (sr fun _ => ?_)
 refine mv ?_
 refine ρ1 ?_
 refine ez ?_
 refine ρq (fun h3 => ?_) (fun h3 => ?_)
 · rw [idxOf_idx] at h3
   simp at h3
   refine AWP.region (fun _ => ?_)
   refine mv ?_
   refine ρr U22 ?_
   refine mz ?_
   refine AWP.seq ?_
   refine AWP.frzBox 8 hG rfl rfl rfl ?_
   refine AWP.draw mixed (by kernel_rfl) (fun _ => ?_)
   refine mv ?_
   refine ARun.callNew (j := 2) hG rfl rfl rfl rfl rfl cf57 (ep rfl) (.cons (ep rfl) .nil) rfl (clone_new l (by omega)) optN ?_
   refine mv ?_
   refine ρk U108 sz108 ?_
   refine ARun.buildLit rfl rfl rfl rfl U22 sz108 zv108 (by decide) (.cons (ep rfl) .nil) rfl rfl rfl rfl rfl rfl optN ?_
   refine ARun.callSet (j := 2) hG rfl rfl rfl rfl cf176 (ep rfl) (.cons (ep rfl) (.cons (ep rfl) (.cons (ep rfl) .nil))) rfl (insertIt_lit (l.map aIt) (aIt ⟨id, q, 0, 0⟩) l.length (by simp) (by simp; omega) (by simp [aIt, AV.cells, AV.one]) rfl rfl rfl (i := G.length + 2) (by simp) ((hG.at _ _).trans rfl)) rfl optN ?_
   refine ma ?_
   refine ma ?_
   refine ⟨by kernel_rfl, _, _, rfl, hG, ?_⟩
   refine thenA_n ?_
   refine AWP.frzOwn 6 hG rfl rfl (by decide) (by simp [maxLen]; omega) rfl ?_
   refine AWP.ret ?_
   refine ρl (rs := [.tmp 6, .tmp 7]) (.cons (.tmp rfl) (.cons (.tmp rfl) .nil)) ?_
   rw [show createP l id q = (insP l ⟨id, q, 0, 0⟩, 0) from by unfold createP; rw [if_pos h0, if_neg (by omega), if_neg (by omega)], show (insP l ⟨id, q, 0, 0⟩).map aIt = (l.map aIt).take l.length ++ [aIt ⟨id, q, 0, 0⟩] ++ (l.map aIt).drop l.length from by unfold insP; rw [if_pos (by simpa using h3)]; exact ins_map _ _ _]; rfl
 rw [idxOf_idx] at h3
 simp at h3
 refine AWP.skip (thenA_n (AWP.seq ?_))
 refine AWP.frzBox 8 hG rfl rfl rfl ?_
 refine AWP.draw mixed (by kernel_rfl) (fun _ => ?_)
 refine mv ?_
 refine ARun.callNew (j := 2) hG rfl rfl rfl rfl rfl cf57 (ep rfl) (.cons (ep rfl) .nil) rfl (clone_new l (by omega)) optN ?_
 refine mv ?_
 refine ρk U108 sz108 ?_
 refine ARun.buildLit rfl rfl rfl rfl U22 sz108 zv108 (by decide) (.cons (ep rfl) .nil) rfl rfl rfl rfl rfl rfl optN ?_
 refine ARun.callSet (j := 2) hG rfl rfl rfl rfl cf176 (ep rfl) (.cons (ep rfl) (.cons (ep rfl) (.cons (ep rfl) .nil))) rfl (insertIt_lit (l.map aIt) (aIt ⟨id, q, 0, 0⟩) (idx (fun y => decide (id < y.id)) l).toNat (by simp; omega) (by simp; omega) (by simp [aIt, AV.cells, AV.one]) rfl rfl rfl (i := G.length + 2) (by omega) ((hG.at _ _).trans rfl)) rfl optN ?_
 refine ma ?_
 refine ma ?_
 refine ⟨by kernel_rfl, _, _, rfl, hG, ?_⟩
 refine thenA_n ?_
 refine AWP.frzOwn 6 hG rfl rfl (by decide) (by simp [maxLen]; omega) rfl ?_
 refine AWP.ret ?_
 refine ρl (rs := [.tmp 6, .tmp 7]) (.cons (.tmp rfl) (.cons (.tmp rfl) .nil)) ?_
 rw [show createP l id q = (insP l ⟨id, q, 0, 0⟩, 0) from by unfold createP; rw [if_pos h0, if_neg (by omega), if_neg (by omega)], show (insP l ⟨id, q, 0, 0⟩).map aIt = (l.map aIt).take (idx (fun y => decide (id < y.id)) l).toNat ++ [aIt ⟨id, q, 0, 0⟩] ++ (l.map aIt).drop (idx (fun y => decide (id < y.id)) l).toNat from by unfold insP; rw [if_neg (by simpa using h3)]; exact ins_map _ _ _]; rfl
end Go.Proofs.YtcndnllmlhhjiaaGreatDoor.Stk
namespace Go.Proofs.YtcndnllmlhhjiaaGreatDoor.Stk
open StockP
theorem insP_put {l : List It} (h : ok l = true) (x : It) (hx : ∀ y, y ∈ l → y.id ≠ x.id) : insP l x = put l x := by
 rw [put_insert (ok_from h) x hx]
 unfold insP
 by_cases h2 : idx (fun y => decide (x.id < y.id)) l < 0
 · have h3 := idx_neg.1 h2
   have h4 := place_le (fun y => decide (x.id < y.id)) l
   rw [if_pos h2, show place (fun y => decide (x.id < y.id)) l = l.length by omega]; simp
 · rw [if_neg h2, (idx_pos h2).2, Int.toNat_natCast]; simp
theorem find_none_ids {l : List It} {id : Int} (h : (findT l id).2 = false) : ∀ y, y ∈ l → y.id ≠ id := by
 intro y hy e
 rw [findT_place] at h
 split at h
 · cases h
 · rename_i hp
   obtain ⟨j, hj, rfl⟩ := List.mem_iff_getElem.1 hy
   have : place (fun x => x.id == id) l < l.length := by
     clear h hy
     induction l generalizing j with
     | nil => simp at hj
     | cons x l ih =>
       rw [place_cons] at hp ⊢
       by_cases e2 : (x.id == id) = true
       · rw [if_pos e2]; simp
       · rw [if_neg e2] at hp ⊢
         cases j with
         | zero => simp at e; exact absurd (by simpa using e) e2
         | succ j =>
           have := ih (by simpa using hp) j (by simpa using hj) (by simpa using e)
           simp; omega
   exact hp this
theorem found_idx {l : List It} {id : Int} : (findT l id).2 = true ↔ ¬ idx (fun x => x.id == id) l < 0 := by
 constructor
 · intro h h2; rw [find_no h2] at h; cases h
 · intro h; rw [find_yes h]
theorem found_id {l : List It} {id : Int} (h : (findT l id).2 = true) : (findT l id).1.id = id := by
 rw [findT_place] at h ⊢
 split at h
 · rename_i hp
   have := place_at (fun x => x.id == id) l hp
   rw [dif_pos hp]; simpa using this
 · cases h
theorem found_may {l : List It} {id q : Int} (ha : askedB l q = true) (h : (findT l id).2 = true) : may (findT l id).1 = true := by
 rw [findT_place] at h ⊢
 split at h
 · rename_i hp
   rw [dif_pos hp]; exact ok_may (askedB_ok ha).1 _ (List.getElem_mem hp)
 · cases h
theorem with_put {g : It → It × Int} {l : List It} {id q : Int} (ha : askedB l q = true) (hf : (findT l id).2 = true) (hid : (g (findT l id).1).1.id = id) (h0 : (g (findT l id).1).2 = 0) : withP g l id q = (put l (g (findT l id).1).1, 0) := by
 unfold withP
 rw [findT_place] at hf hid h0 ⊢
 split at hf
 · rename_i hp
   rw [dif_pos hp] at hid h0 ⊢
   rw [if_pos ha, dif_pos hp, if_pos h0, put_set (ok_from (askedB_ok ha).1) _ (by rw [hid]; exact hp), hid]
 · cases hf
theorem with_err {g : It → It × Int} {l : List It} {id q : Int} (ha : askedB l q = true) (hf : (findT l id).2 = true) (h0 : ¬ (g (findT l id).1).2 = 0) : withP g l id q = ([], (g (findT l id).1).2) := by
 unfold withP
 rw [findT_place] at hf h0 ⊢
 split at hf
 · rename_i hp
   rw [dif_pos hp] at h0 ⊢
   rw [if_pos ha, dif_pos hp, if_neg h0]
 · cases hf
theorem with_none {g : It → It × Int} {l : List It} {id q : Int} (ha : askedB l q = true) (hf : (findT l id).2 = false) : withP g l id q = ([], 40) := by
 refine with_no ha ?_
 by_cases h : idx (fun x => x.id == id) l < 0
 · exact h
 · rw [found_idx.2 h] at hf; cases hf
theorem with_arg {g : It → It × Int} {l : List It} {id q : Int} (ha : askedB l q = false) : withP g l id q = ([], 2) := by
 unfold withP; rw [if_neg (by simp [ha])]
theorem set_ok {id : Int} {x : It} (hm : may x = true) (hid : x.id = id) : ∀ (l : List It) (p : Int), okFrom p l = true → okFrom p (l.set (place (fun y => y.id == id) l) x) = true := by
 intro l
 induction l with
 | nil => intro p h; exact h
 | cons y l ih =>
   intro p h
   simp only [okFrom, Bool.and_eq_true, decide_eq_true_eq] at h
   rw [place_cons]
   by_cases e : (y.id == id) = true
   · rw [if_pos e]
     have e2 : y.id = id := by simpa using e
     rw [List.set_cons_zero, okFrom, hm, hid, ← e2, h.2]
     simp [h.1.2]
   · rw [if_neg e, List.set_cons_succ, okFrom, h.1.1, ih _ h.2]
     simp [h.1.2]
theorem set_find {id b : Int} {x : It} (hid : x.id = id) (hb : b ≠ id) : ∀ (l : List It), find (l.set (place (fun y => y.id == id) l) x) b = find l b := by
 intro l
 unfold find
 induction l with
 | nil => rfl
 | cons y l ih =>
   rw [place_cons]
   by_cases e : (y.id == id) = true
   · rw [if_pos e]
     have e2 : y.id = id := by simpa using e
     rw [List.set_cons_zero, List.find?_cons, List.find?_cons]
     have n1 : (x.id == b) = false := by simp; omega
     have n2 : (y.id == b) = false := by simp; omega
     rw [n1, n2]
   · rw [if_neg e, List.set_cons_succ, List.find?_cons, List.find?_cons, ih]
theorem findT_of {l m : List It} {b : Int} (h : find l b = find m b) : findT l b = findT m b := by unfold findT; rw [h]
theorem with_keeps {g : It → It × Int} {l : List It} {id q : Int} (h : (withP g l id q).2 = 0) (hg : ∀ x, may x = true → 1 ≤ q → q ≤ 1000000 → (g x).2 = 0 → may (g x).1 = true ∧ (g x).1.id = x.id) :
   askedB l q = true ∧ (findT l id).2 = true ∧ (g (findT l id).1).2 = 0 ∧ (withP g l id q).1 = put l (g (findT l id).1).1 ∧ askedB (withP g l id q).1 q = true ∧ ∀ b, b ≠ id → findT (withP g l id q).1 b = findT l b := by
 cases ha : askedB l q with
 | false => rw [with_arg ha] at h; cases h
 | true =>
   cases hf : (findT l id).2 with
   | false => rw [with_none ha hf] at h; cases h
   | true =>
     by_cases h0 : (g (findT l id).1).2 = 0
     · have hm := hg _ (found_may ha hf) (askedB_ok ha).2.1 (askedB_ok ha).2.2 h0
       have hid : (g (findT l id).1).1.id = id := by rw [hm.2]; exact found_id hf
       have hok := (askedB_ok ha).1
       have hp : place (fun y => y.id == id) l < l.length := (idx_pos (found_idx.1 hf)).1
       have hs := put_set (ok_from hok) (g (findT l id).1).1 (by rw [hid]; exact hp)
       rw [hid] at hs
       rw [with_put ha hf hid h0]
       refine ⟨rfl, rfl, h0, rfl, ?_, fun b hb => ?_⟩
       · rw [hs]
         have h1 := set_ok (id := id) hm.1 hid l 0 (ok_from hok)
         have h2 := ok_len hok
         have h3 := askedB_ok ha
         unfold askedB ok
         rw [h1, List.length_set]
         simp [h2, h3.2.1, h3.2.2]
       · rw [hs]
         exact findT_of (set_find hid hb l)
     · rw [with_err ha hf h0] at h; exact absurd h h0
theorem find_no2 {l : List It} {id : Int} (h : (findT l id).2 = false) : findT l id = (default, false) := by
 by_cases h2 : idx (fun x => x.id == id) l < 0
 · exact find_no h2
 · rw [found_idx.2 h2] at h; cases h
theorem map_snoc {α β : Type} (f : α → β) (l : List α) (x : α) : l.map f ++ [f x] = (l ++ [x]).map f := by simp
theorem take_snoc2 {l : List It} {k : Nat} (hk : k < l.length) : l.take k ++ [l.getD k default] = l.take (k + 1) := by
 rw [List.take_succ_eq_append_getElem hk, It_idx hk]
theorem flt_yes {q : It → Bool} {l : List It} {k : Nat} (hk : k < l.length) (h : q (l.getD k default) = true) : (l.take k).filter q ++ [l.getD k default] = (l.take (k + 1)).filter q := by
 rw [List.take_succ_eq_append_getElem hk, List.filter_append, ← It_idx hk]; congr 1; simp only [List.filter, h]
theorem flt_no {q : It → Bool} {l : List It} {k : Nat} (hk : k < l.length) (h : q (l.getD k default) = false) : (l.take k).filter q = (l.take (k + 1)).filter q := by
 rw [List.take_succ_eq_append_getElem hk, List.filter_append, ← It_idx hk]; simp only [List.filter, h, List.append_nil]
theorem tw_is {l : List It} {k : Nat} {i : Int} (hk : k ≤ l.length) (h : ∀ j, j < k → (l.getD j default).id < i) (h2 : k < l.length → i ≤ (l.getD k default).id) : l.takeWhile (fun y => decide (y.id < i)) = l.take k := by
 refine takeWhile_take _ l k (fun j hj hjk => ?_) hk (fun hh => ?_)
 · have := h j hjk; rw [It_idx hj] at this; simpa using this
 · have := h2 hh; rw [It_idx hh] at this; simpa using this
theorem create_len (l : List It) (id q : Int) : (createP l id q).1.length ≤ l.length + 1 := by
 unfold createP
 split
 · split
   · simp
   · split
     · simp
     · unfold insP; split <;> simp <;> omega
 · simp
theorem move_len (l : List It) (a b q : Int) : (moveP l a b q).1.length ≤ l.length := by
 unfold moveP
 split
 · split
   · simp
   · split
     · exact Nat.le_trans (with_len _ _ _ _) (with_len _ _ _ _)
     · simp
 · simp
end Go.Proofs.YtcndnllmlhhjiaaGreatDoor.Stk
namespace Go.Proofs.YtcndnllmlhhjiaaGreatDoor.Stk
open StockP
def tot (x : It) : Int := x.free + x.held + x.gone
def one (id : Int) (x : It) : Int := if x.id = id then tot x else 0
def wS (w : It → Int) : List It → Int
 | [] => 0
 | x :: l => w x + wS w l
theorem wS_app (w : It → Int) (l m : List It) : wS w (l ++ m) = wS w l + wS w m := by
 induction l with
 | nil => simp [wS]
 | cons x l ih => simp only [List.cons_append, wS, ih]; omega
theorem wS_ins (w : It → Int) (l : List It) (k : Nat) (x : It) : wS w (l.take k ++ [x] ++ l.drop k) = wS w l + w x := by
 have h := congrArg (wS w) (List.take_append_drop k l)
 rw [wS_app] at h
 rw [wS_app, wS_app]
 simp only [wS]
 omega
theorem wS_set (w : It → Int) (l : List It) (k : Nat) (x : It) (h : k < l.length) : wS w (l.set k x) = wS w l - w (l.getD k default) + w x := by
 induction l generalizing k with
 | nil => simp at h
 | cons y l ih =>
   cases k with
   | zero => simp only [List.set_cons_zero, wS, List.getD_cons_zero]; omega
   | succ k => simp only [List.set_cons_succ, wS, List.getD_cons_succ, ih k (by simpa using h)]; omega
structure Sums (l r : List It) (id x y : Int) : Prop where
 all : wS tot r = wS tot l + x
 its : wS (one id) r = wS (one id) l + y
 ok : ok r = true
theorem with_sums {g : It → It × Int} {l : List It} {id q : Int} (a δ : Int) (h : (withP g l id q).2 = 0) (hg : ∀ x, may x = true → 1 ≤ q → q ≤ 1000000 → (g x).2 = 0 → may (g x).1 = true ∧ (g x).1.id = x.id ∧ tot (g x).1 = tot x + δ) :
   (1 ≤ q ∧ q ≤ 1000000) ∧ Sums l (withP g l id q).1 a δ (if id = a then δ else 0) := by
 have hk := with_keeps h (fun x h1 h2 h3 h4 => ⟨(hg x h1 h2 h3 h4).1, (hg x h1 h2 h3 h4).2.1⟩)
 obtain ⟨ha, hf, h0, _, hr, _⟩ := hk
 have hq := (askedB_ok ha).2
 have hi := found_idx.1 hf
 have hfy := find_yes hi
 have hpos := idx_pos hi
 have hfid := found_id hf
 have hfm := found_may ha hf
 rw [hfy] at h0 hfid hfm
 dsimp only at h0 hfid hfm
 have hw := with_good (g := g) ha hi h0
 have hlt : (idx (fun x => x.id == id) l).toNat < l.length := by omega
 have hgx := hg _ hfm hq.1 hq.2 h0
 refine ⟨hq, ?_, ?_, (askedB_ok hr).1⟩
 · rw [hw, wS_set _ _ _ _ hlt, hgx.2.2]; omega
 · rw [hw, wS_set _ _ _ _ hlt]
   have e1 : one a (g (l.getD (idx (fun x => x.id == id) l).toNat default)).1 = one a (l.getD (idx (fun x => x.id == id) l).toNat default) + (if id = a then δ else 0) := by
     unfold one
     rw [hgx.2.1, hgx.2.2, hfid]
     split <;> omega
   rw [e1]; omega
theorem lentE_zero {b c : Int} (h : lentE b c = 0) : 0 ≤ b ∧ 0 ≤ c := by
 unfold lentE at h
 split at h
 · cases h
 · omega
theorem hold_g (q : Int) (x : It) (hm : may x = true) (_ : 1 ≤ q) (_ : q ≤ 1000000) (h : (holdG q x).2 = 0) : may (holdG q x).1 = true ∧ (holdG q x).1.id = x.id ∧ tot (holdG q x).1 = tot x + 0 := by
 have h1 := lentE_zero (show lentE (x.free - q) (x.held + q) = 0 from h)
 have h2 := may_iff.1 hm
 exact ⟨may_iff.2 (by dsimp only [holdG]; omega), rfl, by unfold tot; dsimp only [holdG]; omega⟩
theorem free_g (q : Int) (x : It) (hm : may x = true) (_ : 1 ≤ q) (_ : q ≤ 1000000) (h : (freeG q x).2 = 0) : may (freeG q x).1 = true ∧ (freeG q x).1.id = x.id ∧ tot (freeG q x).1 = tot x + 0 := by
 have h1 := lentE_zero (show lentE (x.free + q) (x.held - q) = 0 from h)
 have h2 := may_iff.1 hm
 exact ⟨may_iff.2 (by dsimp only [freeG]; omega), rfl, by unfold tot; dsimp only [freeG]; omega⟩
theorem ship_g (q : Int) (x : It) (hm : may x = true) (_ : 1 ≤ q) (_ : q ≤ 1000000) (h : (shipG q x).2 = 0) : may (shipG q x).1 = true ∧ (shipG q x).1.id = x.id ∧ tot (shipG q x).1 = tot x + 0 := by
 have h1 := lentE_zero (show lentE x.free (x.held - q) = 0 from h)
 have h2 := may_iff.1 hm
 exact ⟨may_iff.2 (by dsimp only [shipG]; omega), rfl, by unfold tot; dsimp only [shipG]; omega⟩
theorem out_g (q : Int) (x : It) (hm : may x = true) (_ : 1 ≤ q) (_ : q ≤ 1000000) (h : (outG q x).2 = 0) : may (outG q x).1 = true ∧ (outG q x).1.id = x.id ∧ tot (outG q x).1 = tot x + -q := by
 have h1 := lentE_zero (show lentE (x.free - q) x.held = 0 from h)
 have h2 := may_iff.1 hm
 exact ⟨may_iff.2 (by dsimp only [outG]; omega), rfl, by unfold tot; dsimp only [outG]; omega⟩
theorem in_g (q : Int) (x : It) (_ : may x = true) (_ : 1 ≤ q) (_ : q ≤ 1000000) (h : (inG q x).2 = 0) : may (inG q x).1 = true ∧ (inG q x).1.id = x.id ∧ tot (inG q x).1 = tot x + q := by
 unfold inG at h ⊢
 split
 · rename_i h1; exact ⟨h1, rfl, by unfold tot; dsimp only; omega⟩
 · rename_i h1; rw [if_neg h1] at h; cases h
theorem put_ok {x : It} (hm : may x = true) : ∀ (l : List It) (p : Int), okFrom p l = true → p < x.id → (∀ y, y ∈ l → y.id ≠ x.id) → okFrom p (put l x) = true := by
 intro l
 induction l with
 | nil => intro p _ hp _; show okFrom p [x] = true; simp [okFrom, hm, hp]
 | cons y l ih =>
   intro p h hp hne
   have hlt := okFrom_lt (p := p) h
   simp only [okFrom, Bool.and_eq_true, decide_eq_true_eq] at h
   have hy := hne y List.mem_cons_self
   by_cases e : y.id < x.id
   · have e1 : put (y :: l) x = y :: put l x := by
       unfold put
       rw [List.takeWhile_cons_of_pos (by simpa using e), List.filter_cons_of_neg (by simp; omega)]; rfl
     rw [e1]
     simp only [okFrom, Bool.and_eq_true, decide_eq_true_eq]
     exact ⟨h.1, ih _ h.2 e (fun z hz => hne z (List.mem_cons_of_mem _ hz))⟩
   · have e1 : put (y :: l) x = x :: y :: l := by
       unfold put
       have hl2 := okFrom_lt h.2
       rw [List.takeWhile_cons_of_neg (by simpa using e), List.filter_eq_self.2 (by
         intro z hz
         rcases List.mem_cons.1 hz with rfl | hz
         · simp; omega
         · have := hl2 z hz; simp; omega)]; rfl
     rw [e1]
     simp only [okFrom, Bool.and_eq_true, decide_eq_true_eq]
     exact ⟨⟨hm, hp⟩, ⟨h.1.1, by omega⟩, h.2⟩
theorem create_sums {l : List It} {id q : Int} (h : (createP l id q).2 = 0) : (0 ≤ q ∧ q ≤ 1000000) ∧ Sums l (createP l id q).1 id q q := by
 unfold createP at h ⊢
 split at h
 · rename_i h1
   split at h
   · cases h
   · rename_i h2
     split at h
     · cases h
     · rename_i h3
       rw [if_pos h1, if_neg h2, if_neg h3]
       have hok := okE_ok.1 h1.1
       have hm := may_iff.1 h1.2
       have hf : (findT l id).2 = false := by rw [find_no (by omega)]
       have hne := find_none_ids hf
       refine ⟨by dsimp only at hm; omega, ?_, ?_, ?_⟩
       · show wS tot (insP l ⟨id, q, 0, 0⟩) = _
         unfold insP; split <;> rw [wS_ins] <;> simp [tot]
       · show wS (one id) (insP l ⟨id, q, 0, 0⟩) = _
         unfold insP; split <;> rw [wS_ins] <;> simp [one, tot]
       · show ok (insP l ⟨id, q, 0, 0⟩) = true
         have hlen : (insP l ⟨id, q, 0, 0⟩).length ≤ 20 := by
           unfold insP; split <;> simp <;> omega
         unfold ok
         rw [decide_eq_true hlen, Bool.true_and, insP_put hok _ hne]
         exact put_ok h1.2 l 0 (ok_from hok) (by dsimp only at hm ⊢; omega) hne
 · cases h
theorem move_sums {l : List It} {a b q : Int} (h : (moveP l a b q).2 = 0) : (1 ≤ q ∧ q ≤ 1000000) ∧ Sums l (moveP l a b q).1 a 0 (-q) := by
 unfold moveP at h ⊢
 split at h
 · rename_i h1
   split at h
   · cases h
   · rename_i h2
     split at h
     · rename_i h3
       rw [if_pos h1, if_neg h2, if_pos h3]
       obtain ⟨hq, s1⟩ := with_sums a (-q) h3 (out_g q)
       obtain ⟨_, s2⟩ := with_sums a q h (in_g q)
       rw [if_pos rfl] at s1
       rw [if_neg (fun e => h1.2 e.symm)] at s2
       refine ⟨hq, ?_, ?_, s2.ok⟩
       · rw [s2.all, s1.all]; omega
       · rw [s2.its, s1.its]; omega
     · rename_i h3; exact absurd h h3
 · cases h
end Go.Proofs.YtcndnllmlhhjiaaGreatDoor.Stk
