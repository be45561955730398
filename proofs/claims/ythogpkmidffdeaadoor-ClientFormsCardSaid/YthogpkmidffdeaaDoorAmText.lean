/- Package text, by the abstract machine. -/
import Derived.Test.YthogpkmidffdeaaDoorAmErrF
import Derived.Test.YthogpkmidffdeaaDoorAmNum
import Derived.Test.YthogpkmidffdeaaDoorTextPlain
import Derived.Test.YthogpkmidffdeaaDoorTextLaw
namespace Go.Proofs.YthogpkmidffdeaaDoor
set_option linter.unusedVariables false
set_option linter.unusedSimpArgs false
open Go.RowKit
open NumP
set_option maxRecDepth 100000
/-- a writer, a reader, as they lie -/

def aRd (r : RdS) : List AV := [.str r.s, .int .i64 r.at_, aEr (errOf tRead r.p r.e), .bool true]
/-- the document's -/
def aIn (r : RdS) : AV := .agg [.str r.s, .int .i64 r.at_, .str r.p, .int .i64 r.e]
def aOut (w : WrS) : AV := .agg [.str w.out, .str w.p, .int .i64 w.e]

theorem noH_aRd (m : Nat) (r : RdS) : ∀ x, x ∈ aRd r → NoH m x := by simp [aRd]

theorem plain_aEr (e : Er) : (aEr e).plainC = true := by cases e <;> rfl
theorem isWr_errOf (op p : ByteArray) (e : Int) : (errOf op p e).isWr = !decide (e = 0) := errOf_isWr op p e
theorem byteAt_bl (s : ByteArray) (j : Nat) : byteAt s j = (((bl s).getD j 0).toNat : Int) := rfl
theorem new_mk (p : ByteArray) (e : Int) : Er.new p e = if e = 0 then .none else .wr p (.no e) := rfl
theorem out_len (w : WrS) : w.out.size ≤ w.s.length := by
  unfold WrS.out; split
  · exact Nat.le_refl _
  · exact Nat.zero_le _
theorem unrowF_bad (l : List UInt8) (k : Nat) : ∀ (to : Int) (acc : List Int), (unrowF l k to acc).2.2 ≠ 0 → (unrowF l k to acc).1 = [] := by
  induction k with
  | zero => intro to acc h; exact absurd rfl h
  | succ k ih =>
    intro to acc h
    rw [unrow_step] at h ⊢
    split
    · rfl
    · rename_i h1; rw [if_neg h1] at h; exact ih _ _ h
theorem unrow_bad {l : List UInt8} {p top : Int} (h : (unrowN l p top).2.2 ≠ 0) : (unrowN l p top).1 = [] := by
  unfold unrowN at h ⊢
  split
  · rfl
  · rename_i h1
    rw [if_neg h1] at h
    split
    · rfl
    · rename_i h2; rw [if_neg h2] at h; exact unrowF_bad _ _ _ _ h
theorem moved_pos {r : RdS} {p : ByteArray} {to e : Int} (h : e ≠ 0) : r.moved p to e = { r with p := p, e := e } := if_pos h
theorem moved_neg {r : RdS} {p : ByteArray} {to e : Int} (h : e = 0) : r.moved p to e = { r with at_ := to } := if_neg (by simpa using h)
-- numbers
set_option maxHeartbeats 1000000 in
theorem newr_fn (s : ByteArray) : FnNewB Tryd.prog 34 [.str s] (fun i => .box i 0) (aRd (RdS.new s)) := by
  refine FnNewB.of Tryd.func34 rfl rfl (by simp) (fun G hG => ?_)
  refine AWP.seq ?_
  refine AWP.region (fun _ => ?_)
  refine ARun.move (.inr rfl) rfl rfl rfl (Ev.plain rfl) optN ?_
  refine ⟨_, _, rfl, hG, ?_⟩
  refine thenA_n ?_
  refine AWP.seq ?_
  refine AWP.region (fun _ => ?_)
  refine ARun.move (.inl rfl) rfl rfl rfl (Ev.plain rfl) optN ?_
  refine ARun.build rfl rfl rfl rfl so88 (.cons (Ev.plain rfl) (.cons (Ev.plain rfl) .nil)) rfl rfl optN ?_
  refine ARun.box (j := 0) hG rfl rfl rfl rfl rfl (Ev.plain rfl) rfl rfl optN ?_
  refine ARun.move (.inr rfl) rfl rfl rfl (Ev.plain rfl) optN ?_
  refine ⟨_, _, rfl, hG, ?_⟩
  refine thenA_n ?_
  refine AWP.ret ?_
  refine endN.one (.inr rfl) rfl (.tmp rfl) ?_ (by first | exact noH_aRd _ _ | (simp; done)) (by first | exact noH_aRd _ _ | (simp; done))
  rfl
set_option maxHeartbeats 1000000 in
theorem goes_fn (r : RdS) : FnM Tryd.prog 50 (fun i => [.box i 0]) (aRd r) (.bool (decide (r.e = 0))) (aRd r) := by
  refine FnM.of Tryd.func50 rfl rfl (fun i => by simp) (fun H i m hHm hi hG => ?_)
  have hN : NoH H.length (.bool (decide (r.e = 0))) := (by simp [AV.cells, aIn])
  refine AWP.seq ?_
  refine AWP.region (fun _ => ?_)
  refine ARun.move (.inr rfl) rfl rfl rfl (Ev.plain rfl) optN ?_
  refine ⟨_, _, rfl, hG, ?_⟩
  refine thenA_n ?_
  refine AWP.seq ?_
  refine AWP.region (fun _ => ?_)
  refine ARun.alloc (j := 0) hG rfl rfl rfl rfl rfl zv94 rfl optN ?_
  refine ⟨_, _, rfl, hG, ?_⟩
  refine thenA_n ?_
  refine AWP.seq ?_
  refine AWP.region (fun _ => ?_)
  refine ARun.move (.inl rfl) rfl rfl rfl (Ev.plain rfl) optN ?_
  refine ARun.isNilBox rfl rfl rfl rfl Tryd.underlying63 (Ev.plain rfl) (atO hi) (.inr ⟨rfl, rfl⟩) optN ?_
  refine ARun.move (.inl rfl) rfl rfl rfl (Ev.plain rfl) optN ?_
  refine ARun.move (.inl rfl) rfl rfl rfl (Ev.plain rfl) optS ?_
  first | refine ARun.nilPe rfl rfl rfl rfl (Ev.opt rfl (fun h => h)) optS ?_ | refine ARun.nilFn rfl rfl rfl rfl (Ev.opt rfl (fun h => h)) optS ?_ | refine ARun.nilBox rfl rfl rfl rfl (Ev.opt rfl (fun h => h)) (atO hi) optS ?_
  refine ARun.fieldBox (fo := 3) rfl rfl rfl rfl Tryd.underlying88 rfl rfl sz4 (by decide) (Ev.opt rfl (fun h => h)) (atO hi) optS ?_
  refine ARun.loadBox rfl rfl rfl rfl Tryd.underlying4 rfl (Ev.opt rfl (fun h => h)) (atO hi) rfl optS ?_
  refine ARun.pick rfl rfl rfl rfl (Ev.plain rfl) (Ev.opt rfl (by first | exact pkT | exact pkT2 | simp +contextual)) (Ev.plain rfl) (andB _ _) optN ?_
  refine ARun.move (.inl rfl) rfl rfl rfl (Ev.plain rfl) optN ?_
  refine ARun.move (.inl rfl) rfl rfl rfl (Ev.plain rfl) optS ?_
  first | refine ARun.nilPe rfl rfl rfl rfl (Ev.opt rfl (fun h => h)) optS ?_ | refine ARun.nilFn rfl rfl rfl rfl (Ev.opt rfl (fun h => h)) optS ?_ | refine ARun.nilBox rfl rfl rfl rfl (Ev.opt rfl (fun h => h)) (atO hi) optS ?_
  refine ARun.fieldBox (fo := 2) rfl rfl rfl rfl Tryd.underlying88 rfl rfl sz52 (by decide) (Ev.opt rfl (fun h => h)) (atO hi) optS ?_
  refine ARun.loadBox rfl rfl rfl rfl Tryd.underlying52 rfl (Ev.opt rfl (fun h => h)) (atO hi) rfl optS ?_
  refine ARun.iface rfl rfl rfl rfl (by kernel_rfl) (Ev.plain rfl) optS ?_
  refine ARun.callSetG (j := 0) hG rfl rfl rfl rfl cf42 (Ev.plain rfl) (.cons (Ev.opt rfl (fun h => h)) (.cons (Ev.opt rfl (fun h => h)) .nil)) rfl (fun hg => As_F (errOf tRead r.p r.e) _ _ ((hG.at _ _).trans rfl)) (fun hg => by simp at hg) rfl optS ?_
  refine ARun.not rfl rfl rfl rfl (Ev.opt rfl (fun h => h)) optS ?_
  refine ARun.pick rfl rfl rfl rfl (Ev.plain rfl) (Ev.opt rfl (by first | exact pkT | exact pkT2 | simp +contextual)) (Ev.plain rfl) (andB _ _) optN ?_
  refine ARun.move (.inr rfl) rfl rfl rfl (Ev.plain rfl) optN ?_
  refine ⟨_, _, rfl, hG, ?_⟩
  refine thenA_n ?_
  refine AWP.ret ?_
  refine endF.toG (congrArg (fun c => H.set i (AO.box c)) rfl) ?_
  refine endF.one (.inr rfl) rfl (.tmp rfl) ?_ (by rw [List.length_set]; exact hN)
  simp [errOf_isWr]
set_option maxHeartbeats 1000000 in
theorem goes_nil  : FnP Tryd.prog 50 [.raw (.pointer .none)] (.bool false) := by
  refine FnP.of Tryd.func50 rfl rfl (by simp) (by simp [AV.cells, aIn]) (fun G hG => ?_)
  have hN : NoH G.length (.bool false) := (by simp [AV.cells, aIn])
  refine AWP.seq ?_
  refine AWP.region (fun _ => ?_)
  refine ARun.move (.inr rfl) rfl rfl rfl (Ev.plain rfl) optN ?_
  refine ⟨_, _, rfl, hG, ?_⟩
  refine thenA_n ?_
  refine AWP.seq ?_
  refine AWP.region (fun _ => ?_)
  refine ARun.alloc (j := 0) hG rfl rfl rfl rfl rfl zv94 rfl optN ?_
  refine ⟨_, _, rfl, hG, ?_⟩
  refine thenA_n ?_
  refine AWP.seq ?_
  refine AWP.region (fun _ => ?_)
  refine ARun.move (.inl rfl) rfl rfl rfl (Ev.plain rfl) optN ?_
  refine ARun.isNilP rfl rfl rfl rfl Tryd.underlying63 (Ev.plain rfl) (fun hg => by first | rfl | exact nilP_aFl _) (.inr ⟨rfl, rfl⟩) optN ?_
  refine ARun.move (.inl rfl) rfl rfl rfl (Ev.plain rfl) optN ?_
  refine ARun.dead (X := .bool false) rfl rfl rfl rfl ?_
  refine ARun.dead (X := .bool false) rfl rfl rfl rfl ?_
  refine ARun.dead (X := .bool false) rfl rfl rfl rfl ?_
  refine ARun.dead (X := .bool false) rfl rfl rfl rfl ?_
  refine ARun.pick rfl rfl rfl rfl (Ev.plain rfl) (Ev.opt rfl (by first | exact pkT | exact pkT2 | simp +contextual)) (Ev.plain rfl) (andB _ _) optN ?_
  refine ARun.move (.inl rfl) rfl rfl rfl (Ev.plain rfl) optN ?_
  refine ARun.dead (X := .bool false) rfl rfl rfl rfl ?_
  refine ARun.dead (X := .bool false) rfl rfl rfl rfl ?_
  refine ARun.dead (X := .bool false) rfl rfl rfl rfl ?_
  refine ARun.dead (X := .bool false) rfl rfl rfl rfl ?_
  refine ARun.dead (X := .bool false) rfl rfl rfl rfl ?_
  refine ARun.dead (X := .bool false) rfl rfl rfl rfl ?_
  refine ARun.dead (X := .bool false) rfl rfl rfl rfl ?_
  refine ARun.pick rfl rfl rfl rfl (Ev.plain rfl) (Ev.opt rfl (by first | exact pkT | exact pkT2 | simp +contextual)) (Ev.plain rfl) (andB _ _) optN ?_
  refine ARun.move (.inr rfl) rfl rfl rfl (Ev.plain rfl) optN ?_
  refine ⟨_, _, rfl, hG, ?_⟩
  refine thenA_n ?_
  refine AWP.ret ?_
  refine endF.one (.inr rfl) rfl (.tmp rfl) ?_ hN
  rfl
set_option maxHeartbeats 1000000 in
theorem done_fn (r : RdS) (p : ByteArray) (to e : Int) : FnM Tryd.prog 52 (fun i => [.box i 0, .str p, .int .i64 to, .int .i64 e]) (aRd r) (.bool (decide (e = 0))) (aRd (r.moved p to e)) := by
  refine FnM.of Tryd.func52 rfl rfl (fun i => by simp) (fun H i m hHm hi hG => ?_)
  have hN : NoH H.length (.bool (decide (e = 0))) := (by simp [AV.cells, aIn])
  refine AWP.seq ?_
  refine AWP.region (fun _ => ?_)
  refine ARun.move (.inr rfl) rfl rfl rfl (Ev.plain rfl) optN ?_
  refine ⟨_, _, rfl, hG, ?_⟩
  refine thenA_n ?_
  refine AWP.seq ?_
  refine AWP.seq ?_
  refine AWP.region (fun _ => ?_)
  refine ARun.move (.inl rfl) rfl rfl rfl (Ev.plain rfl) optN ?_
  refine ARun.cmp rfl rfl rfl rfl (Ev.plain rfl) (Ev.plain rfl) rfl optN ?_
  refine ⟨_, _, rfl, hG, ?_⟩
  refine thenA_n ?_
  refine AWP.cond rfl (fun h0 => ?_) (fun h0 => ?_)
  · skip
    have he : e ≠ 0 := by simpa using h0
    refine AWP.seq ?_
    refine AWP.region (fun _ => ?_)
    refine ARun.move (.inl rfl) rfl rfl rfl (Ev.plain rfl) optN ?_
    refine ARun.move (.inl rfl) rfl rfl rfl (Ev.plain rfl) optN ?_
    refine ARun.move (.inl rfl) rfl rfl rfl (Ev.plain rfl) optN ?_
    refine ARun.call rfl rfl rfl rfl cf40 (Ev.plain rfl) (.cons (Ev.plain rfl) (.cons (Ev.plain rfl) .nil)) rfl (fun hg => new_fn p e) optN ?_
    refine ARun.call rfl rfl rfl rfl cf39 (Ev.plain rfl) (.cons (Ev.plain rfl) (.cons (Ev.plain rfl) .nil)) rfl (fun hg => wrap_fn tRead (Er.new p e)) optN ?_
    first | refine ARun.nilPe rfl rfl rfl rfl (Ev.plain rfl) optN ?_ | refine ARun.nilFn rfl rfl rfl rfl (Ev.plain rfl) optN ?_ | refine ARun.nilBox rfl rfl rfl rfl (Ev.plain rfl) (atO hi) optN ?_
    refine ARun.fieldBox (fo := 2) rfl rfl rfl rfl Tryd.underlying88 rfl rfl sz52 (by decide) (Ev.plain rfl) (atO hi) optN ?_
    refine ARun.storeO1 hi hG rfl rfl rfl sz52 (Ev.plain rfl) (Ev.plain rfl) (by first | rfl | exact aEr_one _ | exact aFl_one _) (Nat.le_of_ble_eq_true rfl) rfl (by first | exact noH_aRd _ _ | (simp; done) | (simp [cAV]; done)) (fun hG => ?_) (hsp := (by first | rfl | simp [aRd, plain_aEr]))
    refine ⟨_, _, rfl, hG, ?_⟩
    refine thenA_n ?_
    refine AWP.seq ?_
    refine AWP.region (fun _ => ?_)
    refine ARun.move (.inr rfl) rfl rfl rfl (Ev.plain rfl) optN ?_
    refine ⟨_, _, rfl, hG, ?_⟩
    refine thenA_n ?_
    refine AWP.ret ?_
    refine thenA_r ?_
    refine endF.toG (congrArg (fun c => H.set i (AO.box c)) (by rw [moved_pos he]; exact congrArg (fun x => [AV.str r.s, .int .i64 r.at_, aEr x, .bool true]) (errOf_mk tRead p e))) ?_
    refine endF.one (.inr rfl) rfl (.tmp rfl) ?_ (by rw [List.length_set]; exact hN)
    simp [he]; rfl
  · skip
    have he : e = 0 := by simpa using h0
    refine AWP.skip ?_
    refine thenA_n ?_
    refine AWP.seq ?_
    refine AWP.region (fun _ => ?_)
    refine ARun.move (.inl rfl) rfl rfl rfl (Ev.plain rfl) optN ?_
    refine ARun.move (.inl rfl) rfl rfl rfl (Ev.plain rfl) optN ?_
    first | refine ARun.nilPe rfl rfl rfl rfl (Ev.plain rfl) optN ?_ | refine ARun.nilFn rfl rfl rfl rfl (Ev.plain rfl) optN ?_ | refine ARun.nilBox rfl rfl rfl rfl (Ev.plain rfl) (atO hi) optN ?_
    refine ARun.fieldBox (fo := 1) rfl rfl rfl rfl Tryd.underlying88 rfl rfl sz3 (by decide) (Ev.plain rfl) (atO hi) optN ?_
    refine ARun.storeO1 hi hG rfl rfl rfl sz3 (Ev.plain rfl) (Ev.plain rfl) (by first | rfl | exact aEr_one _ | exact aFl_one _) (Nat.le_of_ble_eq_true rfl) rfl (by first | exact noH_aRd _ _ | (simp; done) | (simp [cAV]; done)) (fun hG => ?_) (hsp := (by first | rfl | simp [aRd, plain_aEr]))
    refine ⟨_, _, rfl, hG, ?_⟩
    refine thenA_n ?_
    refine AWP.seq ?_
    refine AWP.region (fun _ => ?_)
    refine ARun.move (.inr rfl) rfl rfl rfl (Ev.plain rfl) optN ?_
    refine ⟨_, _, rfl, hG, ?_⟩
    refine thenA_n ?_
    refine AWP.ret ?_
    refine endF.toG (congrArg (fun c => H.set i (AO.box c)) (by rw [moved_neg he]; rfl)) ?_
    refine endF.one (.inr rfl) rfl (.tmp rfl) ?_ (by rw [List.length_set]; exact hN)
    simp [he]; rfl
set_option maxHeartbeats 1000000 in
theorem num_r (r : RdS) (most : Int) (h : r.ok) : FnM Tryd.prog 35 (fun i => [.box i 0, .int .i64 most]) (aRd r) (.int .i64 (rdNum r most).2) (aRd (rdNum r most).1) := by
  refine FnM.of Tryd.func35 rfl rfl (fun i => by simp) (fun H i m hHm hi hG => ?_)
  have hN : NoH H.length (.int .i64 (rdNum r most).2) := (by simp [AV.cells, aIn])
  refine AWP.seq ?_
  refine AWP.region (fun _ => ?_)
  refine ARun.move (.inr rfl) rfl rfl rfl (Ev.plain rfl) optN ?_
  refine ⟨_, _, rfl, hG, ?_⟩
  refine thenA_n ?_
  refine AWP.seq ?_
  refine AWP.seq ?_
  refine AWP.region (fun _ => ?_)
  refine ARun.move (.inl rfl) rfl rfl rfl (Ev.plain rfl) optN ?_
  refine ARun.callR rfl rfl rfl rfl cf50 (Ev.plain rfl) (.cons (Ev.plain rfl) .nil) rfl (fun hg => FnM.keep (goes_fn r) (atO hi)) optN ?_
  refine ARun.not rfl rfl rfl rfl (Ev.plain rfl) optN ?_
  refine ⟨_, _, rfl, hG, ?_⟩
  refine thenA_n ?_
  refine AWP.cond rfl (fun h0 => ?_) (fun h0 => ?_)
  · skip
    have he : r.e ≠ 0 := by simpa using h0
    refine AWP.seq ?_
    refine AWP.region (fun _ => ?_)
    refine ARun.move (.inr rfl) rfl rfl rfl (Ev.plain rfl) optN ?_
    refine ⟨_, _, rfl, hG, ?_⟩
    refine thenA_n ?_
    refine AWP.ret ?_
    refine thenA_r ?_
    refine endF.toG (congrArg (fun c => H.set i (AO.box c)) (by rw [rdNum, if_pos he])) ?_
    refine endF.one (.inr rfl) rfl (.tmp rfl) ?_ (by rw [List.length_set]; exact hN)
    rw [rdNum, if_pos he]; rfl
  · skip
    have he : r.e = 0 := by simpa using h0
    have hde : rdNum r most = (r.moved tNum (getN (bl r.s) r.at_).2.1 (numE r most), if numE r most ≠ 0 then 0 else (getN (bl r.s) r.at_).1) := by rw [rdNum, if_neg (by omega)]
    refine AWP.skip ?_
    refine thenA_n ?_
    refine AWP.seq ?_
    refine AWP.draw mixed (by kernel_rfl) (fun _ => ?_)
    refine ARun.move (.inl rfl) rfl rfl rfl (Ev.plain rfl) optN ?_
    first | refine ARun.nilPe rfl rfl rfl rfl (Ev.plain rfl) optN ?_ | refine ARun.nilFn rfl rfl rfl rfl (Ev.plain rfl) optN ?_ | refine ARun.nilBox rfl rfl rfl rfl (Ev.plain rfl) (atO hi) optN ?_
    refine ARun.fieldBox (fo := 0) rfl rfl rfl rfl Tryd.underlying88 rfl rfl sz9 (by decide) (Ev.plain rfl) (atO hi) optN ?_
    refine ARun.loadBox rfl rfl rfl rfl Tryd.underlying9 rfl (Ev.plain rfl) (atO hi) rfl optN ?_
    refine ARun.move (.inl rfl) rfl rfl rfl (Ev.plain rfl) optN ?_
    first | refine ARun.nilPe rfl rfl rfl rfl (Ev.plain rfl) optN ?_ | refine ARun.nilFn rfl rfl rfl rfl (Ev.plain rfl) optN ?_ | refine ARun.nilBox rfl rfl rfl rfl (Ev.plain rfl) (atO hi) optN ?_
    refine ARun.fieldBox (fo := 1) rfl rfl rfl rfl Tryd.underlying88 rfl rfl sz3 (by decide) (Ev.plain rfl) (atO hi) optN ?_
    refine ARun.loadBox rfl rfl rfl rfl Tryd.underlying3 rfl (Ev.plain rfl) (atO hi) rfl optN ?_
    refine ARun.call rfl rfl rfl rfl cf51 (Ev.plain rfl) (.cons (Ev.plain rfl) (.cons (Ev.plain rfl) .nil)) rfl (fun hg => get_fn r.s r.at_ h.2.2) optN ?_
    refine ARun.move (.inl rfl) rfl rfl rfl (Ev.plain rfl) optN ?_
    refine ARun.extract rfl rfl rfl rfl (Ev.plain rfl) rfl optN ?_
    refine ARun.extract rfl rfl rfl rfl (Ev.plain rfl) rfl optN ?_
    refine ARun.extract rfl rfl rfl rfl (Ev.plain rfl) rfl optN ?_
    refine ARun.move (.inr rfl) rfl rfl rfl (Ev.plain rfl) optN ?_
    refine ARun.move (.inr rfl) rfl rfl rfl (Ev.plain rfl) optN ?_
    refine ARun.move (.inr rfl) rfl rfl rfl (Ev.plain rfl) optN ?_
    refine ⟨by kernel_rfl, _, _, rfl, hG, ?_⟩
    refine thenA_n ?_
    refine AWP.seq ?_
    refine AWP.seq ?_
    refine AWP.region (fun _ => ?_)
    refine ARun.move (.inl rfl) rfl rfl rfl (Ev.plain rfl) optN ?_
    refine ARun.cmp rfl rfl rfl rfl (Ev.plain rfl) (Ev.plain rfl) rfl optN ?_
    refine ARun.move (.inl rfl) rfl rfl rfl (Ev.plain rfl) optN ?_
    refine ARun.move (.inl rfl) rfl rfl rfl (Ev.plain rfl) optS ?_
    refine ARun.move (.inl rfl) rfl rfl rfl (Ev.plain rfl) optS ?_
    refine ARun.cmp rfl rfl rfl rfl (Ev.opt rfl (fun h => h)) (Ev.opt rfl (fun h => h)) rfl optS ?_
    refine ARun.pick rfl rfl rfl rfl (Ev.plain rfl) (Ev.opt rfl (by first | exact pkT | exact pkT2 | simp +contextual)) (Ev.plain rfl) (andB _ _) optN ?_
    refine ⟨_, _, rfl, hG, ?_⟩
    refine thenA_n ?_
    refine AWP.cond rfl (fun h1 => ?_) (fun h1 => ?_)
    · skip
      simp at h1
      have hne : numE r most = 3 := by rw [numE, if_pos (by omega)]
      rw [hne] at hde
      refine AWP.region (fun _ => ?_)
      refine ARun.move (.inr rfl) rfl rfl rfl (Ev.plain rfl) optN ?_
      refine ⟨_, _, rfl, hG, ?_⟩
      refine thenA_n ?_
      refine AWP.seq ?_
      refine AWP.seq ?_
      refine AWP.region (fun _ => ?_)
      refine ARun.move (.inl rfl) rfl rfl rfl (Ev.plain rfl) optN ?_
      refine ARun.move (.inl rfl) rfl rfl rfl (Ev.plain rfl) optN ?_
      refine ARun.move (.inl rfl) rfl rfl rfl (Ev.plain rfl) optN ?_
      refine ARun.callO hi hG rfl rfl rfl rfl cf52 (Ev.plain rfl) (.cons (Ev.plain rfl) (.cons (Ev.plain rfl) (.cons (Ev.plain rfl) (.cons (Ev.plain rfl) .nil)))) rfl (done_fn r tNum (getN (bl r.s) r.at_).2.1 3 _ _ (atO hi)) (by first | exact noH_aRd _ _ | (simp; done) | (simp [cAV]; done)) optN (fun hG => ?_)
      refine ARun.not rfl rfl rfl rfl (Ev.plain rfl) optN ?_
      refine ⟨_, _, rfl, hG, ?_⟩
      refine thenA_n ?_
      refine AWP.cond rfl (fun h2 => ?_) (fun h2 => ?_)
      · skip
        refine AWP.seq ?_
        refine AWP.region (fun _ => ?_)
        refine ARun.move (.inr rfl) rfl rfl rfl (Ev.plain rfl) optN ?_
        refine ⟨_, _, rfl, hG, ?_⟩
        refine thenA_n ?_
        refine AWP.ret ?_
        refine thenA_r ?_
        refine endF.toG (congrArg (fun c => H.set i (AO.box c)) (by rw [hde])) ?_
        refine endF.one (.inr rfl) rfl (.tmp rfl) ?_ (by rw [List.length_set]; exact hN)
        rw [hde]; rfl
      · skip
        simp at h2
    · skip
      have h1' : ¬ ((getN (bl r.s) r.at_).2.2 = 0 ∧ (getN (bl r.s) r.at_).1 > most) := by simp at h1; omega
      have hne : numE r most = (getN (bl r.s) r.at_).2.2 := by rw [numE, if_neg h1']
      rw [hne] at hde
      refine AWP.skip ?_
      refine thenA_n ?_
      refine AWP.seq ?_
      refine AWP.seq ?_
      refine AWP.region (fun _ => ?_)
      refine ARun.move (.inl rfl) rfl rfl rfl (Ev.plain rfl) optN ?_
      refine ARun.move (.inl rfl) rfl rfl rfl (Ev.plain rfl) optN ?_
      refine ARun.move (.inl rfl) rfl rfl rfl (Ev.plain rfl) optN ?_
      refine ARun.callO hi hG rfl rfl rfl rfl cf52 (Ev.plain rfl) (.cons (Ev.plain rfl) (.cons (Ev.plain rfl) (.cons (Ev.plain rfl) (.cons (Ev.plain rfl) .nil)))) rfl (done_fn r tNum (getN (bl r.s) r.at_).2.1 (getN (bl r.s) r.at_).2.2 _ _ (atO hi)) (by first | exact noH_aRd _ _ | (simp; done) | (simp [cAV]; done)) optN (fun hG => ?_)
      refine ARun.not rfl rfl rfl rfl (Ev.plain rfl) optN ?_
      refine ⟨_, _, rfl, hG, ?_⟩
      refine thenA_n ?_
      refine AWP.cond rfl (fun h3 => ?_) (fun h3 => ?_)
      · skip
        simp at h3
        refine AWP.seq ?_
        refine AWP.region (fun _ => ?_)
        refine ARun.move (.inr rfl) rfl rfl rfl (Ev.plain rfl) optN ?_
        refine ⟨_, _, rfl, hG, ?_⟩
        refine thenA_n ?_
        refine AWP.ret ?_
        refine thenA_r ?_
        refine endF.toG (congrArg (fun c => H.set i (AO.box c)) (by rw [hde])) ?_
        refine endF.one (.inr rfl) rfl (.tmp rfl) ?_ (by rw [List.length_set]; exact hN)
        rw [hde, if_pos h3]; rfl
      · skip
        simp at h3
        refine AWP.skip ?_
        refine thenA_n ?_
        refine AWP.seq ?_
        refine AWP.region (fun _ => ?_)
        refine ARun.move (.inl rfl) rfl rfl rfl (Ev.plain rfl) optN ?_
        refine ARun.move (.inr rfl) rfl rfl rfl (Ev.plain rfl) optN ?_
        refine ⟨_, _, rfl, hG, ?_⟩
        refine thenA_n ?_
        refine AWP.ret ?_
        refine endF.toG (congrArg (fun c => H.set i (AO.box c)) (by rw [hde])) ?_
        refine endF.one (.inr rfl) rfl (.tmp rfl) ?_ (by rw [List.length_set]; exact hN)
        rw [hde, if_neg (by omega)]
set_option maxHeartbeats 1000000 in
theorem row_r (r : RdS) (most : Int) (h : r.ok) : FnM Tryd.prog 36 (fun i => [.box i 0, .int .i64 most]) (aRd r) (.sl ((rdRow r most).2.map (AV.int .i64))) (aRd (rdRow r most).1) := by
  refine FnM.of Tryd.func36 rfl rfl (fun i => by simp) (fun H i m hHm hi hG => ?_)
  have hN : NoH H.length (.sl ((rdRow r most).2.map (AV.int .i64))) := (by simp [AV.cells])
  refine AWP.seq ?_
  refine AWP.region (fun _ => ?_)
  refine ARun.move (.inr rfl) rfl rfl rfl (Ev.plain rfl) optN ?_
  refine ⟨_, _, rfl, hG, ?_⟩
  refine thenA_n ?_
  refine AWP.seq ?_
  refine AWP.seq ?_
  refine AWP.region (fun _ => ?_)
  refine ARun.move (.inl rfl) rfl rfl rfl (Ev.plain rfl) optN ?_
  refine ARun.callR rfl rfl rfl rfl cf50 (Ev.plain rfl) (.cons (Ev.plain rfl) .nil) rfl (fun hg => FnM.keep (goes_fn r) (atO hi)) optN ?_
  refine ARun.not rfl rfl rfl rfl (Ev.plain rfl) optN ?_
  refine ⟨_, _, rfl, hG, ?_⟩
  refine thenA_n ?_
  refine AWP.cond rfl (fun h0 => ?_) (fun h0 => ?_)
  · skip
    have he : r.e ≠ 0 := by simpa using h0
    refine AWP.seq ?_
    refine AWP.region (fun _ => ?_)
    refine ARun.move (.inr rfl) rfl rfl rfl (Ev.plain rfl) optN ?_
    refine ⟨_, _, rfl, hG, ?_⟩
    refine thenA_n ?_
    refine AWP.ret ?_
    refine thenA_r ?_
    refine endF.toG (congrArg (fun c => H.set i (AO.box c)) (by rw [rdRow, if_pos he])) ?_
    refine endF.one (.inr rfl) rfl (.tmp rfl) ?_ (by rw [List.length_set]; exact hN)
    rw [rdRow, if_pos he]; rfl
  · skip
    have he : r.e = 0 := by simpa using h0
    have hde : rdRow r most = (r.moved tRow (unrowN (bl r.s) r.at_ most).2.1 (unrowN (bl r.s) r.at_ most).2.2, (unrowN (bl r.s) r.at_ most).1) := by rw [rdRow, if_neg (by omega)]
    refine AWP.skip ?_
    refine thenA_n ?_
    refine AWP.seq ?_
    refine AWP.draw mixed (by kernel_rfl) (fun _ => ?_)
    refine ARun.move (.inl rfl) rfl rfl rfl (Ev.plain rfl) optN ?_
    first | refine ARun.nilPe rfl rfl rfl rfl (Ev.plain rfl) optN ?_ | refine ARun.nilFn rfl rfl rfl rfl (Ev.plain rfl) optN ?_ | refine ARun.nilBox rfl rfl rfl rfl (Ev.plain rfl) (atO hi) optN ?_
    refine ARun.fieldBox (fo := 0) rfl rfl rfl rfl Tryd.underlying88 rfl rfl sz9 (by decide) (Ev.plain rfl) (atO hi) optN ?_
    refine ARun.loadBox rfl rfl rfl rfl Tryd.underlying9 rfl (Ev.plain rfl) (atO hi) rfl optN ?_
    refine ARun.move (.inl rfl) rfl rfl rfl (Ev.plain rfl) optN ?_
    first | refine ARun.nilPe rfl rfl rfl rfl (Ev.plain rfl) optN ?_ | refine ARun.nilFn rfl rfl rfl rfl (Ev.plain rfl) optN ?_ | refine ARun.nilBox rfl rfl rfl rfl (Ev.plain rfl) (atO hi) optN ?_
    refine ARun.fieldBox (fo := 1) rfl rfl rfl rfl Tryd.underlying88 rfl rfl sz3 (by decide) (Ev.plain rfl) (atO hi) optN ?_
    refine ARun.loadBox rfl rfl rfl rfl Tryd.underlying3 rfl (Ev.plain rfl) (atO hi) rfl optN ?_
    refine ARun.move (.inl rfl) rfl rfl rfl (Ev.plain rfl) optN ?_
    refine ARun.call rfl rfl rfl rfl cf53 (Ev.plain rfl) (.cons (Ev.plain rfl) (.cons (Ev.plain rfl) (.cons (Ev.plain rfl) .nil))) rfl (fun hg => unrowN_fn r.s r.at_ most h.2.2) optN ?_
    refine ARun.move (.inl rfl) rfl rfl rfl (Ev.plain rfl) optN ?_
    refine ARun.extract rfl rfl rfl rfl (Ev.plain rfl) rfl optN ?_
    refine ARun.extract rfl rfl rfl rfl (Ev.plain rfl) rfl optN ?_
    refine ARun.extract rfl rfl rfl rfl (Ev.plain rfl) rfl optN ?_
    refine ARun.move (.inr rfl) rfl rfl rfl (Ev.plain rfl) optN ?_
    refine ARun.move (.inr rfl) rfl rfl rfl (Ev.plain rfl) optN ?_
    refine ARun.move (.inr rfl) rfl rfl rfl (Ev.plain rfl) optN ?_
    refine ⟨by kernel_rfl, _, _, rfl, hG, ?_⟩
    refine thenA_n ?_
    refine AWP.seq ?_
    refine AWP.seq ?_
    refine AWP.region (fun _ => ?_)
    refine ARun.move (.inl rfl) rfl rfl rfl (Ev.plain rfl) optN ?_
    refine ARun.move (.inl rfl) rfl rfl rfl (Ev.plain rfl) optN ?_
    refine ARun.move (.inl rfl) rfl rfl rfl (Ev.plain rfl) optN ?_
    refine ARun.callO hi hG rfl rfl rfl rfl cf52 (Ev.plain rfl) (.cons (Ev.plain rfl) (.cons (Ev.plain rfl) (.cons (Ev.plain rfl) (.cons (Ev.plain rfl) .nil)))) rfl (done_fn r tRow (unrowN (bl r.s) r.at_ most).2.1 (unrowN (bl r.s) r.at_ most).2.2 _ _ (atO hi)) (by first | exact noH_aRd _ _ | (simp; done) | (simp [cAV]; done)) optN (fun hG => ?_)
    refine ARun.not rfl rfl rfl rfl (Ev.plain rfl) optN ?_
    refine ⟨_, _, rfl, hG, ?_⟩
    refine thenA_n ?_
    refine AWP.cond rfl (fun h1 => ?_) (fun h1 => ?_)
    · skip
      simp at h1
      refine AWP.seq ?_
      refine AWP.region (fun _ => ?_)
      refine ARun.move (.inr rfl) rfl rfl rfl (Ev.plain rfl) optN ?_
      refine ⟨_, _, rfl, hG, ?_⟩
      refine thenA_n ?_
      refine AWP.ret ?_
      refine thenA_r ?_
      refine endF.toG (congrArg (fun c => H.set i (AO.box c)) (by rw [hde])) ?_
      refine endF.one (.inr rfl) rfl (.tmp rfl) ?_ (by rw [List.length_set]; exact hN)
      rw [hde, unrow_bad h1]; rfl
    · skip
      simp at h1
      refine AWP.skip ?_
      refine thenA_n ?_
      refine AWP.seq ?_
      refine AWP.region (fun _ => ?_)
      refine ARun.move (.inl rfl) rfl rfl rfl (Ev.plain rfl) optN ?_
      refine ARun.move (.inr rfl) rfl rfl rfl (Ev.plain rfl) optN ?_
      refine ⟨_, _, rfl, hG, ?_⟩
      refine thenA_n ?_
      refine AWP.ret ?_
      refine endF.toG (congrArg (fun c => H.set i (AO.box c)) (by rw [hde])) ?_
      refine endF.one (.inr rfl) rfl (.tmp rfl) ?_ (by rw [List.length_set]; exact hN)
      rw [hde]
set_option maxHeartbeats 1000000 in
theorem end_r (r : RdS) (h : r.ok) : FnM Tryd.prog 37 (fun i => [.box i 0]) (aRd r) (.tup []) (aRd (rdEnd r)) := by
  refine FnM.of Tryd.func37 rfl rfl (fun i => by simp) (fun H i m hHm hi hG => ?_)
  have hN : NoH H.length (.tup []) := (by simp [AV.cells, aIn])
  refine AWP.seq ?_
  refine AWP.draw mixed (by kernel_rfl) (fun _ => ?_)
  refine ARun.move (.inl rfl) rfl rfl rfl (Ev.plain rfl) optN ?_
  refine ARun.callR rfl rfl rfl rfl cf50 (Ev.plain rfl) (.cons (Ev.plain rfl) .nil) rfl (fun hg => FnM.keep (goes_fn r) (atO hi)) optN ?_
  refine ARun.move (.inl rfl) rfl rfl rfl (Ev.plain rfl) optN ?_
  refine ARun.move (.inl rfl) rfl rfl rfl (Ev.plain rfl) optS ?_
  first | refine ARun.nilPe rfl rfl rfl rfl (Ev.opt rfl (fun h => h)) optS ?_ | refine ARun.nilFn rfl rfl rfl rfl (Ev.opt rfl (fun h => h)) optS ?_ | refine ARun.nilBox rfl rfl rfl rfl (Ev.opt rfl (fun h => h)) (atO hi) optS ?_
  refine ARun.fieldBox (fo := 1) rfl rfl rfl rfl Tryd.underlying88 rfl rfl sz3 (by decide) (Ev.opt rfl (fun h => h)) (atO hi) optS ?_
  refine ARun.loadBox rfl rfl rfl rfl Tryd.underlying3 rfl (Ev.opt rfl (fun h => h)) (atO hi) rfl optS ?_
  refine ARun.move (.inl rfl) rfl rfl rfl (Ev.plain rfl) optS ?_
  first | refine ARun.nilPe rfl rfl rfl rfl (Ev.opt rfl (fun h => h)) optS ?_ | refine ARun.nilFn rfl rfl rfl rfl (Ev.opt rfl (fun h => h)) optS ?_ | refine ARun.nilBox rfl rfl rfl rfl (Ev.opt rfl (fun h => h)) (atO hi) optS ?_
  refine ARun.fieldBox (fo := 0) rfl rfl rfl rfl Tryd.underlying88 rfl rfl sz9 (by decide) (Ev.opt rfl (fun h => h)) (atO hi) optS ?_
  refine ARun.loadBox rfl rfl rfl rfl Tryd.underlying9 rfl (Ev.opt rfl (fun h => h)) (atO hi) rfl optS ?_
  refine ARun.lenStr rfl rfl rfl rfl Tryd.underlying9 (Ev.opt rfl (fun h => h)) optS ?_
  refine ARun.cmp rfl rfl rfl rfl (Ev.opt rfl (fun h => h)) (Ev.opt rfl (fun h => h)) rfl optS ?_
  refine ARun.pick rfl rfl rfl rfl (Ev.plain rfl) (Ev.opt rfl (by first | exact pkT | exact pkT2 | simp +contextual)) (Ev.plain rfl) (andB _ _) optN ?_
  refine ⟨by kernel_rfl, _, _, rfl, hG, ?_⟩
  refine thenA_n ?_
  refine AWP.cond rfl (fun h0 => ?_) (fun h0 => ?_)
  · skip
    simp at h0
    refine AWP.region (fun _ => ?_)
    refine ARun.move (.inl rfl) rfl rfl rfl (Ev.plain rfl) optN ?_
    refine ARun.callO hi hG rfl rfl rfl rfl cf52 (Ev.plain rfl) (.cons (Ev.plain rfl) (.cons (Ev.plain rfl) (.cons (Ev.plain rfl) (.cons (Ev.plain rfl) .nil)))) rfl (done_fn r tEnd 0 6 _ _ (atO hi)) (by first | exact noH_aRd _ _ | (simp; done) | (simp [cAV]; done)) optN (fun hG => ?_)
    refine ⟨_, _, rfl, hG, ?_⟩
    refine endF.toG (congrArg (fun c => H.set i (AO.box c)) (by rw [rdEnd, if_pos h0])) ?_
    refine endF.many (.inl rfl) (rs := []) rfl .nil (by simp) ?_ (by rw [List.length_set]; exact hN)
    rfl
  · skip
    simp at h0
    refine AWP.skip ?_
    refine endF.toG (congrArg (fun c => H.set i (AO.box c)) (by rw [rdEnd, if_neg (by omega)])) ?_
    refine endF.many (.inl rfl) (rs := []) rfl .nil (by simp) ?_ (by rw [List.length_set]; exact hN)
    rfl
set_option maxHeartbeats 1000000 in
theorem rdone_fn (r : RdS) : FnM Tryd.prog 38 (fun i => [.box i 0]) (aRd r) (aEr (errOf tRead r.p r.e)) (aRd r) := by
  refine FnM.of Tryd.func38 rfl rfl (fun i => by simp) (fun H i m hHm hi hG => ?_)
  have hN : NoH H.length (aEr (errOf tRead r.p r.e)) := (by simp [AV.cells, aIn])
  refine AWP.seq ?_
  refine AWP.region (fun _ => ?_)
  refine ARun.move (.inr rfl) rfl rfl rfl (Ev.plain rfl) optN ?_
  refine ⟨_, _, rfl, hG, ?_⟩
  refine thenA_n ?_
  refine AWP.seq ?_
  refine AWP.seq ?_
  refine AWP.region (fun _ => ?_)
  refine ARun.move (.inl rfl) rfl rfl rfl (Ev.plain rfl) optN ?_
  refine ARun.isNilBox rfl rfl rfl rfl Tryd.underlying63 (Ev.plain rfl) (atO hi) (.inl ⟨rfl, rfl⟩) optN ?_
  refine ARun.move (.inl rfl) rfl rfl rfl (Ev.plain rfl) optN ?_
  refine ARun.move (.inl rfl) rfl rfl rfl (Ev.plain rfl) optS ?_
  first | refine ARun.nilPe rfl rfl rfl rfl (Ev.opt rfl (fun h => h)) optS ?_ | refine ARun.nilFn rfl rfl rfl rfl (Ev.opt rfl (fun h => h)) optS ?_ | refine ARun.nilBox rfl rfl rfl rfl (Ev.opt rfl (fun h => h)) (atO hi) optS ?_
  refine ARun.fieldBox (fo := 3) rfl rfl rfl rfl Tryd.underlying88 rfl rfl sz4 (by decide) (Ev.opt rfl (fun h => h)) (atO hi) optS ?_
  refine ARun.loadBox rfl rfl rfl rfl Tryd.underlying4 rfl (Ev.opt rfl (fun h => h)) (atO hi) rfl optS ?_
  refine ARun.not rfl rfl rfl rfl (Ev.opt rfl (fun h => h)) optS ?_
  refine ARun.pick rfl rfl rfl rfl (Ev.plain rfl) (Ev.plain rfl) (Ev.opt rfl (by first | exact pkF | exact pkF2 | simp +contextual)) (orB _ _) optN ?_
  refine ⟨_, _, rfl, hG, ?_⟩
  refine thenA_n ?_
  refine AWP.cond rfl (fun h0 => ?_) (fun h0 => ?_)
  · skip
    simp at h0
  · skip
    refine AWP.skip ?_
    refine thenA_n ?_
    refine AWP.seq ?_
    refine AWP.region (fun _ => ?_)
    refine ARun.move (.inl rfl) rfl rfl rfl (Ev.plain rfl) optN ?_
    first | refine ARun.nilPe rfl rfl rfl rfl (Ev.plain rfl) optN ?_ | refine ARun.nilFn rfl rfl rfl rfl (Ev.plain rfl) optN ?_ | refine ARun.nilBox rfl rfl rfl rfl (Ev.plain rfl) (atO hi) optN ?_
    refine ARun.fieldBox (fo := 2) rfl rfl rfl rfl Tryd.underlying88 rfl rfl sz52 (by decide) (Ev.plain rfl) (atO hi) optN ?_
    refine ARun.loadBox rfl rfl rfl rfl Tryd.underlying52 rfl (Ev.plain rfl) (atO hi) rfl optN ?_
    refine ARun.move (.inr rfl) rfl rfl rfl (Ev.plain rfl) optN ?_
    refine ⟨_, _, rfl, hG, ?_⟩
    refine thenA_n ?_
    refine AWP.ret ?_
    refine endF.toG (congrArg (fun c => H.set i (AO.box c)) rfl) ?_
    refine endF.one (.inr rfl) rfl (.tmp rfl) ?_ (by rw [List.length_set]; exact hN)
    rfl
set_option maxHeartbeats 1000000 in
theorem rdone_nil  : FnP Tryd.prog 38 [.raw (.pointer .none)] (aEr (.wr tRead (.no 1))) := by
  refine FnP.of Tryd.func38 rfl rfl (by simp) (by simp [AV.cells, aIn]) (fun G hG => ?_)
  have hN : NoH G.length (aEr (.wr tRead (.no 1))) := (by simp [AV.cells, aIn])
  refine AWP.seq ?_
  refine AWP.region (fun _ => ?_)
  refine ARun.move (.inr rfl) rfl rfl rfl (Ev.plain rfl) optN ?_
  refine ⟨_, _, rfl, hG, ?_⟩
  refine thenA_n ?_
  refine AWP.seq ?_
  refine AWP.seq ?_
  refine AWP.region (fun _ => ?_)
  refine ARun.move (.inl rfl) rfl rfl rfl (Ev.plain rfl) optN ?_
  refine ARun.isNilP rfl rfl rfl rfl Tryd.underlying63 (Ev.plain rfl) (fun hg => by first | rfl | exact nilP_aFl _) (.inl ⟨rfl, rfl⟩) optN ?_
  refine ARun.move (.inl rfl) rfl rfl rfl (Ev.plain rfl) optN ?_
  refine ARun.dead (X := .bool false) rfl rfl rfl rfl ?_
  refine ARun.dead (X := .bool false) rfl rfl rfl rfl ?_
  refine ARun.dead (X := .bool false) rfl rfl rfl rfl ?_
  refine ARun.dead (X := .bool false) rfl rfl rfl rfl ?_
  refine ARun.dead (X := .bool false) rfl rfl rfl rfl ?_
  refine ARun.pick rfl rfl rfl rfl (Ev.plain rfl) (Ev.plain rfl) (Ev.opt rfl (by first | exact pkF | exact pkF2 | simp +contextual)) (orB _ _) optN ?_
  refine ⟨_, _, rfl, hG, ?_⟩
  refine thenA_n ?_
  refine AWP.cond rfl (fun h0 => ?_) (fun h0 => ?_)
  · skip
    refine AWP.seq ?_
    refine AWP.region (fun _ => ?_)
    refine ARun.call rfl rfl rfl rfl cf40 (Ev.plain rfl) (.cons (Ev.plain rfl) (.cons (Ev.plain rfl) .nil)) rfl (fun hg => new_fn tRead 1) optN ?_
    refine ARun.move (.inr rfl) rfl rfl rfl (Ev.plain rfl) optN ?_
    refine ⟨_, _, rfl, hG, ?_⟩
    refine thenA_n ?_
    refine AWP.ret ?_
    refine thenA_r ?_
    refine endF.one (.inr rfl) rfl (.tmp rfl) ?_ hN
    rfl
  · skip
    simp at h0
set_option maxHeartbeats 1000000 in
theorem num_nil (most : Int) : FnP Tryd.prog 35 [.raw (.pointer .none), .int .i64 most] (.int .i64 0) := by
  refine FnP.of Tryd.func35 rfl rfl (by simp) (by simp [AV.cells, aIn]) (fun G hG => ?_)
  have hN : NoH G.length (.int .i64 0) := (by simp [AV.cells, aIn])
  refine AWP.seq ?_
  refine AWP.region (fun _ => ?_)
  refine ARun.move (.inr rfl) rfl rfl rfl (Ev.plain rfl) optN ?_
  refine ⟨_, _, rfl, hG, ?_⟩
  refine thenA_n ?_
  refine AWP.seq ?_
  refine AWP.seq ?_
  refine AWP.region (fun _ => ?_)
  refine ARun.move (.inl rfl) rfl rfl rfl (Ev.plain rfl) optN ?_
  refine ARun.call rfl rfl rfl rfl cf50 (Ev.plain rfl) (.cons (Ev.plain rfl) .nil) rfl (fun hg => goes_nil) optN ?_
  refine ARun.not rfl rfl rfl rfl (Ev.plain rfl) optN ?_
  refine ⟨_, _, rfl, hG, ?_⟩
  refine thenA_n ?_
  refine AWP.cond rfl (fun h0 => ?_) (fun h0 => ?_)
  · skip
    refine AWP.seq ?_
    refine AWP.region (fun _ => ?_)
    refine ARun.move (.inr rfl) rfl rfl rfl (Ev.plain rfl) optN ?_
    refine ⟨_, _, rfl, hG, ?_⟩
    refine thenA_n ?_
    refine AWP.ret ?_
    refine thenA_r ?_
    refine endF.one (.inr rfl) rfl (.tmp rfl) ?_ hN
    rfl
  · skip
    simp at h0
theorem code_errOf (op p : ByteArray) (e : Int) : (errOf op p e).code = e := by
  unfold errOf
  split
  · rename_i h; rw [h]; rfl
  · rename_i h
    rw [code_of rfl]
    show (match (some e : Option Int) with | some c => if c = 0 then 2 else c | Option.none => 2) = e
    simp [h]
theorem depth_errOf (op p : ByteArray) (e : Int) : (errOf op p e).depth ≤ 100000 := by
  unfold errOf
  split
  · exact Nat.zero_le _
  · show 0 + 1 + 1 ≤ 100000; omega
theorem at_errOf (op p : ByteArray) (e : Int) : (decide (e = 0) || (errOf op p e).ops.any fun x => decide (p = x)) = true := by
  unfold errOf
  split
  · rename_i h; simp [h]
  · simp [Er.ops]
theorem pair2 {a a' b b' : AV} (h : a = a') (k : b = b') : [a, b] = [a', b'] := by rw [h, k]
theorem at_mem (op p : ByteArray) (e : Int) : e = 0 ∨ p ∈ (errOf op p e).ops := by
  unfold errOf
  split
  · exact .inl ‹_›
  · exact .inr (by simp [Er.ops])
theorem fits_errOf (op p : ByteArray) (e : Int) (h : e ≤ 9223372036854775807) : (errOf op p e).fits := by
  unfold errOf
  split
  · trivial
  · exact h
theorem fit_one {n : Int} (h : -9223372036854775808 ≤ n ∧ n ≤ 9223372036854775807) : ∀ x, x ∈ [n] → -9223372036854775808 ≤ x ∧ x ≤ 9223372036854775807 := by
  intro x hx; simp at hx; subst hx; exact h
theorem num_fit {r : RdS} (h : r.ok) (most : Int) : -9223372036854775808 ≤ (rdNum r most).2 ∧ (rdNum r most).2 ≤ 9223372036854775807 := by
  have := getN_bd (bl r.s) r.at_ (by rw [bl_len]; exact h.2.2)
  unfold rdNum
  split
  · dsimp only; omega
  · dsimp only; split <;> omega
theorem unrowF_fit (l : List UInt8) (hl : l.length ≤ 1000000) (k : Nat) : ∀ (to : Int) (acc : List Int), (∀ x, x ∈ acc → -9223372036854775808 ≤ x ∧ x ≤ 9223372036854775807) → ∀ x, x ∈ (unrowF l k to acc).1 → -9223372036854775808 ≤ x ∧ x ≤ 9223372036854775807 := by
  induction k with
  | zero => intro to acc h; exact h
  | succ k ih =>
    intro to acc h
    rw [unrow_step]
    split
    · intro x hx; cases hx
    · refine ih _ _ fun x hx => ?_
      have := getN_bd l to hl
      rcases List.mem_append.1 hx with hx | hx
      · exact h x hx
      · simp at hx; subst hx; omega
theorem row_fit {r : RdS} (h : r.ok) (most : Int) : ∀ x, x ∈ (rdRow r most).2 → -9223372036854775808 ≤ x ∧ x ≤ 9223372036854775807 := by
  unfold rdRow
  split
  · intro x hx; cases hx
  · unfold unrowN
    split
    · intro x hx; cases hx
    · split
      · intro x hx; cases hx
      · exact unrowF_fit _ (by rw [bl_len]; exact h.2.2) _ _ _ (fun x hx => by cases hx)
end Go.Proofs.YthogpkmidffdeaaDoor
