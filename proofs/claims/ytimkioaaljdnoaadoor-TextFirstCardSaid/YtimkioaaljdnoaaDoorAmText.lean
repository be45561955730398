/- Package text, by the abstract machine. -/
import Derived.Test.YtimkioaaljdnoaaDoorAmErrF
import Derived.Test.YtimkioaaljdnoaaDoorAmNum
import Derived.Test.YtimkioaaljdnoaaDoorTextPlain
namespace Go.Proofs.YtimkioaaljdnoaaDoor
set_option linter.unusedVariables false
set_option linter.unusedSimpArgs false
open Go.RowKit
open NumP
set_option maxRecDepth 100000
/-- a writer, a reader, as they lie -/
def aW (w : WrS) : List AV := [.adr 52, .buf 5 (bs w.s), aEr (errOf tWrite w.p w.e)]
def aRd (r : RdS) : List AV := [.str r.s, .int .i64 r.at_, aEr (errOf tRead r.p r.e), .bool true]
/-- the document's -/
def aIn (r : RdS) : AV := .agg [.str r.s, .int .i64 r.at_, .str r.p, .int .i64 r.e]
def aOut (w : WrS) : AV := .agg [.str w.out, .str w.p, .int .i64 w.e]
theorem noH_aW (m : Nat) (w : WrS) : ∀ x, x ∈ aW w → NoH m x := by simp [aW]
theorem noH_aRd (m : Nat) (r : RdS) : ∀ x, x ∈ aRd r → NoH m x := by simp [aRd]
theorem liesW : liesAt Tryd.prog Tryd.prog.depth 52 (3 / Tryd.prog.cellsOf 52) 0 50 1 = true := by kernel_rfl
theorem writeW (w : WrS) (s : ByteArray) (h : w.s.length + s.size ≤ 100000000) : FnM Tryd.prog 62 (fun i => [.box i 0, .str s]) (aW w) (.tup [.int .i64 s.size, .raw .nilIface]) [.adr 52, .buf 5 (bs w.s ++ s), aEr (errOf tWrite w.p w.e)] :=
  bld_write (n := 3) liesW (by decide) (bs w.s) s [aEr (errOf tWrite w.p w.e)] rfl (by rw [bs_size]; omega)
theorem plain_aEr (e : Er) : (aEr e).plainC = true := by cases e <;> rfl
theorem isWr_errOf (op p : ByteArray) (e : Int) : (errOf op p e).isWr = !decide (e = 0) := errOf_isWr op p e
theorem byteAt_bl (s : ByteArray) (j : Nat) : byteAt s j = (((bl s).getD j 0).toNat : Int) := rfl
theorem new_mk (p : ByteArray) (e : Int) : Er.new p e = if e = 0 then .none else .wr p (.no e) := rfl
theorem out_len (w : WrS) : w.out.size ≤ w.s.length := by
  unfold WrS.out; split
  · exact Nat.le_refl _
  · exact Nat.zero_le _
theorem unrowF_bad (l : List UInt8) (k : Nat) : ∀ (to : Int) (acc : List Int), (unrowF l k to acc).2.2 ≠ 0 → (unrowF l k to acc).1 = [] := by
  induction k with
  | zero => intro to acc h; exact absurd rfl h
  | succ k ih =>
    intro to acc h
    rw [unrow_step] at h ⊢
    split
    · rfl
    · rename_i h1; rw [if_neg h1] at h; exact ih _ _ h
theorem unrow_bad {l : List UInt8} {p top : Int} (h : (unrowN l p top).2.2 ≠ 0) : (unrowN l p top).1 = [] := by
  unfold unrowN at h ⊢
  split
  · rfl
  · rename_i h1
    rw [if_neg h1] at h
    split
    · rfl
    · rename_i h2; rw [if_neg h2] at h; exact unrowF_bad _ _ _ _ h
theorem moved_pos {r : RdS} {p : ByteArray} {to e : Int} (h : e ≠ 0) : r.moved p to e = { r with p := p, e := e } := if_pos h
theorem moved_neg {r : RdS} {p : ByteArray} {to e : Int} (h : e = 0) : r.moved p to e = { r with at_ := to } := if_neg (by simpa using h)
set_option maxHeartbeats 1000000 in
theorem put_w (w : WrS) (p : ByteArray) (u : List UInt8) (s : ByteArray) (hs : s = bs u) (e : Int) (hl : w.s.length + u.length ≤ 10000000) : FnM Tryd.prog 43 (fun i => [.box i 0, .str p, .str s, .int .i64 e]) (aW w) (.tup []) (aW (wrPut w p u e)) := by
  subst hs
  refine FnM.of Tryd.func43 rfl rfl (fun i => by simp) (fun H i m hHm hi hG => ?_)
  have hN : NoH H.length (.tup []) := (by simp [AV.cells, aIn, aOut])
  refine AWP.seq ?_
  refine AWP.seq ?_
  refine AWP.region (fun _ => ?_)
  refine ARun.move (.inl rfl) rfl rfl rfl (Ev.plain rfl) optN ?_
  refine ARun.isNilBox rfl rfl rfl rfl Tryd.underlying60 (Ev.plain rfl) (atO hi) (.inl ⟨rfl, rfl⟩) optN ?_
  refine ARun.move (.inl rfl) rfl rfl rfl (Ev.plain rfl) optN ?_
  refine ARun.move (.inl rfl) rfl rfl rfl (Ev.plain rfl) optS ?_
  first | refine ARun.nilPe rfl rfl rfl rfl (Ev.opt rfl (fun h => h)) optS ?_ | refine ARun.nilFn rfl rfl rfl rfl (Ev.opt rfl (fun h => h)) optS ?_ | refine ARun.nilBox rfl rfl rfl rfl (Ev.opt rfl (fun h => h)) (atO hi) optS ?_
  refine ARun.fieldBox (fo := 2) rfl rfl rfl rfl Tryd.underlying52 rfl rfl sz44 (by decide) (Ev.opt rfl (fun h => h)) (atO hi) optS ?_
  refine ARun.loadBox rfl rfl rfl rfl Tryd.underlying44 rfl (Ev.opt rfl (fun h => h)) (atO hi) rfl optS ?_
  refine ARun.isNil rfl rfl rfl rfl Tryd.underlying44 (Ev.opt rfl (fun h => h)) (fun hg => by first | rfl | exact nilA_aEr _) (.inr ⟨rfl, rfl⟩) optS ?_
  refine ARun.pick rfl rfl rfl rfl (Ev.plain rfl) (Ev.plain rfl) (Ev.opt rfl (by first | exact pkF | exact pkF2 | simp +contextual)) (orB _ _) optN ?_
  refine ⟨_, _, rfl, hG, ?_⟩
  refine thenA_n ?_
  refine AWP.cond rfl (fun h0 => ?_) (fun h0 => ?_)
  · skip
    have hw : w.e ≠ 0 := by simpa [errOf_none] using h0
    refine AWP.ret ?_
    refine thenA_r ?_
    refine endF.toG (congrArg (fun c => H.set i (AO.box c)) (by rw [wrPut, if_pos hw])) ?_
    refine endF.many (.inr rfl) (rs := []) rfl .nil (by simp) ?_ (by rw [List.length_set]; exact hN)
    rfl
  · skip
    have hw : w.e = 0 := by simpa [errOf_none] using h0
    refine AWP.skip ?_
    refine thenA_n ?_
    refine AWP.seq ?_
    refine AWP.seq ?_
    refine AWP.region (fun _ => ?_)
    refine ARun.move (.inl rfl) rfl rfl rfl (Ev.plain rfl) optN ?_
    refine ARun.cmp rfl rfl rfl rfl (Ev.plain rfl) (Ev.plain rfl) rfl optN ?_
    refine ⟨_, _, rfl, hG, ?_⟩
    refine thenA_n ?_
    refine AWP.cond rfl (fun h1 => ?_) (fun h1 => ?_)
    · skip
      have he : e ≠ 0 := by simpa using h1
      refine AWP.seq ?_
      refine AWP.region (fun _ => ?_)
      refine ARun.move (.inl rfl) rfl rfl rfl (Ev.plain rfl) optN ?_
      refine ARun.move (.inl rfl) rfl rfl rfl (Ev.plain rfl) optN ?_
      refine ARun.move (.inl rfl) rfl rfl rfl (Ev.plain rfl) optN ?_
      refine ARun.call rfl rfl rfl rfl cf42 (Ev.plain rfl) (.cons (Ev.plain rfl) (.cons (Ev.plain rfl) .nil)) rfl (fun hg => new_fn p e) optN ?_
      refine ARun.call rfl rfl rfl rfl cf57 (Ev.plain rfl) (.cons (Ev.plain rfl) (.cons (Ev.plain rfl) .nil)) rfl (fun hg => wrap_fn tWrite (Er.new p e)) optN ?_
      first | refine ARun.nilPe rfl rfl rfl rfl (Ev.plain rfl) optN ?_ | refine ARun.nilFn rfl rfl rfl rfl (Ev.plain rfl) optN ?_ | refine ARun.nilBox rfl rfl rfl rfl (Ev.plain rfl) (atO hi) optN ?_
      refine ARun.fieldBox (fo := 2) rfl rfl rfl rfl Tryd.underlying52 rfl rfl sz44 (by decide) (Ev.plain rfl) (atO hi) optN ?_
      refine ARun.storeO1 hi hG rfl rfl rfl sz44 (Ev.plain rfl) (Ev.plain rfl) (by first | rfl | exact aEr_one _ | exact aFl_one _) (Nat.le_of_ble_eq_true rfl) rfl (by first | exact noH_aW _ _ | (simp; done) | (simp [cAV]; done)) (fun hG => ?_) (hsp := (by simp [aW, plain_aEr]))
      refine ⟨_, _, rfl, hG, ?_⟩
      refine thenA_n ?_
      refine AWP.ret ?_
      refine thenA_r ?_
      refine endF.toG (congrArg (fun c => H.set i (AO.box c)) (by rw [wrPut, if_neg (by omega), if_pos he]; exact congrArg (fun x => [AV.adr _, .buf _ (bs w.s), aEr x]) (errOf_mk tWrite p e))) ?_
      refine endF.many (.inr rfl) (rs := []) rfl .nil (by simp) ?_ (by rw [List.length_set]; exact hN)
      rfl
    · skip
      have he : e = 0 := by simpa using h1
      refine AWP.skip ?_
      refine thenA_n ?_
      refine AWP.region (fun _ => ?_)
      refine ARun.move (.inl rfl) rfl rfl rfl (Ev.plain rfl) optN ?_
      first | refine ARun.nilPe rfl rfl rfl rfl (Ev.plain rfl) optN ?_ | refine ARun.nilFn rfl rfl rfl rfl (Ev.plain rfl) optN ?_ | refine ARun.nilBox rfl rfl rfl rfl (Ev.plain rfl) (atO hi) optN ?_
      refine ARun.fieldBox (fo := 0) rfl rfl rfl rfl Tryd.underlying52 rfl rfl sz50 (by decide) (Ev.plain rfl) (atO hi) optN ?_
      refine ARun.move (.inl rfl) rfl rfl rfl (Ev.plain rfl) optN ?_
      refine ARun.callO hi hG rfl rfl rfl rfl cf62 (Ev.plain rfl) (.cons (Ev.plain rfl) (.cons (Ev.plain rfl) .nil)) rfl (writeW w (bs u) (by rw [bs_size]; omega) _ _ (atO hi)) (by first | exact noH_aW _ _ | (simp; done) | (simp [cAV]; done)) optN (fun hG => ?_)
      refine ⟨_, _, rfl, hG, ?_⟩
      refine endF.toG (congrArg (fun c => H.set i (AO.box c)) (by rw [wrPut, if_neg (by omega), if_neg (by omega), bs_append]; rfl)) ?_
      refine endF.many (.inl rfl) (rs := []) rfl .nil (by simp) ?_ (by rw [List.length_set]; exact hN)
      rfl
-- numbers
set_option maxHeartbeats 1000000 in
theorem nums_w (w : WrS) (l : List Int) (hll : l.length ≤ 1000) (hl : w.s.length ≤ 1000000) (hf : ∀ x, x ∈ l → -9223372036854775808 ≤ x ∧ x ≤ 9223372036854775807) : FnM Tryd.prog 21 (fun i => [.box i 0, .sl (l.map (AV.int .i64))]) (aW w) (.tup []) (aW (wrNums w l)) := by
  refine FnM.of Tryd.func21 rfl rfl (fun i => by simp) (fun H i m hHm hi hG => ?_)
  have hN : NoH H.length (.tup []) := (by simp [AV.cells, aIn, aOut])
  refine AWP.seq ?_
  refine AWP.region (fun _ => ?_)
  refine ARun.move (.inl rfl) rfl rfl rfl (Ev.plain rfl) optN ?_
  refine ARun.makeFunc rfl rfl rfl rfl (.cons (Ev.plain rfl) .nil) .nil optN ?_
  refine ARun.move (.inr rfl) rfl rfl rfl (Ev.plain rfl) optN ?_
  refine ⟨_, _, rfl, hG, ?_⟩
  refine thenA_n ?_
  refine AWP.seq ?_
  refine AWP.region (fun _ => ?_)
  refine ARun.move (.inl rfl) rfl rfl rfl (Ev.plain rfl) optN ?_
  refine ARun.lenSl rfl rfl rfl rfl Tryd.underlying33 (Ev.plain rfl) optN ?_
  refine ARun.move (.inl rfl) rfl rfl rfl (Ev.plain rfl) optN ?_
  refine ⟨_, _, rfl, hG, ?_⟩
  refine thenA_n ?_
  refine AWP.block ?_
  refine AWP.roundsO (fun k => k ≤ l.length) (fun k => [(1, .sl (l.map (AV.int .i64))), (4, .fn (.func 43) [.box i 0] []), (11, .sl (l.map (AV.int .i64))), (12, .int .i64 ((l.map (AV.int .i64)).length : Int)), (13, .int .i64 (k : Int))]) (fun k => H.set i (.box (aW (wrNums w (l.take k))))) (fun k => []) (fun k => l.length - k) 0 0 (Nat.zero_le _) (by repeat (first | exact .nil | refine .cons rfl ?_)) rfl rfl (fun _ => rfl) (fun _ => ⟨by simp [AV.cells]; omega, by simp⟩) (fun k hI hG => ?_)
  show AWP _ _ _ _ _ [(1, .sl (l.map (AV.int .i64))), (4, .fn (.func 43) [.box i 0] []), (11, .sl (l.map (AV.int .i64))), (12, .int .i64 ((l.map (AV.int .i64)).length : Int)), (13, .int .i64 (k : Int))] (H.set i (.box (aW (wrNums w (l.take k))))) []
  replace hG : GOK _ (H.set i (.box (aW (wrNums w (l.take k))))) := hG
  have hwl := wrNums_len (l.take k) w
  have htl : (l.take k).length ≤ k := by rw [List.length_take]; omega
  refine AWP.seq ?_
  refine AWP.region (fun _ => ?_)
  refine ARun.cmp rfl rfl rfl rfl (Ev.plain rfl) (Ev.plain rfl) rfl optN ?_
  refine ⟨_, _, rfl, hG, ?_⟩
  refine thenA_n ?_
  refine AWP.seq ?_
  refine AWP.cond rfl (fun h0 => ?_) (fun h0 => ?_)
  · skip
    try simp [-List.getD_eq_getElem?_getD] at h0
    refine AWP.skip ?_
    refine thenA_n ?_
    refine AWP.seq ?_
    refine AWP.block ?_
    refine AWP.seq ?_
    refine AWP.region (fun _ => ?_)
    first | refine ARun.indexSl rfl rfl rfl rfl Tryd.underlying33 sz3 (Ev.plain rfl) (Ev.plain rfl) (fun _ => rfl) (fun hg => getMap _ _ _ (by (try simp at hg); omega)) rfl rfl optN ?_ | refine ARun.indexSl rfl rfl rfl rfl Tryd.underlying33 sz3 (Ev.plain rfl) (Ev.plain rfl) (fun hg => ofNonneg (by (try simp at hg); omega)) (fun hg => getMap _ _ _ (by (try simp at hg); omega)) rfl rfl optN ?_
    refine ARun.loadPe rfl rfl rfl rfl Tryd.underlying3 rfl (Ev.plain rfl) rfl optN ?_
    refine ARun.move (.inr rfl) rfl rfl rfl (Ev.plain rfl) optN ?_
    refine ⟨_, _, rfl, hG, ?_⟩
    refine thenA_n ?_
    refine AWP.seq ?_
    refine AWP.region (fun _ => ?_)
    refine ARun.move (.inl rfl) rfl rfl rfl (Ev.plain rfl) optN ?_
    refine ARun.call rfl rfl rfl rfl cf44 (Ev.plain rfl) (.cons (Ev.plain rfl) .nil) rfl (fun hg => put_fn _ (fit_at hf (by simpa using h0))) optN ?_
    refine ARun.move (.inl rfl) rfl rfl rfl (Ev.plain rfl) optN ?_
    refine ARun.extract rfl rfl rfl rfl (Ev.plain rfl) rfl optN ?_
    refine ARun.extract rfl rfl rfl rfl (Ev.plain rfl) rfl optN ?_
    refine ARun.move (.inr rfl) rfl rfl rfl (Ev.plain rfl) optN ?_
    refine ARun.move (.inr rfl) rfl rfl rfl (Ev.plain rfl) optN ?_
    refine ⟨_, _, rfl, hG, ?_⟩
    refine thenA_n ?_
    refine AWP.region (fun _ => ?_)
    refine ARun.move (.inl rfl) rfl rfl rfl (Ev.plain rfl) optN ?_
    refine ARun.move (.inl rfl) rfl rfl rfl (Ev.plain rfl) optN ?_
    refine ARun.move (.inl rfl) rfl rfl rfl (Ev.plain rfl) optN ?_
    refine ARun.callO hi hG rfl rfl rfl rfl cf43 (Ev.plain rfl) (.cons (Ev.plain rfl) (.cons (Ev.plain rfl) (.cons (Ev.plain rfl) .nil))) rfl (put_w (wrNums w (l.take k)) tNum (putN (l.getD k default)).1 _ rfl (putN (l.getD k default)).2 (by have := putN_len (l.getD k default); omega) _ _ (atO hi)) (by first | exact noH_aW _ _ | (simp; done) | (simp [cAV]; done)) optN (fun hG => ?_)
    refine ⟨_, _, rfl, hG, ?_⟩
    refine blockA_n ?_
    refine thenA_n ?_
    refine AWP.region (fun _ => ?_)
    first | refine ARun.arith rfl rfl rfl rfl (Ev.plain rfl) (Ev.plain rfl) rfl (fun hg => i64w (by (try simp at hg); omega)) optN ?_ | refine ARun.arith rfl rfl rfl rfl (Ev.plain rfl) (Ev.plain rfl) rfl (fun _ => rfl) optN ?_
    refine ARun.move (.inl rfl) rfl rfl rfl (Ev.plain rfl) optN ?_
    refine ⟨_, _, rfl, hG, ?_⟩
    refine thenA_n ⟨k + 1, _, ?_, ?_, ?_, rfl, ?_⟩
    · rw [wrNums_succ w l k (by simpa using h0)]; rfl
    · omega
    · repeat (first | exact .nil | refine .cons rfl ?_)
    · omega
  · skip
    simp at h0
    obtain rfl : k = l.length := by omega
    rw [List.take_length]
    refine AWP.exit ?_
    refine thenA_x ?_
    refine thenA_x ?_
    refine blockA_h ?_
    refine endF.toG (congrArg (fun c => H.set i (AO.box c)) rfl) ?_
    refine endF.many (.inl rfl) (rs := []) rfl .nil (by simp) ?_ (by rw [List.length_set]; exact hN)
    rfl
set_option maxHeartbeats 1000000 in
theorem text_w (w : WrS) (s : ByteArray) (hs : s.size ≤ 1000000) (hl : w.s.length ≤ 1000000) : FnM Tryd.prog 22 (fun i => [.box i 0, .str s]) (aW w) (.tup []) (aW (wrText w s)) := by
  have hpe : (putN (s.size : Int)).2 = 0 := by rw [putN_err, if_pos (by omega)]
  have hpl := putN_len (s.size : Int)
  have hbl := bl_len s
  refine FnM.of Tryd.func22 rfl rfl (fun i => by simp) (fun H i m hHm hi hG => ?_)
  have hN : NoH H.length (.tup []) := (by simp [AV.cells, aIn, aOut])
  refine AWP.seq ?_
  refine AWP.region (fun _ => ?_)
  refine ARun.move (.inl rfl) rfl rfl rfl (Ev.plain rfl) optN ?_
  refine ARun.lenStr rfl rfl rfl rfl Tryd.underlying9 (Ev.plain rfl) optN ?_
  refine ARun.call rfl rfl rfl rfl cf44 (Ev.plain rfl) (.cons (Ev.plain rfl) .nil) rfl (fun hg => put_fn s.size (by omega)) optN ?_
  refine ARun.move (.inl rfl) rfl rfl rfl (Ev.plain rfl) optN ?_
  refine ARun.extract rfl rfl rfl rfl (Ev.plain rfl) rfl optN ?_
  refine ARun.extract rfl rfl rfl rfl (Ev.plain rfl) rfl optN ?_
  refine ARun.move (.inr rfl) rfl rfl rfl (Ev.plain rfl) optN ?_
  refine ARun.move (.inr rfl) rfl rfl rfl (Ev.plain rfl) optN ?_
  refine ⟨_, _, rfl, hG, ?_⟩
  refine thenA_n ?_
  refine AWP.region (fun _ => ?_)
  refine ARun.move (.inl rfl) rfl rfl rfl (Ev.plain rfl) optN ?_
  refine ARun.move (.inl rfl) rfl rfl rfl (Ev.plain rfl) optN ?_
  refine ARun.move (.inl rfl) rfl rfl rfl (Ev.plain rfl) optN ?_
  refine ARun.cat rfl rfl rfl rfl (Ev.plain rfl) (Ev.plain rfl) (fun hg => (by rw [bs_size]; omega)) optN ?_
  refine ARun.move (.inl rfl) rfl rfl rfl (Ev.plain rfl) optN ?_
  refine ARun.callO hi hG rfl rfl rfl rfl cf43 (Ev.plain rfl) (.cons (Ev.plain rfl) (.cons (Ev.plain rfl) (.cons (Ev.plain rfl) (.cons (Ev.plain rfl) .nil)))) rfl (put_w w tText ((putN s.size).1 ++ bl s) _ (by rw [← bs_append, bs_bl]) (putN s.size).2 (by simp; omega) _ _ (atO hi)) (by first | exact noH_aW _ _ | (simp; done) | (simp [cAV]; done)) optN (fun hG => ?_)
  refine ⟨_, _, rfl, hG, ?_⟩
  refine endF.toG (congrArg (fun c => H.set i (AO.box c)) (by rw [hpe]; rfl)) ?_
  refine endF.many (.inl rfl) (rs := []) rfl .nil (by simp) ?_ (by rw [List.length_set]; exact hN)
  rfl
set_option maxHeartbeats 1000000 in
theorem row_w (w : WrS) (l : List Int) (hll : l.length ≤ 10000) (hl : w.s.length ≤ 1000000) (hf : ∀ x, x ∈ l → -9223372036854775808 ≤ x ∧ x ≤ 9223372036854775807) : FnM Tryd.prog 23 (fun i => [.box i 0, .sl (l.map (AV.int .i64))]) (aW w) (.tup []) (aW (wrRow w l)) := by
  have hrl := rowN_len l
  refine FnM.of Tryd.func23 rfl rfl (fun i => by simp) (fun H i m hHm hi hG => ?_)
  have hN : NoH H.length (.tup []) := (by simp [AV.cells, aIn, aOut])
  refine AWP.seq ?_
  refine AWP.region (fun _ => ?_)
  refine ARun.move (.inl rfl) rfl rfl rfl (Ev.plain rfl) optN ?_
  refine ARun.call rfl rfl rfl rfl cf45 (Ev.plain rfl) (.cons (Ev.plain rfl) .nil) rfl (fun hg => rowN_fn l hll hf) optN ?_
  refine ARun.move (.inl rfl) rfl rfl rfl (Ev.plain rfl) optN ?_
  refine ARun.extract rfl rfl rfl rfl (Ev.plain rfl) rfl optN ?_
  refine ARun.extract rfl rfl rfl rfl (Ev.plain rfl) rfl optN ?_
  refine ARun.move (.inr rfl) rfl rfl rfl (Ev.plain rfl) optN ?_
  refine ARun.move (.inr rfl) rfl rfl rfl (Ev.plain rfl) optN ?_
  refine ⟨_, _, rfl, hG, ?_⟩
  refine thenA_n ?_
  refine AWP.region (fun _ => ?_)
  refine ARun.move (.inl rfl) rfl rfl rfl (Ev.plain rfl) optN ?_
  refine ARun.move (.inl rfl) rfl rfl rfl (Ev.plain rfl) optN ?_
  refine ARun.move (.inl rfl) rfl rfl rfl (Ev.plain rfl) optN ?_
  refine ARun.callO hi hG rfl rfl rfl rfl cf43 (Ev.plain rfl) (.cons (Ev.plain rfl) (.cons (Ev.plain rfl) (.cons (Ev.plain rfl) (.cons (Ev.plain rfl) .nil)))) rfl (put_w w tRow (rowN l).1 _ rfl (rowN l).2 (by omega) _ _ (atO hi)) (by first | exact noH_aW _ _ | (simp; done) | (simp [cAV]; done)) optN (fun hG => ?_)
  refine ⟨_, _, rfl, hG, ?_⟩
  refine endF.toG (congrArg (fun c => H.set i (AO.box c)) rfl) ?_
  refine endF.many (.inl rfl) (rs := []) rfl .nil (by simp) ?_ (by rw [List.length_set]; exact hN)
  rfl
set_option maxHeartbeats 1000000 in
theorem flag_w (w : WrS) (b : Bool) (hl : w.s.length ≤ 1000000) : FnM Tryd.prog 24 (fun i => [.box i 0, .bool b]) (aW w) (.tup []) (aW (wrFlag w b)) := by
  refine FnM.of Tryd.func24 rfl rfl (fun i => by simp) (fun H i m hHm hi hG => ?_)
  have hN : NoH H.length (.tup []) := (by simp [AV.cells, aIn, aOut])
  refine AWP.seq ?_
  refine AWP.region (fun _ => ?_)
  refine ARun.move (.inr rfl) rfl rfl rfl (Ev.plain rfl) optN ?_
  refine ⟨_, _, rfl, hG, ?_⟩
  refine thenA_n ?_
  refine AWP.seq ?_
  refine AWP.seq ?_
  refine AWP.region (fun _ => ?_)
  refine ARun.move (.inl rfl) rfl rfl rfl (Ev.plain rfl) optN ?_
  refine ⟨_, _, rfl, hG, ?_⟩
  refine thenA_n ?_
  refine AWP.cond rfl (fun h0 => ?_) (fun h0 => ?_)
  · skip
    subst h0
    refine AWP.region (fun _ => ?_)
    refine ARun.move (.inr rfl) rfl rfl rfl (Ev.plain rfl) optN ?_
    refine ⟨_, _, rfl, hG, ?_⟩
    refine thenA_n ?_
    refine AWP.region (fun _ => ?_)
    refine ARun.move (.inl rfl) rfl rfl rfl (Ev.plain rfl) optN ?_
    refine ARun.move (.inl rfl) rfl rfl rfl (Ev.plain rfl) optN ?_
    refine ARun.callO hi hG rfl rfl rfl rfl cf43 (Ev.plain rfl) (.cons (Ev.plain rfl) (.cons (Ev.plain rfl) (.cons (Ev.plain rfl) (.cons (Ev.plain rfl) .nil)))) rfl (put_w w tFlag (bl (flagB true)) _ (bs_bl (flagB true)).symm 0 (by show _ + 1 ≤ _; omega) _ _ (atO hi)) (by first | exact noH_aW _ _ | (simp; done) | (simp [cAV]; done)) optN (fun hG => ?_)
    refine ⟨_, _, rfl, hG, ?_⟩
    refine endF.toG (congrArg (fun c => H.set i (AO.box c)) rfl) ?_
    refine endF.many (.inl rfl) (rs := []) rfl .nil (by simp) ?_ (by rw [List.length_set]; exact hN)
    rfl
  · skip
    subst h0
    refine AWP.skip ?_
    refine thenA_n ?_
    refine AWP.region (fun _ => ?_)
    refine ARun.move (.inl rfl) rfl rfl rfl (Ev.plain rfl) optN ?_
    refine ARun.move (.inl rfl) rfl rfl rfl (Ev.plain rfl) optN ?_
    refine ARun.callO hi hG rfl rfl rfl rfl cf43 (Ev.plain rfl) (.cons (Ev.plain rfl) (.cons (Ev.plain rfl) (.cons (Ev.plain rfl) (.cons (Ev.plain rfl) .nil)))) rfl (put_w w tFlag (bl (flagB false)) _ (bs_bl (flagB false)).symm 0 (by show _ + 1 ≤ _; omega) _ _ (atO hi)) (by first | exact noH_aW _ _ | (simp; done) | (simp [cAV]; done)) optN (fun hG => ?_)
    refine ⟨_, _, rfl, hG, ?_⟩
    refine endF.toG (congrArg (fun c => H.set i (AO.box c)) rfl) ?_
    refine endF.many (.inl rfl) (rs := []) rfl .nil (by simp) ?_ (by rw [List.length_set]; exact hN)
    rfl
set_option maxHeartbeats 1000000 in
theorem done_ok (w : WrS) (h : w.e = 0) : FnK Tryd.prog 25 (fun i => [.box i 0]) (aW w) (.tup [.str w.out, .raw .nilIface]) := by
  refine FnK.of Tryd.func25 rfl rfl (fun i => by simp) (fun H i m hHm hi hG => ?_)
  have hN : NoH H.length (.tup [.str w.out, .raw .nilIface]) := (by simp [AV.cells, aIn, aOut])
  refine AWP.seq ?_
  refine AWP.region (fun _ => ?_)
  refine ARun.move (.inr rfl) rfl rfl rfl (Ev.plain rfl) optN ?_
  refine ARun.move (.inr rfl) rfl rfl rfl (Ev.plain rfl) optN ?_
  refine ⟨_, _, rfl, hG, ?_⟩
  refine thenA_n ?_
  refine AWP.seq ?_
  refine AWP.seq ?_
  refine AWP.region (fun _ => ?_)
  refine ARun.move (.inl rfl) rfl rfl rfl (Ev.plain rfl) optN ?_
  refine ARun.isNilBox rfl rfl rfl rfl Tryd.underlying60 (Ev.plain rfl) (atO hi) (.inl ⟨rfl, rfl⟩) optN ?_
  refine ⟨_, _, rfl, hG, ?_⟩
  refine thenA_n ?_
  refine AWP.cond rfl (fun h0 => ?_) (fun h0 => ?_)
  · skip
    simp at h0
  · skip
    refine AWP.skip ?_
    refine thenA_n ?_
    refine AWP.seq ?_
    refine AWP.seq ?_
    refine AWP.region (fun _ => ?_)
    refine ARun.move (.inl rfl) rfl rfl rfl (Ev.plain rfl) optN ?_
    first | refine ARun.nilPe rfl rfl rfl rfl (Ev.plain rfl) optN ?_ | refine ARun.nilFn rfl rfl rfl rfl (Ev.plain rfl) optN ?_ | refine ARun.nilBox rfl rfl rfl rfl (Ev.plain rfl) (atO hi) optN ?_
    refine ARun.fieldBox (fo := 2) rfl rfl rfl rfl Tryd.underlying52 rfl rfl sz44 (by decide) (Ev.plain rfl) (atO hi) optN ?_
    refine ARun.loadBox rfl rfl rfl rfl Tryd.underlying44 rfl (Ev.plain rfl) (atO hi) rfl optN ?_
    refine ARun.isNil rfl rfl rfl rfl Tryd.underlying44 (Ev.plain rfl) (fun hg => by first | rfl | exact nilA_aEr _) (.inr ⟨rfl, rfl⟩) optN ?_
    refine ⟨_, _, rfl, hG, ?_⟩
    refine thenA_n ?_
    refine AWP.cond rfl (fun h1 => ?_) (fun h1 => ?_)
    · skip
      simp [errOf_none, h] at h1
    · skip
      refine AWP.skip ?_
      refine thenA_n ?_
      refine AWP.seq ?_
      refine AWP.region (fun _ => ?_)
      refine ARun.move (.inl rfl) rfl rfl rfl (Ev.plain rfl) optN ?_
      first | refine ARun.nilPe rfl rfl rfl rfl (Ev.plain rfl) optN ?_ | refine ARun.nilFn rfl rfl rfl rfl (Ev.plain rfl) optN ?_ | refine ARun.nilBox rfl rfl rfl rfl (Ev.plain rfl) (atO hi) optN ?_
      refine ARun.fieldBox (fo := 0) rfl rfl rfl rfl Tryd.underlying52 rfl rfl sz50 (by decide) (Ev.plain rfl) (atO hi) optN ?_
      refine ARun.callK hi hG rfl rfl rfl rfl cf46 (Ev.plain rfl) (.cons (Ev.plain rfl) .nil) rfl (bld_string (T := 52) (n := 3) (bs w.s) [aEr (errOf tWrite w.p w.e)] _ _ (atO hi)) optN (fun hG => ?_)
      refine ARun.move (.inr rfl) rfl rfl rfl (Ev.plain rfl) optN ?_
      refine ARun.move (.inr rfl) rfl rfl rfl (Ev.plain rfl) optN ?_
      refine ⟨_, _, rfl, hG, ?_⟩
      refine thenA_n ?_
      refine AWP.ret ?_
      refine endF.many (.inr rfl) (rs := [.tmp 2, .tmp 3]) rfl (.cons (.tmp rfl) (.cons (.tmp rfl) .nil)) (by simp) ?_ (by rw [List.length_set]; exact hN)
      rw [WrS.out, if_pos h]; rfl
set_option maxHeartbeats 1000000 in
theorem done_bad (w : WrS) (h : w.e ≠ 0) : FnM Tryd.prog 25 (fun i => [.box i 0]) (aW w) (.tup [.str w.out, aEr (errOf tWrite w.p w.e)]) (aW w) := by
  refine FnM.of Tryd.func25 rfl rfl (fun i => by simp) (fun H i m hHm hi hG => ?_)
  have hN : NoH H.length (.tup [.str w.out, aEr (errOf tWrite w.p w.e)]) := (by simp [AV.cells, aIn, aOut])
  refine AWP.seq ?_
  refine AWP.region (fun _ => ?_)
  refine ARun.move (.inr rfl) rfl rfl rfl (Ev.plain rfl) optN ?_
  refine ARun.move (.inr rfl) rfl rfl rfl (Ev.plain rfl) optN ?_
  refine ⟨_, _, rfl, hG, ?_⟩
  refine thenA_n ?_
  refine AWP.seq ?_
  refine AWP.seq ?_
  refine AWP.region (fun _ => ?_)
  refine ARun.move (.inl rfl) rfl rfl rfl (Ev.plain rfl) optN ?_
  refine ARun.isNilBox rfl rfl rfl rfl Tryd.underlying60 (Ev.plain rfl) (atO hi) (.inl ⟨rfl, rfl⟩) optN ?_
  refine ⟨_, _, rfl, hG, ?_⟩
  refine thenA_n ?_
  refine AWP.cond rfl (fun h0 => ?_) (fun h0 => ?_)
  · skip
    simp at h0
  · skip
    refine AWP.skip ?_
    refine thenA_n ?_
    refine AWP.seq ?_
    refine AWP.seq ?_
    refine AWP.region (fun _ => ?_)
    refine ARun.move (.inl rfl) rfl rfl rfl (Ev.plain rfl) optN ?_
    first | refine ARun.nilPe rfl rfl rfl rfl (Ev.plain rfl) optN ?_ | refine ARun.nilFn rfl rfl rfl rfl (Ev.plain rfl) optN ?_ | refine ARun.nilBox rfl rfl rfl rfl (Ev.plain rfl) (atO hi) optN ?_
    refine ARun.fieldBox (fo := 2) rfl rfl rfl rfl Tryd.underlying52 rfl rfl sz44 (by decide) (Ev.plain rfl) (atO hi) optN ?_
    refine ARun.loadBox rfl rfl rfl rfl Tryd.underlying44 rfl (Ev.plain rfl) (atO hi) rfl optN ?_
    refine ARun.isNil rfl rfl rfl rfl Tryd.underlying44 (Ev.plain rfl) (fun hg => by first | rfl | exact nilA_aEr _) (.inr ⟨rfl, rfl⟩) optN ?_
    refine ⟨_, _, rfl, hG, ?_⟩
    refine thenA_n ?_
    refine AWP.cond rfl (fun h1 => ?_) (fun h1 => ?_)
    · skip
      refine AWP.seq ?_
      refine AWP.draw mixed (by kernel_rfl) (fun _ => ?_)
      refine ARun.move (.inl rfl) rfl rfl rfl (Ev.plain rfl) optN ?_
      first | refine ARun.nilPe rfl rfl rfl rfl (Ev.plain rfl) optN ?_ | refine ARun.nilFn rfl rfl rfl rfl (Ev.plain rfl) optN ?_ | refine ARun.nilBox rfl rfl rfl rfl (Ev.plain rfl) (atO hi) optN ?_
      refine ARun.fieldBox (fo := 2) rfl rfl rfl rfl Tryd.underlying52 rfl rfl sz44 (by decide) (Ev.plain rfl) (atO hi) optN ?_
      refine ARun.loadBox rfl rfl rfl rfl Tryd.underlying44 rfl (Ev.plain rfl) (atO hi) rfl optN ?_
      refine ARun.move (.inr rfl) rfl rfl rfl (Ev.plain rfl) optN ?_
      refine ARun.move (.inr rfl) rfl rfl rfl (Ev.plain rfl) optN ?_
      refine ⟨by kernel_rfl, _, _, rfl, hG, ?_⟩
      refine thenA_n ?_
      refine AWP.ret ?_
      refine thenA_r ?_
      refine endF.toG (congrArg (fun c => H.set i (AO.box c)) rfl) ?_
      refine endF.many (.inr rfl) (rs := [.tmp 2, .tmp 3]) rfl (.cons (.tmp rfl) (.cons (.tmp rfl) .nil)) (by simp) ?_ (by rw [List.length_set]; exact hN)
      rw [WrS.out, if_neg h]; rfl
    · skip
      simp [errOf_none, h] at h1
theorem done_w (w : WrS) : FnK Tryd.prog 25 (fun i => [.box i 0]) (aW w) (.tup [.str w.out, aEr (errOf tWrite w.p w.e)]) := by
  by_cases h : w.e = 0
  · rw [h, errOf_zero]; exact done_ok w h
  · exact (done_bad w h).kill (by simp)
set_option maxHeartbeats 1000000 in
theorem done_nil  : FnP Tryd.prog 25 [.raw (.pointer .none)] (.tup [.str ⟨#[]⟩, aEr (.wr tWrite (.no 1))]) := by
  refine FnP.of Tryd.func25 rfl rfl (by simp) (by simp [AV.cells, aIn, aOut]) (fun G hG => ?_)
  have hN : NoH G.length (.tup [.str ⟨#[]⟩, aEr (.wr tWrite (.no 1))]) := (by simp [AV.cells, aIn, aOut])
  refine AWP.seq ?_
  refine AWP.region (fun _ => ?_)
  refine ARun.move (.inr rfl) rfl rfl rfl (Ev.plain rfl) optN ?_
  refine ARun.move (.inr rfl) rfl rfl rfl (Ev.plain rfl) optN ?_
  refine ⟨_, _, rfl, hG, ?_⟩
  refine thenA_n ?_
  refine AWP.seq ?_
  refine AWP.seq ?_
  refine AWP.region (fun _ => ?_)
  refine ARun.move (.inl rfl) rfl rfl rfl (Ev.plain rfl) optN ?_
  refine ARun.isNilP rfl rfl rfl rfl Tryd.underlying60 (Ev.plain rfl) (fun hg => by first | rfl | exact nilP_aFl _) (.inl ⟨rfl, rfl⟩) optN ?_
  refine ⟨_, _, rfl, hG, ?_⟩
  refine thenA_n ?_
  refine AWP.cond rfl (fun h0 => ?_) (fun h0 => ?_)
  · skip
    refine AWP.seq ?_
    refine AWP.region (fun _ => ?_)
    refine ARun.call rfl rfl rfl rfl cf42 (Ev.plain rfl) (.cons (Ev.plain rfl) (.cons (Ev.plain rfl) .nil)) rfl (fun hg => new_fn tWrite 1) optN ?_
    refine ARun.move (.inr rfl) rfl rfl rfl (Ev.plain rfl) optN ?_
    refine ARun.move (.inr rfl) rfl rfl rfl (Ev.plain rfl) optN ?_
    refine ⟨_, _, rfl, hG, ?_⟩
    refine thenA_n ?_
    refine AWP.ret ?_
    refine thenA_r ?_
    refine endF.many (.inr rfl) (rs := [.tmp 2, .tmp 3]) rfl (.cons (.tmp rfl) (.cons (.tmp rfl) .nil)) (by simp) ?_ hN
    rfl
  · skip
    simp at h0
set_option maxHeartbeats 1000000 in
theorem newr_fn (s : ByteArray) : FnNewB Tryd.prog 10 [.str s] (fun i => .box i 0) (aRd (RdS.new s)) := by
  refine FnNewB.of Tryd.func10 rfl rfl (by simp) (fun G hG => ?_)
  refine AWP.seq ?_
  refine AWP.region (fun _ => ?_)
  refine ARun.move (.inr rfl) rfl rfl rfl (Ev.plain rfl) optN ?_
  refine ⟨_, _, rfl, hG, ?_⟩
  refine thenA_n ?_
  refine AWP.seq ?_
  refine AWP.region (fun _ => ?_)
  refine ARun.move (.inl rfl) rfl rfl rfl (Ev.plain rfl) optN ?_
  refine ARun.build rfl rfl rfl rfl so69 (.cons (Ev.plain rfl) (.cons (Ev.plain rfl) .nil)) rfl rfl optN ?_
  refine ARun.box (j := 0) hG rfl rfl rfl rfl rfl (Ev.plain rfl) rfl rfl optN ?_
  refine ARun.move (.inr rfl) rfl rfl rfl (Ev.plain rfl) optN ?_
  refine ⟨_, _, rfl, hG, ?_⟩
  refine thenA_n ?_
  refine AWP.ret ?_
  refine endN.one (.inr rfl) rfl (.tmp rfl) ?_ (by first | exact noH_aRd _ _ | (simp; done)) (by first | exact noH_aRd _ _ | (simp; done))
  rfl
set_option maxHeartbeats 1000000 in
theorem goes_fn (r : RdS) : FnM Tryd.prog 37 (fun i => [.box i 0]) (aRd r) (.bool (decide (r.e = 0))) (aRd r) := by
  refine FnM.of Tryd.func37 rfl rfl (fun i => by simp) (fun H i m hHm hi hG => ?_)
  have hN : NoH H.length (.bool (decide (r.e = 0))) := (by simp [AV.cells, aIn, aOut])
  refine AWP.seq ?_
  refine AWP.region (fun _ => ?_)
  refine ARun.move (.inr rfl) rfl rfl rfl (Ev.plain rfl) optN ?_
  refine ⟨_, _, rfl, hG, ?_⟩
  refine thenA_n ?_
  refine AWP.seq ?_
  refine AWP.region (fun _ => ?_)
  refine ARun.alloc (j := 0) hG rfl rfl rfl rfl rfl zv103 rfl optN ?_
  refine ⟨_, _, rfl, hG, ?_⟩
  refine thenA_n ?_
  refine AWP.seq ?_
  refine AWP.region (fun _ => ?_)
  refine ARun.move (.inl rfl) rfl rfl rfl (Ev.plain rfl) optN ?_
  refine ARun.isNilBox rfl rfl rfl rfl Tryd.underlying27 (Ev.plain rfl) (atO hi) (.inr ⟨rfl, rfl⟩) optN ?_
  refine ARun.move (.inl rfl) rfl rfl rfl (Ev.plain rfl) optN ?_
  refine ARun.move (.inl rfl) rfl rfl rfl (Ev.plain rfl) optS ?_
  first | refine ARun.nilPe rfl rfl rfl rfl (Ev.opt rfl (fun h => h)) optS ?_ | refine ARun.nilFn rfl rfl rfl rfl (Ev.opt rfl (fun h => h)) optS ?_ | refine ARun.nilBox rfl rfl rfl rfl (Ev.opt rfl (fun h => h)) (atO hi) optS ?_
  refine ARun.fieldBox (fo := 3) rfl rfl rfl rfl Tryd.underlying69 rfl rfl sz4 (by decide) (Ev.opt rfl (fun h => h)) (atO hi) optS ?_
  refine ARun.loadBox rfl rfl rfl rfl Tryd.underlying4 rfl (Ev.opt rfl (fun h => h)) (atO hi) rfl optS ?_
  refine ARun.pick rfl rfl rfl rfl (Ev.plain rfl) (Ev.opt rfl (by first | exact pkT | exact pkT2 | simp +contextual)) (Ev.plain rfl) (andB _ _) optN ?_
  refine ARun.move (.inl rfl) rfl rfl rfl (Ev.plain rfl) optN ?_
  refine ARun.move (.inl rfl) rfl rfl rfl (Ev.plain rfl) optS ?_
  first | refine ARun.nilPe rfl rfl rfl rfl (Ev.opt rfl (fun h => h)) optS ?_ | refine ARun.nilFn rfl rfl rfl rfl (Ev.opt rfl (fun h => h)) optS ?_ | refine ARun.nilBox rfl rfl rfl rfl (Ev.opt rfl (fun h => h)) (atO hi) optS ?_
  refine ARun.fieldBox (fo := 2) rfl rfl rfl rfl Tryd.underlying69 rfl rfl sz44 (by decide) (Ev.opt rfl (fun h => h)) (atO hi) optS ?_
  refine ARun.loadBox rfl rfl rfl rfl Tryd.underlying44 rfl (Ev.opt rfl (fun h => h)) (atO hi) rfl optS ?_
  refine ARun.iface rfl rfl rfl rfl (by kernel_rfl) (Ev.plain rfl) optS ?_
  refine ARun.callSetG (j := 0) hG rfl rfl rfl rfl cf41 (Ev.plain rfl) (.cons (Ev.opt rfl (fun h => h)) (.cons (Ev.opt rfl (fun h => h)) .nil)) rfl (fun hg => As_F (errOf tRead r.p r.e) _ _ ((hG.at _ _).trans rfl)) (fun hg => by simp at hg) rfl optS ?_
  refine ARun.not rfl rfl rfl rfl (Ev.opt rfl (fun h => h)) optS ?_
  refine ARun.pick rfl rfl rfl rfl (Ev.plain rfl) (Ev.opt rfl (by first | exact pkT | exact pkT2 | simp +contextual)) (Ev.plain rfl) (andB _ _) optN ?_
  refine ARun.move (.inr rfl) rfl rfl rfl (Ev.plain rfl) optN ?_
  refine ⟨_, _, rfl, hG, ?_⟩
  refine thenA_n ?_
  refine AWP.ret ?_
  refine endF.toG (congrArg (fun c => H.set i (AO.box c)) rfl) ?_
  refine endF.one (.inr rfl) rfl (.tmp rfl) ?_ (by rw [List.length_set]; exact hN)
  simp [errOf_isWr]
set_option maxHeartbeats 1000000 in
theorem goes_nil  : FnP Tryd.prog 37 [.raw (.pointer .none)] (.bool false) := by
  refine FnP.of Tryd.func37 rfl rfl (by simp) (by simp [AV.cells, aIn, aOut]) (fun G hG => ?_)
  have hN : NoH G.length (.bool false) := (by simp [AV.cells, aIn, aOut])
  refine AWP.seq ?_
  refine AWP.region (fun _ => ?_)
  refine ARun.move (.inr rfl) rfl rfl rfl (Ev.plain rfl) optN ?_
  refine ⟨_, _, rfl, hG, ?_⟩
  refine thenA_n ?_
  refine AWP.seq ?_
  refine AWP.region (fun _ => ?_)
  refine ARun.alloc (j := 0) hG rfl rfl rfl rfl rfl zv103 rfl optN ?_
  refine ⟨_, _, rfl, hG, ?_⟩
  refine thenA_n ?_
  refine AWP.seq ?_
  refine AWP.region (fun _ => ?_)
  refine ARun.move (.inl rfl) rfl rfl rfl (Ev.plain rfl) optN ?_
  refine ARun.isNilP rfl rfl rfl rfl Tryd.underlying27 (Ev.plain rfl) (fun hg => by first | rfl | exact nilP_aFl _) (.inr ⟨rfl, rfl⟩) optN ?_
  refine ARun.move (.inl rfl) rfl rfl rfl (Ev.plain rfl) optN ?_
  refine ARun.dead (X := .bool false) rfl rfl rfl rfl ?_
  refine ARun.dead (X := .bool false) rfl rfl rfl rfl ?_
  refine ARun.dead (X := .bool false) rfl rfl rfl rfl ?_
  refine ARun.dead (X := .bool false) rfl rfl rfl rfl ?_
  refine ARun.pick rfl rfl rfl rfl (Ev.plain rfl) (Ev.opt rfl (by first | exact pkT | exact pkT2 | simp +contextual)) (Ev.plain rfl) (andB _ _) optN ?_
  refine ARun.move (.inl rfl) rfl rfl rfl (Ev.plain rfl) optN ?_
  refine ARun.dead (X := .bool false) rfl rfl rfl rfl ?_
  refine ARun.dead (X := .bool false) rfl rfl rfl rfl ?_
  refine ARun.dead (X := .bool false) rfl rfl rfl rfl ?_
  refine ARun.dead (X := .bool false) rfl rfl rfl rfl ?_
  refine ARun.dead (X := .bool false) rfl rfl rfl rfl ?_
  refine ARun.dead (X := .bool false) rfl rfl rfl rfl ?_
  refine ARun.dead (X := .bool false) rfl rfl rfl rfl ?_
  refine ARun.pick rfl rfl rfl rfl (Ev.plain rfl) (Ev.opt rfl (by first | exact pkT | exact pkT2 | simp +contextual)) (Ev.plain rfl) (andB _ _) optN ?_
  refine ARun.move (.inr rfl) rfl rfl rfl (Ev.plain rfl) optN ?_
  refine ⟨_, _, rfl, hG, ?_⟩
  refine thenA_n ?_
  refine AWP.ret ?_
  refine endF.one (.inr rfl) rfl (.tmp rfl) ?_ hN
  rfl
set_option maxHeartbeats 1000000 in
theorem done_fn (r : RdS) (p : ByteArray) (to e : Int) : FnM Tryd.prog 39 (fun i => [.box i 0, .str p, .int .i64 to, .int .i64 e]) (aRd r) (.bool (decide (e = 0))) (aRd (r.moved p to e)) := by
  refine FnM.of Tryd.func39 rfl rfl (fun i => by simp) (fun H i m hHm hi hG => ?_)
  have hN : NoH H.length (.bool (decide (e = 0))) := (by simp [AV.cells, aIn, aOut])
  refine AWP.seq ?_
  refine AWP.region (fun _ => ?_)
  refine ARun.move (.inr rfl) rfl rfl rfl (Ev.plain rfl) optN ?_
  refine ⟨_, _, rfl, hG, ?_⟩
  refine thenA_n ?_
  refine AWP.seq ?_
  refine AWP.seq ?_
  refine AWP.region (fun _ => ?_)
  refine ARun.move (.inl rfl) rfl rfl rfl (Ev.plain rfl) optN ?_
  refine ARun.cmp rfl rfl rfl rfl (Ev.plain rfl) (Ev.plain rfl) rfl optN ?_
  refine ⟨_, _, rfl, hG, ?_⟩
  refine thenA_n ?_
  refine AWP.cond rfl (fun h0 => ?_) (fun h0 => ?_)
  · skip
    have he : e ≠ 0 := by simpa using h0
    refine AWP.seq ?_
    refine AWP.region (fun _ => ?_)
    refine ARun.move (.inl rfl) rfl rfl rfl (Ev.plain rfl) optN ?_
    refine ARun.move (.inl rfl) rfl rfl rfl (Ev.plain rfl) optN ?_
    refine ARun.move (.inl rfl) rfl rfl rfl (Ev.plain rfl) optN ?_
    refine ARun.call rfl rfl rfl rfl cf42 (Ev.plain rfl) (.cons (Ev.plain rfl) (.cons (Ev.plain rfl) .nil)) rfl (fun hg => new_fn p e) optN ?_
    refine ARun.call rfl rfl rfl rfl cf57 (Ev.plain rfl) (.cons (Ev.plain rfl) (.cons (Ev.plain rfl) .nil)) rfl (fun hg => wrap_fn tRead (Er.new p e)) optN ?_
    first | refine ARun.nilPe rfl rfl rfl rfl (Ev.plain rfl) optN ?_ | refine ARun.nilFn rfl rfl rfl rfl (Ev.plain rfl) optN ?_ | refine ARun.nilBox rfl rfl rfl rfl (Ev.plain rfl) (atO hi) optN ?_
    refine ARun.fieldBox (fo := 2) rfl rfl rfl rfl Tryd.underlying69 rfl rfl sz44 (by decide) (Ev.plain rfl) (atO hi) optN ?_
    refine ARun.storeO1 hi hG rfl rfl rfl sz44 (Ev.plain rfl) (Ev.plain rfl) (by first | rfl | exact aEr_one _ | exact aFl_one _) (Nat.le_of_ble_eq_true rfl) rfl (by first | exact noH_aRd _ _ | (simp; done) | (simp [cAV]; done)) (fun hG => ?_) (hsp := (by first | rfl | simp [aRd, plain_aEr]))
    refine ⟨_, _, rfl, hG, ?_⟩
    refine thenA_n ?_
    refine AWP.seq ?_
    refine AWP.region (fun _ => ?_)
    refine ARun.move (.inr rfl) rfl rfl rfl (Ev.plain rfl) optN ?_
    refine ⟨_, _, rfl, hG, ?_⟩
    refine thenA_n ?_
    refine AWP.ret ?_
    refine thenA_r ?_
    refine endF.toG (congrArg (fun c => H.set i (AO.box c)) (by rw [moved_pos he]; exact congrArg (fun x => [AV.str r.s, .int .i64 r.at_, aEr x, .bool true]) (errOf_mk tRead p e))) ?_
    refine endF.one (.inr rfl) rfl (.tmp rfl) ?_ (by rw [List.length_set]; exact hN)
    simp [he]; rfl
  · skip
    have he : e = 0 := by simpa using h0
    refine AWP.skip ?_
    refine thenA_n ?_
    refine AWP.seq ?_
    refine AWP.region (fun _ => ?_)
    refine ARun.move (.inl rfl) rfl rfl rfl (Ev.plain rfl) optN ?_
    refine ARun.move (.inl rfl) rfl rfl rfl (Ev.plain rfl) optN ?_
    first | refine ARun.nilPe rfl rfl rfl rfl (Ev.plain rfl) optN ?_ | refine ARun.nilFn rfl rfl rfl rfl (Ev.plain rfl) optN ?_ | refine ARun.nilBox rfl rfl rfl rfl (Ev.plain rfl) (atO hi) optN ?_
    refine ARun.fieldBox (fo := 1) rfl rfl rfl rfl Tryd.underlying69 rfl rfl sz3 (by decide) (Ev.plain rfl) (atO hi) optN ?_
    refine ARun.storeO1 hi hG rfl rfl rfl sz3 (Ev.plain rfl) (Ev.plain rfl) (by first | rfl | exact aEr_one _ | exact aFl_one _) (Nat.le_of_ble_eq_true rfl) rfl (by first | exact noH_aRd _ _ | (simp; done) | (simp [cAV]; done)) (fun hG => ?_) (hsp := (by first | rfl | simp [aRd, plain_aEr]))
    refine ⟨_, _, rfl, hG, ?_⟩
    refine thenA_n ?_
    refine AWP.seq ?_
    refine AWP.region (fun _ => ?_)
    refine ARun.move (.inr rfl) rfl rfl rfl (Ev.plain rfl) optN ?_
    refine ⟨_, _, rfl, hG, ?_⟩
    refine thenA_n ?_
    refine AWP.ret ?_
    refine endF.toG (congrArg (fun c => H.set i (AO.box c)) (by rw [moved_neg he]; rfl)) ?_
    refine endF.one (.inr rfl) rfl (.tmp rfl) ?_ (by rw [List.length_set]; exact hN)
    simp [he]; rfl
set_option maxHeartbeats 1000000 in
theorem num_r (r : RdS) (most : Int) (h : r.ok) : FnM Tryd.prog 12 (fun i => [.box i 0, .int .i64 most]) (aRd r) (.int .i64 (rdNum r most).2) (aRd (rdNum r most).1) := by
  refine FnM.of Tryd.func12 rfl rfl (fun i => by simp) (fun H i m hHm hi hG => ?_)
  have hN : NoH H.length (.int .i64 (rdNum r most).2) := (by simp [AV.cells, aIn, aOut])
  refine AWP.seq ?_
  refine AWP.region (fun _ => ?_)
  refine ARun.move (.inr rfl) rfl rfl rfl (Ev.plain rfl) optN ?_
  refine ⟨_, _, rfl, hG, ?_⟩
  refine thenA_n ?_
  refine AWP.seq ?_
  refine AWP.seq ?_
  refine AWP.region (fun _ => ?_)
  refine ARun.move (.inl rfl) rfl rfl rfl (Ev.plain rfl) optN ?_
  refine ARun.callR rfl rfl rfl rfl cf37 (Ev.plain rfl) (.cons (Ev.plain rfl) .nil) rfl (fun hg => FnM.keep (goes_fn r) (atO hi)) optN ?_
  refine ARun.not rfl rfl rfl rfl (Ev.plain rfl) optN ?_
  refine ⟨_, _, rfl, hG, ?_⟩
  refine thenA_n ?_
  refine AWP.cond rfl (fun h0 => ?_) (fun h0 => ?_)
  · skip
    have he : r.e ≠ 0 := by simpa using h0
    refine AWP.seq ?_
    refine AWP.region (fun _ => ?_)
    refine ARun.move (.inr rfl) rfl rfl rfl (Ev.plain rfl) optN ?_
    refine ⟨_, _, rfl, hG, ?_⟩
    refine thenA_n ?_
    refine AWP.ret ?_
    refine thenA_r ?_
    refine endF.toG (congrArg (fun c => H.set i (AO.box c)) (by rw [rdNum, if_pos he])) ?_
    refine endF.one (.inr rfl) rfl (.tmp rfl) ?_ (by rw [List.length_set]; exact hN)
    rw [rdNum, if_pos he]; rfl
  · skip
    have he : r.e = 0 := by simpa using h0
    have hde : rdNum r most = (r.moved tNum (getN (bl r.s) r.at_).2.1 (numE r most), if numE r most ≠ 0 then 0 else (getN (bl r.s) r.at_).1) := by rw [rdNum, if_neg (by omega)]
    refine AWP.skip ?_
    refine thenA_n ?_
    refine AWP.seq ?_
    refine AWP.draw mixed (by kernel_rfl) (fun _ => ?_)
    refine ARun.move (.inl rfl) rfl rfl rfl (Ev.plain rfl) optN ?_
    first | refine ARun.nilPe rfl rfl rfl rfl (Ev.plain rfl) optN ?_ | refine ARun.nilFn rfl rfl rfl rfl (Ev.plain rfl) optN ?_ | refine ARun.nilBox rfl rfl rfl rfl (Ev.plain rfl) (atO hi) optN ?_
    refine ARun.fieldBox (fo := 0) rfl rfl rfl rfl Tryd.underlying69 rfl rfl sz9 (by decide) (Ev.plain rfl) (atO hi) optN ?_
    refine ARun.loadBox rfl rfl rfl rfl Tryd.underlying9 rfl (Ev.plain rfl) (atO hi) rfl optN ?_
    refine ARun.move (.inl rfl) rfl rfl rfl (Ev.plain rfl) optN ?_
    first | refine ARun.nilPe rfl rfl rfl rfl (Ev.plain rfl) optN ?_ | refine ARun.nilFn rfl rfl rfl rfl (Ev.plain rfl) optN ?_ | refine ARun.nilBox rfl rfl rfl rfl (Ev.plain rfl) (atO hi) optN ?_
    refine ARun.fieldBox (fo := 1) rfl rfl rfl rfl Tryd.underlying69 rfl rfl sz3 (by decide) (Ev.plain rfl) (atO hi) optN ?_
    refine ARun.loadBox rfl rfl rfl rfl Tryd.underlying3 rfl (Ev.plain rfl) (atO hi) rfl optN ?_
    refine ARun.call rfl rfl rfl rfl cf38 (Ev.plain rfl) (.cons (Ev.plain rfl) (.cons (Ev.plain rfl) .nil)) rfl (fun hg => get_fn r.s r.at_ h.2.2) optN ?_
    refine ARun.move (.inl rfl) rfl rfl rfl (Ev.plain rfl) optN ?_
    refine ARun.extract rfl rfl rfl rfl (Ev.plain rfl) rfl optN ?_
    refine ARun.extract rfl rfl rfl rfl (Ev.plain rfl) rfl optN ?_
    refine ARun.extract rfl rfl rfl rfl (Ev.plain rfl) rfl optN ?_
    refine ARun.move (.inr rfl) rfl rfl rfl (Ev.plain rfl) optN ?_
    refine ARun.move (.inr rfl) rfl rfl rfl (Ev.plain rfl) optN ?_
    refine ARun.move (.inr rfl) rfl rfl rfl (Ev.plain rfl) optN ?_
    refine ⟨by kernel_rfl, _, _, rfl, hG, ?_⟩
    refine thenA_n ?_
    refine AWP.seq ?_
    refine AWP.seq ?_
    refine AWP.region (fun _ => ?_)
    refine ARun.move (.inl rfl) rfl rfl rfl (Ev.plain rfl) optN ?_
    refine ARun.cmp rfl rfl rfl rfl (Ev.plain rfl) (Ev.plain rfl) rfl optN ?_
    refine ARun.move (.inl rfl) rfl rfl rfl (Ev.plain rfl) optN ?_
    refine ARun.move (.inl rfl) rfl rfl rfl (Ev.plain rfl) optS ?_
    refine ARun.move (.inl rfl) rfl rfl rfl (Ev.plain rfl) optS ?_
    refine ARun.cmp rfl rfl rfl rfl (Ev.opt rfl (fun h => h)) (Ev.opt rfl (fun h => h)) rfl optS ?_
    refine ARun.pick rfl rfl rfl rfl (Ev.plain rfl) (Ev.opt rfl (by first | exact pkT | exact pkT2 | simp +contextual)) (Ev.plain rfl) (andB _ _) optN ?_
    refine ⟨_, _, rfl, hG, ?_⟩
    refine thenA_n ?_
    refine AWP.cond rfl (fun h1 => ?_) (fun h1 => ?_)
    · skip
      simp at h1
      have hne : numE r most = 3 := by rw [numE, if_pos (by omega)]
      rw [hne] at hde
      refine AWP.region (fun _ => ?_)
      refine ARun.move (.inr rfl) rfl rfl rfl (Ev.plain rfl) optN ?_
      refine ⟨_, _, rfl, hG, ?_⟩
      refine thenA_n ?_
      refine AWP.seq ?_
      refine AWP.seq ?_
      refine AWP.region (fun _ => ?_)
      refine ARun.move (.inl rfl) rfl rfl rfl (Ev.plain rfl) optN ?_
      refine ARun.move (.inl rfl) rfl rfl rfl (Ev.plain rfl) optN ?_
      refine ARun.move (.inl rfl) rfl rfl rfl (Ev.plain rfl) optN ?_
      refine ARun.callO hi hG rfl rfl rfl rfl cf39 (Ev.plain rfl) (.cons (Ev.plain rfl) (.cons (Ev.plain rfl) (.cons (Ev.plain rfl) (.cons (Ev.plain rfl) .nil)))) rfl (done_fn r tNum (getN (bl r.s) r.at_).2.1 3 _ _ (atO hi)) (by first | exact noH_aRd _ _ | (simp; done) | (simp [cAV]; done)) optN (fun hG => ?_)
      refine ARun.not rfl rfl rfl rfl (Ev.plain rfl) optN ?_
      refine ⟨_, _, rfl, hG, ?_⟩
      refine thenA_n ?_
      refine AWP.cond rfl (fun h2 => ?_) (fun h2 => ?_)
      · skip
        refine AWP.seq ?_
        refine AWP.region (fun _ => ?_)
        refine ARun.move (.inr rfl) rfl rfl rfl (Ev.plain rfl) optN ?_
        refine ⟨_, _, rfl, hG, ?_⟩
        refine thenA_n ?_
        refine AWP.ret ?_
        refine thenA_r ?_
        refine endF.toG (congrArg (fun c => H.set i (AO.box c)) (by rw [hde])) ?_
        refine endF.one (.inr rfl) rfl (.tmp rfl) ?_ (by rw [List.length_set]; exact hN)
        rw [hde]; rfl
      · skip
        simp at h2
    · skip
      have h1' : ¬ ((getN (bl r.s) r.at_).2.2 = 0 ∧ (getN (bl r.s) r.at_).1 > most) := by simp at h1; omega
      have hne : numE r most = (getN (bl r.s) r.at_).2.2 := by rw [numE, if_neg h1']
      rw [hne] at hde
      refine AWP.skip ?_
      refine thenA_n ?_
      refine AWP.seq ?_
      refine AWP.seq ?_
      refine AWP.region (fun _ => ?_)
      refine ARun.move (.inl rfl) rfl rfl rfl (Ev.plain rfl) optN ?_
      refine ARun.move (.inl rfl) rfl rfl rfl (Ev.plain rfl) optN ?_
      refine ARun.move (.inl rfl) rfl rfl rfl (Ev.plain rfl) optN ?_
      refine ARun.callO hi hG rfl rfl rfl rfl cf39 (Ev.plain rfl) (.cons (Ev.plain rfl) (.cons (Ev.plain rfl) (.cons (Ev.plain rfl) (.cons (Ev.plain rfl) .nil)))) rfl (done_fn r tNum (getN (bl r.s) r.at_).2.1 (getN (bl r.s) r.at_).2.2 _ _ (atO hi)) (by first | exact noH_aRd _ _ | (simp; done) | (simp [cAV]; done)) optN (fun hG => ?_)
      refine ARun.not rfl rfl rfl rfl (Ev.plain rfl) optN ?_
      refine ⟨_, _, rfl, hG, ?_⟩
      refine thenA_n ?_
      refine AWP.cond rfl (fun h3 => ?_) (fun h3 => ?_)
      · skip
        simp at h3
        refine AWP.seq ?_
        refine AWP.region (fun _ => ?_)
        refine ARun.move (.inr rfl) rfl rfl rfl (Ev.plain rfl) optN ?_
        refine ⟨_, _, rfl, hG, ?_⟩
        refine thenA_n ?_
        refine AWP.ret ?_
        refine thenA_r ?_
        refine endF.toG (congrArg (fun c => H.set i (AO.box c)) (by rw [hde])) ?_
        refine endF.one (.inr rfl) rfl (.tmp rfl) ?_ (by rw [List.length_set]; exact hN)
        rw [hde, if_pos h3]; rfl
      · skip
        simp at h3
        refine AWP.skip ?_
        refine thenA_n ?_
        refine AWP.seq ?_
        refine AWP.region (fun _ => ?_)
        refine ARun.move (.inl rfl) rfl rfl rfl (Ev.plain rfl) optN ?_
        refine ARun.move (.inr rfl) rfl rfl rfl (Ev.plain rfl) optN ?_
        refine ⟨_, _, rfl, hG, ?_⟩
        refine thenA_n ?_
        refine AWP.ret ?_
        refine endF.toG (congrArg (fun c => H.set i (AO.box c)) (by rw [hde])) ?_
        refine endF.one (.inr rfl) rfl (.tmp rfl) ?_ (by rw [List.length_set]; exact hN)
        rw [hde, if_neg (by omega)]
set_option maxHeartbeats 1000000 in
theorem text_r (r : RdS) (most : Int) (h : r.ok) : FnM Tryd.prog 13 (fun i => [.box i 0, .int .i64 most]) (aRd r) (.str (rdText r most).2) (aRd (rdText r most).1) := by
  have hbd := getN_bd (bl r.s) r.at_ (by rw [bl_len]; exact h.2.2)
  rw [bl_len] at hbd
  have hsz := h.2.2
  refine FnM.of Tryd.func13 rfl rfl (fun i => by simp) (fun H i m hHm hi hG => ?_)
  have hN : NoH H.length (.str (rdText r most).2) := (by simp [AV.cells, aIn, aOut])
  refine AWP.seq ?_
  refine AWP.region (fun _ => ?_)
  refine ARun.move (.inr rfl) rfl rfl rfl (Ev.plain rfl) optN ?_
  refine ⟨_, _, rfl, hG, ?_⟩
  refine thenA_n ?_
  refine AWP.seq ?_
  refine AWP.seq ?_
  refine AWP.region (fun _ => ?_)
  refine ARun.move (.inl rfl) rfl rfl rfl (Ev.plain rfl) optN ?_
  refine ARun.callR rfl rfl rfl rfl cf37 (Ev.plain rfl) (.cons (Ev.plain rfl) .nil) rfl (fun hg => FnM.keep (goes_fn r) (atO hi)) optN ?_
  refine ARun.not rfl rfl rfl rfl (Ev.plain rfl) optN ?_
  refine ⟨_, _, rfl, hG, ?_⟩
  refine thenA_n ?_
  refine AWP.cond rfl (fun h0 => ?_) (fun h0 => ?_)
  · skip
    have he : r.e ≠ 0 := by simpa using h0
    refine AWP.seq ?_
    refine AWP.region (fun _ => ?_)
    refine ARun.move (.inr rfl) rfl rfl rfl (Ev.plain rfl) optN ?_
    refine ⟨_, _, rfl, hG, ?_⟩
    refine thenA_n ?_
    refine AWP.ret ?_
    refine thenA_r ?_
    refine endF.toG (congrArg (fun c => H.set i (AO.box c)) (by rw [rdText, if_pos he])) ?_
    refine endF.one (.inr rfl) rfl (.tmp rfl) ?_ (by rw [List.length_set]; exact hN)
    rw [rdText, if_pos he]; rfl
  · skip
    have he : r.e = 0 := by simpa using h0
    have hde : rdText r most = (r.moved tText ((getN (bl r.s) r.at_).2.1 + (getN (bl r.s) r.at_).1) (textE r most), if textE r most ≠ 0 then ⟨#[]⟩ else r.s.extract (getN (bl r.s) r.at_).2.1.toNat ((getN (bl r.s) r.at_).2.1 + (getN (bl r.s) r.at_).1).toNat) := by rw [rdText, if_neg (by omega)]
    have hdf : textE r most = if (getN (bl r.s) r.at_).2.2 ≠ 0 then (getN (bl r.s) r.at_).2.2 else if (getN (bl r.s) r.at_).1 > most then 3 else if (getN (bl r.s) r.at_).1 > (r.s.size : Int) - (getN (bl r.s) r.at_).2.1 then 4 else 0 := rfl
    refine AWP.skip ?_
    refine thenA_n ?_
    refine AWP.seq ?_
    refine AWP.draw mixed (by kernel_rfl) (fun _ => ?_)
    refine ARun.move (.inl rfl) rfl rfl rfl (Ev.plain rfl) optN ?_
    first | refine ARun.nilPe rfl rfl rfl rfl (Ev.plain rfl) optN ?_ | refine ARun.nilFn rfl rfl rfl rfl (Ev.plain rfl) optN ?_ | refine ARun.nilBox rfl rfl rfl rfl (Ev.plain rfl) (atO hi) optN ?_
    refine ARun.fieldBox (fo := 0) rfl rfl rfl rfl Tryd.underlying69 rfl rfl sz9 (by decide) (Ev.plain rfl) (atO hi) optN ?_
    refine ARun.loadBox rfl rfl rfl rfl Tryd.underlying9 rfl (Ev.plain rfl) (atO hi) rfl optN ?_
    refine ARun.move (.inl rfl) rfl rfl rfl (Ev.plain rfl) optN ?_
    first | refine ARun.nilPe rfl rfl rfl rfl (Ev.plain rfl) optN ?_ | refine ARun.nilFn rfl rfl rfl rfl (Ev.plain rfl) optN ?_ | refine ARun.nilBox rfl rfl rfl rfl (Ev.plain rfl) (atO hi) optN ?_
    refine ARun.fieldBox (fo := 1) rfl rfl rfl rfl Tryd.underlying69 rfl rfl sz3 (by decide) (Ev.plain rfl) (atO hi) optN ?_
    refine ARun.loadBox rfl rfl rfl rfl Tryd.underlying3 rfl (Ev.plain rfl) (atO hi) rfl optN ?_
    refine ARun.call rfl rfl rfl rfl cf38 (Ev.plain rfl) (.cons (Ev.plain rfl) (.cons (Ev.plain rfl) .nil)) rfl (fun hg => get_fn r.s r.at_ h.2.2) optN ?_
    refine ARun.move (.inl rfl) rfl rfl rfl (Ev.plain rfl) optN ?_
    refine ARun.extract rfl rfl rfl rfl (Ev.plain rfl) rfl optN ?_
    refine ARun.extract rfl rfl rfl rfl (Ev.plain rfl) rfl optN ?_
    refine ARun.extract rfl rfl rfl rfl (Ev.plain rfl) rfl optN ?_
    refine ARun.move (.inr rfl) rfl rfl rfl (Ev.plain rfl) optN ?_
    refine ARun.move (.inr rfl) rfl rfl rfl (Ev.plain rfl) optN ?_
    refine ARun.move (.inr rfl) rfl rfl rfl (Ev.plain rfl) optN ?_
    refine ⟨by kernel_rfl, _, _, rfl, hG, ?_⟩
    refine thenA_n ?_
    refine AWP.seq ?_
    refine AWP.block ?_
    refine AWP.seq ?_
    refine AWP.region (fun _ => ?_)
    refine ARun.move (.inl rfl) rfl rfl rfl (Ev.plain rfl) optN ?_
    refine ARun.cmp rfl rfl rfl rfl (Ev.plain rfl) (Ev.plain rfl) rfl optN ?_
    refine ARun.move (.inr rfl) rfl rfl rfl (Ev.plain rfl) optN ?_
    refine ⟨_, _, rfl, hG, ?_⟩
    refine thenA_n ?_
    refine AWP.cond rfl (fun h1 => ?_) (fun h1 => ?_)
    · skip
      simp at h1
      rw [if_pos h1] at hdf
      refine AWP.skip ?_
      refine blockA_n ?_
      refine thenA_n ?_
      refine AWP.seq ?_
      refine AWP.seq ?_
      refine AWP.region (fun _ => ?_)
      refine ARun.move (.inl rfl) rfl rfl rfl (Ev.plain rfl) optN ?_
      refine ARun.move (.inl rfl) rfl rfl rfl (Ev.plain rfl) optN ?_
      refine ARun.move (.inl rfl) rfl rfl rfl (Ev.plain rfl) optN ?_
      first | refine ARun.arith rfl rfl rfl rfl (Ev.plain rfl) (Ev.plain rfl) rfl (fun hg => i64w (by (try simp at hg); omega)) optN ?_ | refine ARun.arith rfl rfl rfl rfl (Ev.plain rfl) (Ev.plain rfl) rfl (fun _ => rfl) optN ?_
      refine ARun.move (.inl rfl) rfl rfl rfl (Ev.plain rfl) optN ?_
      refine ARun.callO hi hG rfl rfl rfl rfl cf39 (Ev.plain rfl) (.cons (Ev.plain rfl) (.cons (Ev.plain rfl) (.cons (Ev.plain rfl) (.cons (Ev.plain rfl) .nil)))) rfl (done_fn r tText _ (getN (bl r.s) r.at_).2.2 _ _ (atO hi)) (by first | exact noH_aRd _ _ | (simp; done) | (simp [cAV]; done)) optN (fun hG => ?_)
      refine ARun.not rfl rfl rfl rfl (Ev.plain rfl) optN ?_
      refine ⟨_, _, rfl, hG, ?_⟩
      refine thenA_n ?_
      refine AWP.cond rfl (fun h2 => ?_) (fun h2 => ?_)
      · skip
        simp at h2
        refine AWP.seq ?_
        refine AWP.region (fun _ => ?_)
        refine ARun.move (.inr rfl) rfl rfl rfl (Ev.plain rfl) optN ?_
        refine ⟨_, _, rfl, hG, ?_⟩
        refine thenA_n ?_
        refine AWP.ret ?_
        refine thenA_r ?_
        refine endF.toG (congrArg (fun c => H.set i (AO.box c)) (by rw [hde, hdf]; dsimp only; rw [moved_pos h1, moved_pos h1])) ?_
        refine endF.one (.inr rfl) rfl (.tmp rfl) ?_ (by rw [List.length_set]; exact hN)
        rw [hde, if_pos (by omega)]; rfl
      · skip
        simp at h2; exact absurd h2 h1
    · skip
      simp at h1
      rw [if_neg (by omega)] at hdf
      refine AWP.seq ?_
      refine AWP.region (fun _ => ?_)
      refine ARun.move (.inl rfl) rfl rfl rfl (Ev.plain rfl) optN ?_
      refine ARun.move (.inl rfl) rfl rfl rfl (Ev.plain rfl) optN ?_
      refine ARun.cmp rfl rfl rfl rfl (Ev.plain rfl) (Ev.plain rfl) rfl optN ?_
      refine ARun.move (.inr rfl) rfl rfl rfl (Ev.plain rfl) optN ?_
      refine ⟨_, _, rfl, hG, ?_⟩
      refine thenA_n ?_
      refine AWP.cond rfl (fun h3 => ?_) (fun h3 => ?_)
      · skip
        simp at h3
        rw [if_pos h3] at hdf
        refine AWP.region (fun _ => ?_)
        refine ARun.move (.inr rfl) rfl rfl rfl (Ev.plain rfl) optN ?_
        refine ⟨_, _, rfl, hG, ?_⟩
        refine blockA_n ?_
        refine thenA_n ?_
        refine AWP.seq ?_
        refine AWP.seq ?_
        refine AWP.region (fun _ => ?_)
        refine ARun.move (.inl rfl) rfl rfl rfl (Ev.plain rfl) optN ?_
        refine ARun.move (.inl rfl) rfl rfl rfl (Ev.plain rfl) optN ?_
        refine ARun.move (.inl rfl) rfl rfl rfl (Ev.plain rfl) optN ?_
        first | refine ARun.arith rfl rfl rfl rfl (Ev.plain rfl) (Ev.plain rfl) rfl (fun hg => i64w (by (try simp at hg); omega)) optN ?_ | refine ARun.arith rfl rfl rfl rfl (Ev.plain rfl) (Ev.plain rfl) rfl (fun _ => rfl) optN ?_
        refine ARun.move (.inl rfl) rfl rfl rfl (Ev.plain rfl) optN ?_
        refine ARun.callO hi hG rfl rfl rfl rfl cf39 (Ev.plain rfl) (.cons (Ev.plain rfl) (.cons (Ev.plain rfl) (.cons (Ev.plain rfl) (.cons (Ev.plain rfl) .nil)))) rfl (done_fn r tText _ 3 _ _ (atO hi)) (by first | exact noH_aRd _ _ | (simp; done) | (simp [cAV]; done)) optN (fun hG => ?_)
        refine ARun.not rfl rfl rfl rfl (Ev.plain rfl) optN ?_
        refine ⟨_, _, rfl, hG, ?_⟩
        refine thenA_n ?_
        refine AWP.cond rfl (fun h4 => ?_) (fun h4 => ?_)
        · skip
          refine AWP.seq ?_
          refine AWP.region (fun _ => ?_)
          refine ARun.move (.inr rfl) rfl rfl rfl (Ev.plain rfl) optN ?_
          refine ⟨_, _, rfl, hG, ?_⟩
          refine thenA_n ?_
          refine AWP.ret ?_
          refine thenA_r ?_
          refine endF.toG (congrArg (fun c => H.set i (AO.box c)) (by rw [hde, hdf]; rfl)) ?_
          refine endF.one (.inr rfl) rfl (.tmp rfl) ?_ (by rw [List.length_set]; exact hN)
          rw [hde, if_pos (by omega)]; rfl
        · skip
          simp at h4
      · skip
        simp at h3
        rw [if_neg (by omega)] at hdf
        refine AWP.seq ?_
        refine AWP.region (fun _ => ?_)
        refine ARun.move (.inl rfl) rfl rfl rfl (Ev.plain rfl) optN ?_
        refine ARun.move (.inl rfl) rfl rfl rfl (Ev.plain rfl) optN ?_
        first | refine ARun.nilPe rfl rfl rfl rfl (Ev.plain rfl) optN ?_ | refine ARun.nilFn rfl rfl rfl rfl (Ev.plain rfl) optN ?_ | refine ARun.nilBox rfl rfl rfl rfl (Ev.plain rfl) (atO hi) optN ?_
        refine ARun.fieldBox (fo := 0) rfl rfl rfl rfl Tryd.underlying69 rfl rfl sz9 (by decide) (Ev.plain rfl) (atO hi) optN ?_
        refine ARun.loadBox rfl rfl rfl rfl Tryd.underlying9 rfl (Ev.plain rfl) (atO hi) rfl optN ?_
        refine ARun.lenStr rfl rfl rfl rfl Tryd.underlying9 (Ev.plain rfl) optN ?_
        refine ARun.move (.inl rfl) rfl rfl rfl (Ev.plain rfl) optN ?_
        first | refine ARun.arith rfl rfl rfl rfl (Ev.plain rfl) (Ev.plain rfl) rfl (fun hg => i64w (by (try simp at hg); omega)) optN ?_ | refine ARun.arith rfl rfl rfl rfl (Ev.plain rfl) (Ev.plain rfl) rfl (fun _ => rfl) optN ?_
        refine ARun.cmp rfl rfl rfl rfl (Ev.plain rfl) (Ev.plain rfl) rfl optN ?_
        refine ARun.move (.inr rfl) rfl rfl rfl (Ev.plain rfl) optN ?_
        refine ⟨_, _, rfl, hG, ?_⟩
        refine thenA_n ?_
        refine AWP.cond rfl (fun h5 => ?_) (fun h5 => ?_)
        · skip
          simp at h5
          rw [if_pos h5] at hdf
          refine AWP.region (fun _ => ?_)
          refine ARun.move (.inr rfl) rfl rfl rfl (Ev.plain rfl) optN ?_
          refine ⟨_, _, rfl, hG, ?_⟩
          refine blockA_n ?_
          refine thenA_n ?_
          refine AWP.seq ?_
          refine AWP.seq ?_
          refine AWP.region (fun _ => ?_)
          refine ARun.move (.inl rfl) rfl rfl rfl (Ev.plain rfl) optN ?_
          refine ARun.move (.inl rfl) rfl rfl rfl (Ev.plain rfl) optN ?_
          refine ARun.move (.inl rfl) rfl rfl rfl (Ev.plain rfl) optN ?_
          first | refine ARun.arith rfl rfl rfl rfl (Ev.plain rfl) (Ev.plain rfl) rfl (fun hg => i64w (by (try simp at hg); omega)) optN ?_ | refine ARun.arith rfl rfl rfl rfl (Ev.plain rfl) (Ev.plain rfl) rfl (fun _ => rfl) optN ?_
          refine ARun.move (.inl rfl) rfl rfl rfl (Ev.plain rfl) optN ?_
          refine ARun.callO hi hG rfl rfl rfl rfl cf39 (Ev.plain rfl) (.cons (Ev.plain rfl) (.cons (Ev.plain rfl) (.cons (Ev.plain rfl) (.cons (Ev.plain rfl) .nil)))) rfl (done_fn r tText _ 4 _ _ (atO hi)) (by first | exact noH_aRd _ _ | (simp; done) | (simp [cAV]; done)) optN (fun hG => ?_)
          refine ARun.not rfl rfl rfl rfl (Ev.plain rfl) optN ?_
          refine ⟨_, _, rfl, hG, ?_⟩
          refine thenA_n ?_
          refine AWP.cond rfl (fun h6 => ?_) (fun h6 => ?_)
          · skip
            refine AWP.seq ?_
            refine AWP.region (fun _ => ?_)
            refine ARun.move (.inr rfl) rfl rfl rfl (Ev.plain rfl) optN ?_
            refine ⟨_, _, rfl, hG, ?_⟩
            refine thenA_n ?_
            refine AWP.ret ?_
            refine thenA_r ?_
            refine endF.toG (congrArg (fun c => H.set i (AO.box c)) (by rw [hde, hdf]; rfl)) ?_
            refine endF.one (.inr rfl) rfl (.tmp rfl) ?_ (by rw [List.length_set]; exact hN)
            rw [hde, if_pos (by omega)]; rfl
          · skip
            simp at h6
        · skip
          simp at h5
          rw [if_neg (by omega)] at hdf
          refine AWP.skip ?_
          refine blockA_n ?_
          refine thenA_n ?_
          refine AWP.seq ?_
          refine AWP.seq ?_
          refine AWP.region (fun _ => ?_)
          refine ARun.move (.inl rfl) rfl rfl rfl (Ev.plain rfl) optN ?_
          refine ARun.move (.inl rfl) rfl rfl rfl (Ev.plain rfl) optN ?_
          refine ARun.move (.inl rfl) rfl rfl rfl (Ev.plain rfl) optN ?_
          first | refine ARun.arith rfl rfl rfl rfl (Ev.plain rfl) (Ev.plain rfl) rfl (fun hg => i64w (by (try simp at hg); omega)) optN ?_ | refine ARun.arith rfl rfl rfl rfl (Ev.plain rfl) (Ev.plain rfl) rfl (fun _ => rfl) optN ?_
          refine ARun.move (.inl rfl) rfl rfl rfl (Ev.plain rfl) optN ?_
          refine ARun.callO hi hG rfl rfl rfl rfl cf39 (Ev.plain rfl) (.cons (Ev.plain rfl) (.cons (Ev.plain rfl) (.cons (Ev.plain rfl) (.cons (Ev.plain rfl) .nil)))) rfl (done_fn r tText ((getN (bl r.s) r.at_).2.1 + (getN (bl r.s) r.at_).1) (getN (bl r.s) r.at_).2.2 _ _ (atO hi)) (by first | exact noH_aRd _ _ | (simp; done) | (simp [cAV]; done)) optN (fun hG => ?_)
          refine ARun.not rfl rfl rfl rfl (Ev.plain rfl) optN ?_
          refine ⟨_, _, rfl, hG, ?_⟩
          refine thenA_n ?_
          refine AWP.cond rfl (fun h7 => ?_) (fun h7 => ?_)
          · skip
            simp [h1] at h7
          · skip
            refine AWP.skip ?_
            refine thenA_n ?_
            refine AWP.seq ?_
            refine AWP.region (fun _ => ?_)
            refine ARun.move (.inl rfl) rfl rfl rfl (Ev.plain rfl) optN ?_
            first | refine ARun.nilPe rfl rfl rfl rfl (Ev.plain rfl) optN ?_ | refine ARun.nilFn rfl rfl rfl rfl (Ev.plain rfl) optN ?_ | refine ARun.nilBox rfl rfl rfl rfl (Ev.plain rfl) (atO hi) optN ?_
            refine ARun.fieldBox (fo := 0) rfl rfl rfl rfl Tryd.underlying69 rfl rfl sz9 (by decide) (Ev.plain rfl) (atO hi) optN ?_
            refine ARun.loadBox rfl rfl rfl rfl Tryd.underlying9 rfl (Ev.plain rfl) (atO hi) rfl optN ?_
            refine ARun.move (.inl rfl) rfl rfl rfl (Ev.plain rfl) optN ?_
            refine ARun.move (.inl rfl) rfl rfl rfl (Ev.plain rfl) optN ?_
            refine ARun.move (.inl rfl) rfl rfl rfl (Ev.plain rfl) optN ?_
            first | refine ARun.arith rfl rfl rfl rfl (Ev.plain rfl) (Ev.plain rfl) rfl (fun hg => i64w (by (try simp at hg); omega)) optN ?_ | refine ARun.arith rfl rfl rfl rfl (Ev.plain rfl) (Ev.plain rfl) rfl (fun _ => rfl) optN ?_
            refine ARun.cutStr (a := (getN (bl r.s) r.at_).2.1.toNat) (b := ((getN (bl r.s) r.at_).2.1 + (getN (bl r.s) r.at_).1).toNat) rfl rfl rfl rfl Tryd.underlying9 (Ev.plain rfl) ⟨_, _, (Ev.plain rfl), fun hg => (by (try simp at hg); omega)⟩ ⟨_, _, (Ev.plain rfl), fun hg => (by (try simp at hg); omega)⟩ (fun hg => (by rw [moved_s]; omega)) rfl optN ?_
            refine ARun.move (.inr rfl) rfl rfl rfl (Ev.plain rfl) optN ?_
            refine ⟨_, _, rfl, hG, ?_⟩
            refine thenA_n ?_
            refine AWP.ret ?_
            refine endF.toG (congrArg (fun c => H.set i (AO.box c)) (by rw [hde, hdf, h1])) ?_
            refine endF.one (.inr rfl) rfl (.tmp rfl) ?_ (by rw [List.length_set]; exact hN)
            rw [hde, if_neg (by omega), moved_s]
set_option maxHeartbeats 1000000 in
theorem row_r (r : RdS) (most : Int) (h : r.ok) : FnM Tryd.prog 15 (fun i => [.box i 0, .int .i64 most]) (aRd r) (.sl ((rdRow r most).2.map (AV.int .i64))) (aRd (rdRow r most).1) := by
  refine FnM.of Tryd.func15 rfl rfl (fun i => by simp) (fun H i m hHm hi hG => ?_)
  have hN : NoH H.length (.sl ((rdRow r most).2.map (AV.int .i64))) := (by simp [AV.cells])
  refine AWP.seq ?_
  refine AWP.region (fun _ => ?_)
  refine ARun.move (.inr rfl) rfl rfl rfl (Ev.plain rfl) optN ?_
  refine ⟨_, _, rfl, hG, ?_⟩
  refine thenA_n ?_
  refine AWP.seq ?_
  refine AWP.seq ?_
  refine AWP.region (fun _ => ?_)
  refine ARun.move (.inl rfl) rfl rfl rfl (Ev.plain rfl) optN ?_
  refine ARun.callR rfl rfl rfl rfl cf37 (Ev.plain rfl) (.cons (Ev.plain rfl) .nil) rfl (fun hg => FnM.keep (goes_fn r) (atO hi)) optN ?_
  refine ARun.not rfl rfl rfl rfl (Ev.plain rfl) optN ?_
  refine ⟨_, _, rfl, hG, ?_⟩
  refine thenA_n ?_
  refine AWP.cond rfl (fun h0 => ?_) (fun h0 => ?_)
  · skip
    have he : r.e ≠ 0 := by simpa using h0
    refine AWP.seq ?_
    refine AWP.region (fun _ => ?_)
    refine ARun.move (.inr rfl) rfl rfl rfl (Ev.plain rfl) optN ?_
    refine ⟨_, _, rfl, hG, ?_⟩
    refine thenA_n ?_
    refine AWP.ret ?_
    refine thenA_r ?_
    refine endF.toG (congrArg (fun c => H.set i (AO.box c)) (by rw [rdRow, if_pos he])) ?_
    refine endF.one (.inr rfl) rfl (.tmp rfl) ?_ (by rw [List.length_set]; exact hN)
    rw [rdRow, if_pos he]; rfl
  · skip
    have he : r.e = 0 := by simpa using h0
    have hde : rdRow r most = (r.moved tRow (unrowN (bl r.s) r.at_ most).2.1 (unrowN (bl r.s) r.at_ most).2.2, (unrowN (bl r.s) r.at_ most).1) := by rw [rdRow, if_neg (by omega)]
    refine AWP.skip ?_
    refine thenA_n ?_
    refine AWP.seq ?_
    refine AWP.draw mixed (by kernel_rfl) (fun _ => ?_)
    refine ARun.move (.inl rfl) rfl rfl rfl (Ev.plain rfl) optN ?_
    first | refine ARun.nilPe rfl rfl rfl rfl (Ev.plain rfl) optN ?_ | refine ARun.nilFn rfl rfl rfl rfl (Ev.plain rfl) optN ?_ | refine ARun.nilBox rfl rfl rfl rfl (Ev.plain rfl) (atO hi) optN ?_
    refine ARun.fieldBox (fo := 0) rfl rfl rfl rfl Tryd.underlying69 rfl rfl sz9 (by decide) (Ev.plain rfl) (atO hi) optN ?_
    refine ARun.loadBox rfl rfl rfl rfl Tryd.underlying9 rfl (Ev.plain rfl) (atO hi) rfl optN ?_
    refine ARun.move (.inl rfl) rfl rfl rfl (Ev.plain rfl) optN ?_
    first | refine ARun.nilPe rfl rfl rfl rfl (Ev.plain rfl) optN ?_ | refine ARun.nilFn rfl rfl rfl rfl (Ev.plain rfl) optN ?_ | refine ARun.nilBox rfl rfl rfl rfl (Ev.plain rfl) (atO hi) optN ?_
    refine ARun.fieldBox (fo := 1) rfl rfl rfl rfl Tryd.underlying69 rfl rfl sz3 (by decide) (Ev.plain rfl) (atO hi) optN ?_
    refine ARun.loadBox rfl rfl rfl rfl Tryd.underlying3 rfl (Ev.plain rfl) (atO hi) rfl optN ?_
    refine ARun.move (.inl rfl) rfl rfl rfl (Ev.plain rfl) optN ?_
    refine ARun.call rfl rfl rfl rfl cf40 (Ev.plain rfl) (.cons (Ev.plain rfl) (.cons (Ev.plain rfl) (.cons (Ev.plain rfl) .nil))) rfl (fun hg => unrowN_fn r.s r.at_ most h.2.2) optN ?_
    refine ARun.move (.inl rfl) rfl rfl rfl (Ev.plain rfl) optN ?_
    refine ARun.extract rfl rfl rfl rfl (Ev.plain rfl) rfl optN ?_
    refine ARun.extract rfl rfl rfl rfl (Ev.plain rfl) rfl optN ?_
    refine ARun.extract rfl rfl rfl rfl (Ev.plain rfl) rfl optN ?_
    refine ARun.move (.inr rfl) rfl rfl rfl (Ev.plain rfl) optN ?_
    refine ARun.move (.inr rfl) rfl rfl rfl (Ev.plain rfl) optN ?_
    refine ARun.move (.inr rfl) rfl rfl rfl (Ev.plain rfl) optN ?_
    refine ⟨by kernel_rfl, _, _, rfl, hG, ?_⟩
    refine thenA_n ?_
    refine AWP.seq ?_
    refine AWP.seq ?_
    refine AWP.region (fun _ => ?_)
    refine ARun.move (.inl rfl) rfl rfl rfl (Ev.plain rfl) optN ?_
    refine ARun.move (.inl rfl) rfl rfl rfl (Ev.plain rfl) optN ?_
    refine ARun.move (.inl rfl) rfl rfl rfl (Ev.plain rfl) optN ?_
    refine ARun.callO hi hG rfl rfl rfl rfl cf39 (Ev.plain rfl) (.cons (Ev.plain rfl) (.cons (Ev.plain rfl) (.cons (Ev.plain rfl) (.cons (Ev.plain rfl) .nil)))) rfl (done_fn r tRow (unrowN (bl r.s) r.at_ most).2.1 (unrowN (bl r.s) r.at_ most).2.2 _ _ (atO hi)) (by first | exact noH_aRd _ _ | (simp; done) | (simp [cAV]; done)) optN (fun hG => ?_)
    refine ARun.not rfl rfl rfl rfl (Ev.plain rfl) optN ?_
    refine ⟨_, _, rfl, hG, ?_⟩
    refine thenA_n ?_
    refine AWP.cond rfl (fun h1 => ?_) (fun h1 => ?_)
    · skip
      simp at h1
      refine AWP.seq ?_
      refine AWP.region (fun _ => ?_)
      refine ARun.move (.inr rfl) rfl rfl rfl (Ev.plain rfl) optN ?_
      refine ⟨_, _, rfl, hG, ?_⟩
      refine thenA_n ?_
      refine AWP.ret ?_
      refine thenA_r ?_
      refine endF.toG (congrArg (fun c => H.set i (AO.box c)) (by rw [hde])) ?_
      refine endF.one (.inr rfl) rfl (.tmp rfl) ?_ (by rw [List.length_set]; exact hN)
      rw [hde, unrow_bad h1]; rfl
    · skip
      simp at h1
      refine AWP.skip ?_
      refine thenA_n ?_
      refine AWP.seq ?_
      refine AWP.region (fun _ => ?_)
      refine ARun.move (.inl rfl) rfl rfl rfl (Ev.plain rfl) optN ?_
      refine ARun.move (.inr rfl) rfl rfl rfl (Ev.plain rfl) optN ?_
      refine ⟨_, _, rfl, hG, ?_⟩
      refine thenA_n ?_
      refine AWP.ret ?_
      refine endF.toG (congrArg (fun c => H.set i (AO.box c)) (by rw [hde])) ?_
      refine endF.one (.inr rfl) rfl (.tmp rfl) ?_ (by rw [List.length_set]; exact hN)
      rw [hde]
theorem flag_done (r : RdS) : FnM Tryd.prog 39 (fun i => [.box i 0, .str tFlag, .int .i64 (r.at_ + 1), .int .i64 0]) (aRd r) (.bool true) [.str r.s, .int .i64 (r.at_ + 1), aEr (errOf tRead r.p r.e), .bool true] := by
  have := done_fn r tFlag (r.at_ + 1) 0
  rwa [moved_neg rfl] at this
set_option maxHeartbeats 1000000 in
theorem flag_r (r : RdS) (h : r.ok) : FnM Tryd.prog 16 (fun i => [.box i 0]) (aRd r) (.bool (rdFlag r).2) (aRd (rdFlag r).1) := by
  have hok0 := h.1
  have hok1 := h.2.1
  have hsz := h.2.2
  refine FnM.of Tryd.func16 rfl rfl (fun i => by simp) (fun H i m hHm hi hG => ?_)
  have hN : NoH H.length (.bool (rdFlag r).2) := (by simp [AV.cells, aIn, aOut])
  refine AWP.seq ?_
  refine AWP.region (fun _ => ?_)
  refine ARun.move (.inr rfl) rfl rfl rfl (Ev.plain rfl) optN ?_
  refine ⟨_, _, rfl, hG, ?_⟩
  refine thenA_n ?_
  refine AWP.seq ?_
  refine AWP.seq ?_
  refine AWP.region (fun _ => ?_)
  refine ARun.move (.inl rfl) rfl rfl rfl (Ev.plain rfl) optN ?_
  refine ARun.callR rfl rfl rfl rfl cf37 (Ev.plain rfl) (.cons (Ev.plain rfl) .nil) rfl (fun hg => FnM.keep (goes_fn r) (atO hi)) optN ?_
  refine ARun.not rfl rfl rfl rfl (Ev.plain rfl) optN ?_
  refine ⟨_, _, rfl, hG, ?_⟩
  refine thenA_n ?_
  refine AWP.cond rfl (fun h0 => ?_) (fun h0 => ?_)
  · skip
    have he : r.e ≠ 0 := by simpa using h0
    refine AWP.seq ?_
    refine AWP.region (fun _ => ?_)
    refine ARun.move (.inr rfl) rfl rfl rfl (Ev.plain rfl) optN ?_
    refine ⟨_, _, rfl, hG, ?_⟩
    refine thenA_n ?_
    refine AWP.ret ?_
    refine thenA_r ?_
    refine endF.toG (congrArg (fun c => H.set i (AO.box c)) (by rw [rdFlag, if_pos he])) ?_
    refine endF.one (.inr rfl) rfl (.tmp rfl) ?_ (by rw [List.length_set]; exact hN)
    rw [rdFlag, if_pos he]; rfl
  · skip
    have he : r.e = 0 := by simpa using h0
    have hdf : rdFlag r = if r.at_ ≥ r.s.size then (r.moved tFlag 0 4, false) else if ((bl r.s).getD r.at_.toNat 0).toNat > 1 then (r.moved tFlag 0 5, false) else (r.moved tFlag (r.at_ + 1) 0, decide (((bl r.s).getD r.at_.toNat 0).toNat = 1)) := by rw [rdFlag, if_neg (by omega)]
    refine AWP.skip ?_
    refine thenA_n ?_
    refine AWP.seq ?_
    refine AWP.block ?_
    refine AWP.seq ?_
    refine AWP.draw mixed (by kernel_rfl) (fun _ => ?_)
    refine ARun.move (.inl rfl) rfl rfl rfl (Ev.plain rfl) optN ?_
    first | refine ARun.nilPe rfl rfl rfl rfl (Ev.plain rfl) optN ?_ | refine ARun.nilFn rfl rfl rfl rfl (Ev.plain rfl) optN ?_ | refine ARun.nilBox rfl rfl rfl rfl (Ev.plain rfl) (atO hi) optN ?_
    refine ARun.fieldBox (fo := 1) rfl rfl rfl rfl Tryd.underlying69 rfl rfl sz3 (by decide) (Ev.plain rfl) (atO hi) optN ?_
    refine ARun.loadBox rfl rfl rfl rfl Tryd.underlying3 rfl (Ev.plain rfl) (atO hi) rfl optN ?_
    refine ARun.move (.inl rfl) rfl rfl rfl (Ev.plain rfl) optN ?_
    first | refine ARun.nilPe rfl rfl rfl rfl (Ev.plain rfl) optN ?_ | refine ARun.nilFn rfl rfl rfl rfl (Ev.plain rfl) optN ?_ | refine ARun.nilBox rfl rfl rfl rfl (Ev.plain rfl) (atO hi) optN ?_
    refine ARun.fieldBox (fo := 0) rfl rfl rfl rfl Tryd.underlying69 rfl rfl sz9 (by decide) (Ev.plain rfl) (atO hi) optN ?_
    refine ARun.loadBox rfl rfl rfl rfl Tryd.underlying9 rfl (Ev.plain rfl) (atO hi) rfl optN ?_
    refine ARun.lenStr rfl rfl rfl rfl Tryd.underlying9 (Ev.plain rfl) optN ?_
    refine ARun.cmp rfl rfl rfl rfl (Ev.plain rfl) (Ev.plain rfl) rfl optN ?_
    refine ARun.move (.inr rfl) rfl rfl rfl (Ev.plain rfl) optN ?_
    refine ⟨by kernel_rfl, _, _, rfl, hG, ?_⟩
    refine thenA_n ?_
    refine AWP.cond rfl (fun h1 => ?_) (fun h1 => ?_)
    · skip
      simp at h1
      rw [if_pos (by omega)] at hdf
      refine AWP.seq ?_
      refine AWP.region (fun _ => ?_)
      refine ARun.move (.inl rfl) rfl rfl rfl (Ev.plain rfl) optN ?_
      refine ARun.callO hi hG rfl rfl rfl rfl cf39 (Ev.plain rfl) (.cons (Ev.plain rfl) (.cons (Ev.plain rfl) (.cons (Ev.plain rfl) (.cons (Ev.plain rfl) .nil)))) rfl (done_fn r tFlag 0 4 _ _ (atO hi)) (by first | exact noH_aRd _ _ | (simp; done) | (simp [cAV]; done)) optN (fun hG => ?_)
      refine ARun.move (.inr rfl) rfl rfl rfl (Ev.plain rfl) optN ?_
      refine ⟨_, _, rfl, hG, ?_⟩
      refine thenA_n ?_
      refine AWP.ret ?_
      refine blockA_r ?_
      refine thenA_r ?_
      refine endF.toG (congrArg (fun c => H.set i (AO.box c)) (by rw [hdf])) ?_
      refine endF.one (.inr rfl) rfl (.tmp rfl) ?_ (by rw [List.length_set]; exact hN)
      rw [hdf]; rfl
    · skip
      simp at h1
      rw [if_neg (by omega)] at hdf
      refine AWP.seq ?_
      refine AWP.draw mixed (by kernel_rfl) (fun _ => ?_)
      refine ARun.move (.inl rfl) rfl rfl rfl (Ev.plain rfl) optN ?_
      first | refine ARun.nilPe rfl rfl rfl rfl (Ev.plain rfl) optN ?_ | refine ARun.nilFn rfl rfl rfl rfl (Ev.plain rfl) optN ?_ | refine ARun.nilBox rfl rfl rfl rfl (Ev.plain rfl) (atO hi) optN ?_
      refine ARun.fieldBox (fo := 0) rfl rfl rfl rfl Tryd.underlying69 rfl rfl sz9 (by decide) (Ev.plain rfl) (atO hi) optN ?_
      refine ARun.loadBox rfl rfl rfl rfl Tryd.underlying9 rfl (Ev.plain rfl) (atO hi) rfl optN ?_
      refine ARun.move (.inl rfl) rfl rfl rfl (Ev.plain rfl) optN ?_
      first | refine ARun.nilPe rfl rfl rfl rfl (Ev.plain rfl) optN ?_ | refine ARun.nilFn rfl rfl rfl rfl (Ev.plain rfl) optN ?_ | refine ARun.nilBox rfl rfl rfl rfl (Ev.plain rfl) (atO hi) optN ?_
      refine ARun.fieldBox (fo := 1) rfl rfl rfl rfl Tryd.underlying69 rfl rfl sz3 (by decide) (Ev.plain rfl) (atO hi) optN ?_
      refine ARun.loadBox rfl rfl rfl rfl Tryd.underlying3 rfl (Ev.plain rfl) (atO hi) rfl optN ?_
      first | refine ARun.indexStr rfl rfl rfl rfl Tryd.underlying9 (Ev.plain rfl) (Ev.plain rfl) (fun _ => rfl) (fun hg => (by (try simp at hg); omega)) optN ?_ | refine ARun.indexStr rfl rfl rfl rfl Tryd.underlying9 (Ev.plain rfl) (Ev.plain rfl) (fun hg => ofNonneg (by (try simp at hg); omega)) (fun hg => (by (try simp at hg); omega)) optN ?_
      refine ARun.cmp rfl rfl rfl rfl (Ev.plain rfl) (Ev.plain rfl) rfl optN ?_
      refine ARun.move (.inr rfl) rfl rfl rfl (Ev.plain rfl) optN ?_
      refine ⟨by kernel_rfl, _, _, rfl, hG, ?_⟩
      refine thenA_n ?_
      refine AWP.cond rfl (fun h2 => ?_) (fun h2 => ?_)
      · skip
        rw [byteAt_bl] at h2; simp only [decide_eq_true_eq, decide_eq_false_iff_not] at h2
        rw [if_pos (by omega)] at hdf
        refine AWP.seq ?_
        refine AWP.region (fun _ => ?_)
        refine ARun.move (.inl rfl) rfl rfl rfl (Ev.plain rfl) optN ?_
        refine ARun.callO hi hG rfl rfl rfl rfl cf39 (Ev.plain rfl) (.cons (Ev.plain rfl) (.cons (Ev.plain rfl) (.cons (Ev.plain rfl) (.cons (Ev.plain rfl) .nil)))) rfl (done_fn r tFlag 0 5 _ _ (atO hi)) (by first | exact noH_aRd _ _ | (simp; done) | (simp [cAV]; done)) optN (fun hG => ?_)
        refine ARun.move (.inr rfl) rfl rfl rfl (Ev.plain rfl) optN ?_
        refine ⟨_, _, rfl, hG, ?_⟩
        refine thenA_n ?_
        refine AWP.ret ?_
        refine blockA_r ?_
        refine thenA_r ?_
        refine endF.toG (congrArg (fun c => H.set i (AO.box c)) (by rw [hdf])) ?_
        refine endF.one (.inr rfl) rfl (.tmp rfl) ?_ (by rw [List.length_set]; exact hN)
        rw [hdf]; rfl
      · skip
        rw [byteAt_bl] at h2; simp only [decide_eq_true_eq, decide_eq_false_iff_not] at h2
        rw [if_neg (by omega)] at hdf
        refine AWP.skip ?_
        refine blockA_n ?_
        refine thenA_n ?_
        refine AWP.seq ?_
        refine AWP.draw mixed (by kernel_rfl) (fun _ => ?_)
        refine ARun.move (.inl rfl) rfl rfl rfl (Ev.plain rfl) optN ?_
        refine ARun.move (.inl rfl) rfl rfl rfl (Ev.plain rfl) optN ?_
        first | refine ARun.nilPe rfl rfl rfl rfl (Ev.plain rfl) optN ?_ | refine ARun.nilFn rfl rfl rfl rfl (Ev.plain rfl) optN ?_ | refine ARun.nilBox rfl rfl rfl rfl (Ev.plain rfl) (atO hi) optN ?_
        refine ARun.fieldBox (fo := 1) rfl rfl rfl rfl Tryd.underlying69 rfl rfl sz3 (by decide) (Ev.plain rfl) (atO hi) optN ?_
        refine ARun.loadBox rfl rfl rfl rfl Tryd.underlying3 rfl (Ev.plain rfl) (atO hi) rfl optN ?_
        first | refine ARun.arith rfl rfl rfl rfl (Ev.plain rfl) (Ev.plain rfl) rfl (fun hg => i64w (by (try simp at hg); omega)) optN ?_ | refine ARun.arith rfl rfl rfl rfl (Ev.plain rfl) (Ev.plain rfl) rfl (fun _ => rfl) optN ?_
        refine ARun.callO hi hG rfl rfl rfl rfl cf39 (Ev.plain rfl) (.cons (Ev.plain rfl) (.cons (Ev.plain rfl) (.cons (Ev.plain rfl) (.cons (Ev.plain rfl) .nil)))) rfl (flag_done r _ _ (atO hi)) (by first | exact noH_aRd _ _ | (simp; done) | (simp [cAV]; done)) optN (fun hG => ?_)
        refine ARun.move (.inl rfl) rfl rfl rfl (Ev.plain rfl) optN ?_
        refine ARun.move (.inl rfl) rfl rfl rfl (Ev.plain rfl) optS ?_
        first | refine ARun.nilPe rfl rfl rfl rfl (Ev.opt rfl (fun h => h)) optS ?_ | refine ARun.nilFn rfl rfl rfl rfl (Ev.opt rfl (fun h => h)) optS ?_ | refine ARun.nilBox rfl rfl rfl rfl (Ev.opt rfl (fun h => h)) (atO hi) optS ?_
        refine ARun.fieldBox (fo := 0) rfl rfl rfl rfl Tryd.underlying69 rfl rfl sz9 (by decide) (Ev.opt rfl (fun h => h)) (atO hi) optS ?_
        refine ARun.loadBox rfl rfl rfl rfl Tryd.underlying9 rfl (Ev.opt rfl (fun h => h)) (atO hi) rfl optS ?_
        refine ARun.move (.inl rfl) rfl rfl rfl (Ev.plain rfl) optS ?_
        first | refine ARun.nilPe rfl rfl rfl rfl (Ev.opt rfl (fun h => h)) optS ?_ | refine ARun.nilFn rfl rfl rfl rfl (Ev.opt rfl (fun h => h)) optS ?_ | refine ARun.nilBox rfl rfl rfl rfl (Ev.opt rfl (fun h => h)) (atO hi) optS ?_
        refine ARun.fieldBox (fo := 1) rfl rfl rfl rfl Tryd.underlying69 rfl rfl sz3 (by decide) (Ev.opt rfl (fun h => h)) (atO hi) optS ?_
        refine ARun.loadBox rfl rfl rfl rfl Tryd.underlying3 rfl (Ev.opt rfl (fun h => h)) (atO hi) rfl optS ?_
        first | refine ARun.arith rfl rfl rfl rfl (Ev.opt rfl (fun h => h)) (Ev.plain rfl) rfl (fun hg => i64w (by (try simp at hg); omega)) optS ?_ | refine ARun.arith rfl rfl rfl rfl (Ev.opt rfl (fun h => h)) (Ev.plain rfl) rfl (fun _ => rfl) optS ?_
        first | refine ARun.indexStr rfl rfl rfl rfl Tryd.underlying9 (Ev.opt rfl (fun h => h)) (Ev.opt rfl (fun h => h)) (fun _ => rfl) (fun hg => (by (try simp at hg); omega)) optS ?_ | refine ARun.indexStr rfl rfl rfl rfl Tryd.underlying9 (Ev.opt rfl (fun h => h)) (Ev.opt rfl (fun h => h)) (fun hg => ofNonneg (by (try simp at hg); omega)) (fun hg => (by (try simp at hg); omega)) optS ?_
        refine ARun.cmp rfl rfl rfl rfl (Ev.opt rfl (fun h => h)) (Ev.plain rfl) rfl optS ?_
        refine ARun.pick rfl rfl rfl rfl (Ev.plain rfl) (Ev.opt rfl (by first | exact pkT | exact pkT2 | simp +contextual)) (Ev.plain rfl) (andB _ _) optN ?_
        refine ARun.move (.inr rfl) rfl rfl rfl (Ev.plain rfl) optN ?_
        refine ⟨by kernel_rfl, _, _, rfl, hG, ?_⟩
        refine thenA_n ?_
        refine AWP.ret ?_
        refine endF.toG (congrArg (fun c => H.set i (AO.box c)) (by rw [hdf, moved_neg rfl]; rfl)) ?_
        refine endF.one (.inr rfl) rfl (.tmp rfl) ?_ (by rw [List.length_set]; exact hN)
        rw [hdf]; simp [byteAt_bl]; omega
set_option maxHeartbeats 1000000 in
theorem end_r (r : RdS) (h : r.ok) : FnM Tryd.prog 17 (fun i => [.box i 0]) (aRd r) (.tup []) (aRd (rdEnd r)) := by
  refine FnM.of Tryd.func17 rfl rfl (fun i => by simp) (fun H i m hHm hi hG => ?_)
  have hN : NoH H.length (.tup []) := (by simp [AV.cells, aIn, aOut])
  refine AWP.seq ?_
  refine AWP.draw mixed (by kernel_rfl) (fun _ => ?_)
  refine ARun.move (.inl rfl) rfl rfl rfl (Ev.plain rfl) optN ?_
  refine ARun.callR rfl rfl rfl rfl cf37 (Ev.plain rfl) (.cons (Ev.plain rfl) .nil) rfl (fun hg => FnM.keep (goes_fn r) (atO hi)) optN ?_
  refine ARun.move (.inl rfl) rfl rfl rfl (Ev.plain rfl) optN ?_
  refine ARun.move (.inl rfl) rfl rfl rfl (Ev.plain rfl) optS ?_
  first | refine ARun.nilPe rfl rfl rfl rfl (Ev.opt rfl (fun h => h)) optS ?_ | refine ARun.nilFn rfl rfl rfl rfl (Ev.opt rfl (fun h => h)) optS ?_ | refine ARun.nilBox rfl rfl rfl rfl (Ev.opt rfl (fun h => h)) (atO hi) optS ?_
  refine ARun.fieldBox (fo := 1) rfl rfl rfl rfl Tryd.underlying69 rfl rfl sz3 (by decide) (Ev.opt rfl (fun h => h)) (atO hi) optS ?_
  refine ARun.loadBox rfl rfl rfl rfl Tryd.underlying3 rfl (Ev.opt rfl (fun h => h)) (atO hi) rfl optS ?_
  refine ARun.move (.inl rfl) rfl rfl rfl (Ev.plain rfl) optS ?_
  first | refine ARun.nilPe rfl rfl rfl rfl (Ev.opt rfl (fun h => h)) optS ?_ | refine ARun.nilFn rfl rfl rfl rfl (Ev.opt rfl (fun h => h)) optS ?_ | refine ARun.nilBox rfl rfl rfl rfl (Ev.opt rfl (fun h => h)) (atO hi) optS ?_
  refine ARun.fieldBox (fo := 0) rfl rfl rfl rfl Tryd.underlying69 rfl rfl sz9 (by decide) (Ev.opt rfl (fun h => h)) (atO hi) optS ?_
  refine ARun.loadBox rfl rfl rfl rfl Tryd.underlying9 rfl (Ev.opt rfl (fun h => h)) (atO hi) rfl optS ?_
  refine ARun.lenStr rfl rfl rfl rfl Tryd.underlying9 (Ev.opt rfl (fun h => h)) optS ?_
  refine ARun.cmp rfl rfl rfl rfl (Ev.opt rfl (fun h => h)) (Ev.opt rfl (fun h => h)) rfl optS ?_
  refine ARun.pick rfl rfl rfl rfl (Ev.plain rfl) (Ev.opt rfl (by first | exact pkT | exact pkT2 | simp +contextual)) (Ev.plain rfl) (andB _ _) optN ?_
  refine ⟨by kernel_rfl, _, _, rfl, hG, ?_⟩
  refine thenA_n ?_
  refine AWP.cond rfl (fun h0 => ?_) (fun h0 => ?_)
  · skip
    simp at h0
    refine AWP.region (fun _ => ?_)
    refine ARun.move (.inl rfl) rfl rfl rfl (Ev.plain rfl) optN ?_
    refine ARun.callO hi hG rfl rfl rfl rfl cf39 (Ev.plain rfl) (.cons (Ev.plain rfl) (.cons (Ev.plain rfl) (.cons (Ev.plain rfl) (.cons (Ev.plain rfl) .nil)))) rfl (done_fn r tEnd 0 6 _ _ (atO hi)) (by first | exact noH_aRd _ _ | (simp; done) | (simp [cAV]; done)) optN (fun hG => ?_)
    refine ⟨_, _, rfl, hG, ?_⟩
    refine endF.toG (congrArg (fun c => H.set i (AO.box c)) (by rw [rdEnd, if_pos h0])) ?_
    refine endF.many (.inl rfl) (rs := []) rfl .nil (by simp) ?_ (by rw [List.length_set]; exact hN)
    rfl
  · skip
    simp at h0
    refine AWP.skip ?_
    refine endF.toG (congrArg (fun c => H.set i (AO.box c)) (by rw [rdEnd, if_neg (by omega)])) ?_
    refine endF.many (.inl rfl) (rs := []) rfl .nil (by simp) ?_ (by rw [List.length_set]; exact hN)
    rfl
set_option maxHeartbeats 1000000 in
theorem at_r (r : RdS) : FnM Tryd.prog 20 (fun i => [.box i 0]) (aRd r) (.int .i64 r.at_) (aRd r) := by
  refine FnM.of Tryd.func20 rfl rfl (fun i => by simp) (fun H i m hHm hi hG => ?_)
  have hN : NoH H.length (.int .i64 r.at_) := (by simp [AV.cells, aIn, aOut])
  refine AWP.seq ?_
  refine AWP.region (fun _ => ?_)
  refine ARun.move (.inr rfl) rfl rfl rfl (Ev.plain rfl) optN ?_
  refine ⟨_, _, rfl, hG, ?_⟩
  refine thenA_n ?_
  refine AWP.seq ?_
  refine AWP.seq ?_
  refine AWP.region (fun _ => ?_)
  refine ARun.move (.inl rfl) rfl rfl rfl (Ev.plain rfl) optN ?_
  refine ARun.isNilBox rfl rfl rfl rfl Tryd.underlying27 (Ev.plain rfl) (atO hi) (.inl ⟨rfl, rfl⟩) optN ?_
  refine ⟨_, _, rfl, hG, ?_⟩
  refine thenA_n ?_
  refine AWP.cond rfl (fun h0 => ?_) (fun h0 => ?_)
  · skip
    simp at h0
  · skip
    refine AWP.skip ?_
    refine thenA_n ?_
    refine AWP.seq ?_
    refine AWP.region (fun _ => ?_)
    refine ARun.move (.inl rfl) rfl rfl rfl (Ev.plain rfl) optN ?_
    first | refine ARun.nilPe rfl rfl rfl rfl (Ev.plain rfl) optN ?_ | refine ARun.nilFn rfl rfl rfl rfl (Ev.plain rfl) optN ?_ | refine ARun.nilBox rfl rfl rfl rfl (Ev.plain rfl) (atO hi) optN ?_
    refine ARun.fieldBox (fo := 1) rfl rfl rfl rfl Tryd.underlying69 rfl rfl sz3 (by decide) (Ev.plain rfl) (atO hi) optN ?_
    refine ARun.loadBox rfl rfl rfl rfl Tryd.underlying3 rfl (Ev.plain rfl) (atO hi) rfl optN ?_
    refine ARun.move (.inr rfl) rfl rfl rfl (Ev.plain rfl) optN ?_
    refine ⟨_, _, rfl, hG, ?_⟩
    refine thenA_n ?_
    refine AWP.ret ?_
    refine endF.toG (congrArg (fun c => H.set i (AO.box c)) rfl) ?_
    refine endF.one (.inr rfl) rfl (.tmp rfl) ?_ (by rw [List.length_set]; exact hN)
    rfl
set_option maxHeartbeats 1000000 in
theorem rdone_fn (r : RdS) : FnM Tryd.prog 19 (fun i => [.box i 0]) (aRd r) (aEr (errOf tRead r.p r.e)) (aRd r) := by
  refine FnM.of Tryd.func19 rfl rfl (fun i => by simp) (fun H i m hHm hi hG => ?_)
  have hN : NoH H.length (aEr (errOf tRead r.p r.e)) := (by simp [AV.cells, aIn, aOut])
  refine AWP.seq ?_
  refine AWP.region (fun _ => ?_)
  refine ARun.move (.inr rfl) rfl rfl rfl (Ev.plain rfl) optN ?_
  refine ⟨_, _, rfl, hG, ?_⟩
  refine thenA_n ?_
  refine AWP.seq ?_
  refine AWP.seq ?_
  refine AWP.region (fun _ => ?_)
  refine ARun.move (.inl rfl) rfl rfl rfl (Ev.plain rfl) optN ?_
  refine ARun.isNilBox rfl rfl rfl rfl Tryd.underlying27 (Ev.plain rfl) (atO hi) (.inl ⟨rfl, rfl⟩) optN ?_
  refine ARun.move (.inl rfl) rfl rfl rfl (Ev.plain rfl) optN ?_
  refine ARun.move (.inl rfl) rfl rfl rfl (Ev.plain rfl) optS ?_
  first | refine ARun.nilPe rfl rfl rfl rfl (Ev.opt rfl (fun h => h)) optS ?_ | refine ARun.nilFn rfl rfl rfl rfl (Ev.opt rfl (fun h => h)) optS ?_ | refine ARun.nilBox rfl rfl rfl rfl (Ev.opt rfl (fun h => h)) (atO hi) optS ?_
  refine ARun.fieldBox (fo := 3) rfl rfl rfl rfl Tryd.underlying69 rfl rfl sz4 (by decide) (Ev.opt rfl (fun h => h)) (atO hi) optS ?_
  refine ARun.loadBox rfl rfl rfl rfl Tryd.underlying4 rfl (Ev.opt rfl (fun h => h)) (atO hi) rfl optS ?_
  refine ARun.not rfl rfl rfl rfl (Ev.opt rfl (fun h => h)) optS ?_
  refine ARun.pick rfl rfl rfl rfl (Ev.plain rfl) (Ev.plain rfl) (Ev.opt rfl (by first | exact pkF | exact pkF2 | simp +contextual)) (orB _ _) optN ?_
  refine ⟨_, _, rfl, hG, ?_⟩
  refine thenA_n ?_
  refine AWP.cond rfl (fun h0 => ?_) (fun h0 => ?_)
  · skip
    simp at h0
  · skip
    refine AWP.skip ?_
    refine thenA_n ?_
    refine AWP.seq ?_
    refine AWP.region (fun _ => ?_)
    refine ARun.move (.inl rfl) rfl rfl rfl (Ev.plain rfl) optN ?_
    first | refine ARun.nilPe rfl rfl rfl rfl (Ev.plain rfl) optN ?_ | refine ARun.nilFn rfl rfl rfl rfl (Ev.plain rfl) optN ?_ | refine ARun.nilBox rfl rfl rfl rfl (Ev.plain rfl) (atO hi) optN ?_
    refine ARun.fieldBox (fo := 2) rfl rfl rfl rfl Tryd.underlying69 rfl rfl sz44 (by decide) (Ev.plain rfl) (atO hi) optN ?_
    refine ARun.loadBox rfl rfl rfl rfl Tryd.underlying44 rfl (Ev.plain rfl) (atO hi) rfl optN ?_
    refine ARun.move (.inr rfl) rfl rfl rfl (Ev.plain rfl) optN ?_
    refine ⟨_, _, rfl, hG, ?_⟩
    refine thenA_n ?_
    refine AWP.ret ?_
    refine endF.toG (congrArg (fun c => H.set i (AO.box c)) rfl) ?_
    refine endF.one (.inr rfl) rfl (.tmp rfl) ?_ (by rw [List.length_set]; exact hN)
    rfl
set_option maxHeartbeats 1000000 in
theorem rdone_nil  : FnP Tryd.prog 19 [.raw (.pointer .none)] (aEr (.wr tRead (.no 1))) := by
  refine FnP.of Tryd.func19 rfl rfl (by simp) (by simp [AV.cells, aIn, aOut]) (fun G hG => ?_)
  have hN : NoH G.length (aEr (.wr tRead (.no 1))) := (by simp [AV.cells, aIn, aOut])
  refine AWP.seq ?_
  refine AWP.region (fun _ => ?_)
  refine ARun.move (.inr rfl) rfl rfl rfl (Ev.plain rfl) optN ?_
  refine ⟨_, _, rfl, hG, ?_⟩
  refine thenA_n ?_
  refine AWP.seq ?_
  refine AWP.seq ?_
  refine AWP.region (fun _ => ?_)
  refine ARun.move (.inl rfl) rfl rfl rfl (Ev.plain rfl) optN ?_
  refine ARun.isNilP rfl rfl rfl rfl Tryd.underlying27 (Ev.plain rfl) (fun hg => by first | rfl | exact nilP_aFl _) (.inl ⟨rfl, rfl⟩) optN ?_
  refine ARun.move (.inl rfl) rfl rfl rfl (Ev.plain rfl) optN ?_
  refine ARun.dead (X := .bool false) rfl rfl rfl rfl ?_
  refine ARun.dead (X := .bool false) rfl rfl rfl rfl ?_
  refine ARun.dead (X := .bool false) rfl rfl rfl rfl ?_
  refine ARun.dead (X := .bool false) rfl rfl rfl rfl ?_
  refine ARun.dead (X := .bool false) rfl rfl rfl rfl ?_
  refine ARun.pick rfl rfl rfl rfl (Ev.plain rfl) (Ev.plain rfl) (Ev.opt rfl (by first | exact pkF | exact pkF2 | simp +contextual)) (orB _ _) optN ?_
  refine ⟨_, _, rfl, hG, ?_⟩
  refine thenA_n ?_
  refine AWP.cond rfl (fun h0 => ?_) (fun h0 => ?_)
  · skip
    refine AWP.seq ?_
    refine AWP.region (fun _ => ?_)
    refine ARun.call rfl rfl rfl rfl cf42 (Ev.plain rfl) (.cons (Ev.plain rfl) (.cons (Ev.plain rfl) .nil)) rfl (fun hg => new_fn tRead 1) optN ?_
    refine ARun.move (.inr rfl) rfl rfl rfl (Ev.plain rfl) optN ?_
    refine ⟨_, _, rfl, hG, ?_⟩
    refine thenA_n ?_
    refine AWP.ret ?_
    refine thenA_r ?_
    refine endF.one (.inr rfl) rfl (.tmp rfl) ?_ hN
    rfl
  · skip
    simp at h0
set_option maxHeartbeats 1000000 in
theorem num_nil (most : Int) : FnP Tryd.prog 12 [.raw (.pointer .none), .int .i64 most] (.int .i64 0) := by
  refine FnP.of Tryd.func12 rfl rfl (by simp) (by simp [AV.cells, aIn, aOut]) (fun G hG => ?_)
  have hN : NoH G.length (.int .i64 0) := (by simp [AV.cells, aIn, aOut])
  refine AWP.seq ?_
  refine AWP.region (fun _ => ?_)
  refine ARun.move (.inr rfl) rfl rfl rfl (Ev.plain rfl) optN ?_
  refine ⟨_, _, rfl, hG, ?_⟩
  refine thenA_n ?_
  refine AWP.seq ?_
  refine AWP.seq ?_
  refine AWP.region (fun _ => ?_)
  refine ARun.move (.inl rfl) rfl rfl rfl (Ev.plain rfl) optN ?_
  refine ARun.call rfl rfl rfl rfl cf37 (Ev.plain rfl) (.cons (Ev.plain rfl) .nil) rfl (fun hg => goes_nil) optN ?_
  refine ARun.not rfl rfl rfl rfl (Ev.plain rfl) optN ?_
  refine ⟨_, _, rfl, hG, ?_⟩
  refine thenA_n ?_
  refine AWP.cond rfl (fun h0 => ?_) (fun h0 => ?_)
  · skip
    refine AWP.seq ?_
    refine AWP.region (fun _ => ?_)
    refine ARun.move (.inr rfl) rfl rfl rfl (Ev.plain rfl) optN ?_
    refine ⟨_, _, rfl, hG, ?_⟩
    refine thenA_n ?_
    refine AWP.ret ?_
    refine thenA_r ?_
    refine endF.one (.inr rfl) rfl (.tmp rfl) ?_ hN
    rfl
  · skip
    simp at h0
end Go.Proofs.YtimkioaaljdnoaaDoor
