/- The texts that the law TopDecode rests on, part 3: AmText, CallPlain, CallLaw, Pop, MsgPlain, AmMsS, AmMsB, Flat, AmLaw, AmCl, AmTysB, AmMs, AmMsR, AmMsT, RecPlain, AmTysC, AmRc, ImgPlain, AmTysD. -/
import Derived.Test.YtnlpojjfkgnhhaaGreatDoorTpD2
import Derived.WideShapes
open Go.Proofs.Tryz renaming underlying3 → U3, underlying4 → U4, underlying9 → U9, underlying23 → U23, underlying24 → U24, underlying26 → U26, underlying28 → U28, underlying31 → U31, underlying36 → U36, underlying38 → U38, underlying42 → U42, underlying44 → U44, underlying49 → U49, underlying58 → U58, underlying74 → U74, underlying90 → U90, underlying101 → U101, underlying111 → U111, underlying125 → U125, underlying194 → U194, underlying213 → U213, underlying273 → U273
set_option linter.unusedVariables false
set_option linter.unusedSimpArgs false
set_option maxRecDepth 100000
set_option maxHeartbeats 1000000
namespace Go.Proofs.YtnlpojjfkgnhhaaGreatDoor
open Go.RowKit
open NumP
def aW (w : WrS) : List AV := [.adr 90, .buf 5 (bs w.s), aEr (errOf tWrite w.p w.e)]
def aRd (r : RdS) : List AV := [.str r.s, .int .i64 r.at_, aEr (errOf tRead r.p r.e), .bool true]
def aIn (r : RdS) : AV := .agg [.str r.s, .int .i64 r.at_, .str r.p, .int .i64 r.e]
def aOut (w : WrS) : AV := .agg [.str w.out, .str w.p, .int .i64 w.e]
theorem noH_aW (m : Nat) (w : WrS) : ∀ x, x ∈ aW w → NoH m x := by simp [aW]
theorem noH_aRd (m : Nat) (r : RdS) : ∀ x, x ∈ aRd r → NoH m x := by simp [aRd]
theorem liesW : liesAt Tryz.prog Tryz.prog.depth 90 (3 / Tryz.prog.cellsOf 90) 0 88 1 = true := by kernel_rfl
theorem writeW (w : WrS) (s : ByteArray) (h : w.s.length + s.size ≤ 100000000) : FnM Tryz.prog 50 (fun i => [.box i 0, .str s]) (aW w) (.tup [.int .i64 s.size, .raw .nilIface]) [.adr 90, .buf 5 (bs w.s ++ s), aEr (errOf tWrite w.p w.e)] :=
 bld_write (n := 3) liesW (by decide) (bs w.s) s [aEr (errOf tWrite w.p w.e)] rfl (by rw [bs_size]; omega)
theorem plain_aEr (e : Er) : (aEr e).plainC = true := by cases e <;> rfl
theorem byteAt_bl (s : ByteArray) (j : Nat) : byteAt s j = (((bl s).getD j 0).toNat : Int) := rfl
theorem unrowF_bad (l : List UInt8) (k : Nat) : ∀ (to : Int) (acc : List Int), (unrowF l k to acc).2.2 ≠ 0 → (unrowF l k to acc).1 = [] := by
 induction k with
 | zero => intro to acc h; exact absurd rfl h
 | succ k ih =>
   intro to acc h
   rw [unrow_step] at h ⊢
   split
   · rfl
   rename_i h1; rw [if_neg h1] at h; exact ih _ _ h
theorem unrow_bad {l : List UInt8} {p top : Int} (h : (unrowN l p top).2.2 ≠ 0) : (unrowN l p top).1 = [] := by
 unfold unrowN at h ⊢
 split
 · rfl
 rename_i h1
 rw [if_neg h1] at h
 split
 · rfl
 rename_i h2; rw [if_neg h2] at h; exact unrowF_bad _ _ _ _ h
theorem moved_pos {r : RdS} {p : ByteArray} {to e : Int} (h : e ≠ 0) : r.moved p to e = { r with p := p, e := e } := if_pos h
theorem moved_neg {r : RdS} {p : ByteArray} {to e : Int} (h : e = 0) : r.moved p to e = { r with at_ := to } := if_neg (by simpa using h)
theorem put_w (w : WrS) (p : ByteArray) (u : List UInt8) (s : ByteArray) (hs : s = bs u) (e : Int) (hl : w.s.length + u.length ≤ 10000000) : FnM Tryz.prog 63 (fun i => [.box i 0, .str p, .str s, .int .i64 e]) (aW w) (.tup []) (aW (wrPut w p u e)) := by
 subst hs
 refine FnM.of Tryz.func63 rfl rfl (fun i => by simp) (fun H i m hHm hi hG => ?_)
 have hN : NoH H.length (.tup []) := (by simp [AV.cells, aIn, aOut])
 refine AWP.seq (sr fun _ => ?_)
 refine mv ?_
 refine ARun.isNilBox rfl rfl rfl rfl U111 (ep rfl) (atO hi) (.inl ⟨rfl, rfl⟩) optN ?_
 refine mv ?_
 refine ρh ?_
 first | refine ARun.nilPe rfl rfl rfl rfl (Ev.opt rfl (fun h => h)) optS ?_ | refine ARun.nilFn rfl rfl rfl rfl (Ev.opt rfl (fun h => h)) optS ?_ | refine ARun.nilBox rfl rfl rfl rfl (Ev.opt rfl (fun h => h)) (atO hi) optS ?_
 refine ARun.fieldBox (fo := 2) rfl rfl rfl rfl U90 rfl rfl sz28 (by decide) (Ev.opt rfl (fun h => h)) (atO hi) optS ?_
 refine ARun.loadBox rfl rfl rfl rfl U28 rfl (Ev.opt rfl (fun h => h)) (atO hi) rfl optS ?_
 refine ARun.isNil rfl rfl rfl rfl U28 (Ev.opt rfl (fun h => h)) (fun hg => by first | rfl | exact nilA_aEr _) (.inr ⟨rfl, rfl⟩) optS ?_
 refine ρ3 ?_
 refine ez ?_
 refine ρo (fun h0 => ?_) (fun h0 => ?_)
 · have hw : w.e ≠ 0 := by simpa [errOf_none] using h0
   refine AWP.ret (thenA_r ?_)
   refine endF.toG (congrArg (fun c => H.set i (AO.box c)) (by rw [wrPut, if_pos hw])) ?_
   refine endF.many (.inr rfl) (rs := []) rfl .nil (by simp) ?_ (by rw [List.length_set]; exact hN)
   rfl
 have hw : w.e = 0 := by simpa [errOf_none] using h0
 refine AWP.skip (thenA_n (AWP.seq (sr fun _ => ?_)))
 refine mv ?_
 refine ρ6 ?_
 refine ez ?_
 refine ρo (fun h1 => ?_) (fun h1 => ?_)
 · have he : e ≠ 0 := by simpa using h1
   refine sr fun _ => ?_
   refine mv ?_
   refine mv ?_
   refine mv ?_
   refine ρk cf22 (fun hg => new_fn p e) ?_
   refine ρk cf21 (fun hg => wrap_fn tWrite (Er.new p e)) ?_
   first | refine ρw ?_ | refine ρx ?_ | refine ρz (atO hi) ?_
   refine ρn (fo := 2) U90 sz28 (atO hi) ?_
   refine ARun.storeO1 hi hG rfl rfl rfl sz28 (ep rfl) (ep rfl) (by first | rfl | exact aEr_one _ | exact aFl_one _) (Nat.le_of_ble_eq_true rfl) rfl (by first | exact noH_aW _ _ | (simp; done) | (simp [cAV]; done)) (fun hG => ?_) (hsp := (by simp [aW, plain_aEr]))
   refine ez ?_
   refine AWP.ret (thenA_r ?_)
   refine endF.toG (congrArg (fun c => H.set i (AO.box c)) (by rw [wrPut, if_neg (by omega), if_pos he]; exact congrArg (fun x => [AV.adr _, .buf _ (bs w.s), aEr x]) (errOf_mk tWrite p e))) ?_
   refine endF.many (.inr rfl) (rs := []) rfl .nil (by simp) ?_ (by rw [List.length_set]; exact hN)
   rfl
 have he : e = 0 := by simpa using h1
 refine AWP.skip (thenA_n ?_)
 refine AWP.region (fun _ => ?_)
 refine mv ?_
 first | refine ρw ?_ | refine ρx ?_ | refine ρz (atO hi) ?_
 refine ρn (fo := 0) U90 sz88 (atO hi) ?_
 refine mv ?_
 refine ARun.callO hi hG rfl rfl rfl rfl cf50 (ep rfl) (.cons (ep rfl) (.cons (ep rfl) .nil)) rfl (writeW w (bs u) (by rw [bs_size]; omega) _ _ (atO hi)) (by first | exact noH_aW _ _ | (simp; done) | (simp [cAV]; done)) optN (fun hG => ?_)
 refine ⟨_, _, rfl, hG, ?_⟩
 refine endF.toG (congrArg (fun c => H.set i (AO.box c)) (by rw [wrPut, if_neg (by omega), if_neg (by omega), bs_append]; rfl)) ?_
 refine endF.many (.inl rfl) (rs := []) rfl .nil (by simp) ?_ (by rw [List.length_set]; exact hN)
 rfl
-- numbers
theorem nums_w (w : WrS) (l : List Int) (hll : l.length ≤ 1000) (hl : w.s.length ≤ 1000000) (hf : ∀ x, x ∈ l → -9223372036854775808 ≤ x ∧ x ≤ 9223372036854775807) : FnM Tryz.prog 26 (fun i => [.box i 0, .sl (l.map (AV.int .i64))]) (aW w) (.tup []) (aW (wrNums w l)) := by
 refine FnM.of Tryz.func26 rfl rfl (fun i => by simp) (fun H i m hHm hi hG => ?_)
 have hN : NoH H.length (.tup []) := (by simp [AV.cells, aIn, aOut])
 refine sr fun _ => ?_
 refine mv ?_
 refine ARun.makeFunc rfl rfl rfl rfl (.cons (ep rfl) .nil) .nil optN ?_
 refine mz (sr fun _ => ?_)
 refine mv ?_
 refine ρq U24 ?_
 refine mv ?_
 refine ez ?_
 refine AWP.block ?_
 refine AWP.roundsO (fun k => k ≤ l.length) (fun k => [(1, .sl (l.map (AV.int .i64))), (4, .fn (.func 63) [.box i 0] []), (11, .sl (l.map (AV.int .i64))), (12, .int .i64 ((l.map (AV.int .i64)).length : Int)), (13, .int .i64 (k : Int))]) (fun k => H.set i (.box (aW (wrNums w (l.take k))))) (fun k => []) (fun k => l.length - k) 0 0 (Nat.zero_le _) (by repeat (first | exact .nil | refine .cons rfl ?_)) rfl rfl (fun _ => rfl) (fun _ => ⟨by simp [AV.cells]; omega, by simp⟩) (fun k hI hG => ?_)
 show AWP _ _ _ _ _ [(1, .sl (l.map (AV.int .i64))), (4, .fn (.func 63) [.box i 0] []), (11, .sl (l.map (AV.int .i64))), (12, .int .i64 ((l.map (AV.int .i64)).length : Int)), (13, .int .i64 (k : Int))] (H.set i (.box (aW (wrNums w (l.take k))))) []
 replace hG : GOK _ (H.set i (.box (aW (wrNums w (l.take k))))) := hG
 have hwl := wrNums_len (l.take k) w
 have htl : (l.take k).length ≤ k := by rw [List.length_take]; omega
 refine sr fun _ => ?_
 refine ρ6 ?_
 refine ez ?_
 refine AWP.seq ?_
 refine ρo (fun h0 => ?_) (fun h0 => ?_)
 · try simp [-List.getD_eq_getElem?_getD] at h0
   refine AWP.skip (thenA_n ?_)
   refine AWP.seq (AWP.block (sr fun _ => ?_))
   first | refine ρa U24 sz3 ?_ | refine ρ7 U24 sz3 ?_
   refine ρ2 U3 ?_
   refine mz (sr fun _ => ?_)
   refine mv ?_
   refine ARun.call rfl rfl rfl rfl cf64 (ep rfl) (.cons (ep rfl) .nil) rfl (fun hg => put_fn _ (fit_at hf (by simpa using h0))) optN ?_
   refine mv ?_
   refine ρj ?_
   refine ρj ?_
   refine ma ?_
   refine mz ?_
   refine AWP.region (fun _ => ?_)
   refine mv ?_
   refine mv ?_
   refine mv ?_
   refine ARun.callO hi hG rfl rfl rfl rfl cf63 (ep rfl) (.cons (ep rfl) (.cons (ep rfl) (.cons (ep rfl) .nil))) rfl (put_w (wrNums w (l.take k)) tNum (putN (l.getD k default)).1 _ rfl (putN (l.getD k default)).2 (by have := putN_len (l.getD k default); omega) _ _ (atO hi)) (by first | exact noH_aW _ _ | (simp; done) | (simp [cAV]; done)) optN (fun hG => ?_)
   refine ⟨_, _, rfl, hG, ?_⟩
   refine blockA_n (thenA_n ?_)
   refine AWP.region (fun _ => ?_)
   first | refine ρd ?_ | refine ρg ?_
   refine mv ?_
   refine ⟨_, _, rfl, hG, ?_⟩
   refine thenA_n ⟨k + 1, _, ?_, ?_, ?_, rfl, ?_⟩
   · rw [wrNums_succ w l k (by simpa using h0)]; rfl
   · omega
   · repeat (first | exact .nil | refine .cons rfl ?_)
   omega
 simp at h0
 obtain rfl : k = l.length := by omega
 rw [List.take_length]
 refine AWP.exit ?_
 refine thenA_x ?_
 refine thenA_x ?_
 refine blockA_h ?_
 refine endF.toG (congrArg (fun c => H.set i (AO.box c)) rfl) ?_
 refine endF.many (.inl rfl) (rs := []) rfl .nil (by simp) ?_ (by rw [List.length_set]; exact hN)
 rfl
theorem text_w (w : WrS) (s : ByteArray) (hs : s.size ≤ 1000000) (hl : w.s.length ≤ 1000000) : FnM Tryz.prog 27 (fun i => [.box i 0, .str s]) (aW w) (.tup []) (aW (wrText w s)) := by
 have hpe : (putN (s.size : Int)).2 = 0 := by rw [putN_err, if_pos (by omega)]
 have hpl := putN_len (s.size : Int)
 have hbl := bl_len s
 refine FnM.of Tryz.func27 rfl rfl (fun i => by simp) (fun H i m hHm hi hG => ?_)
 have hN : NoH H.length (.tup []) := (by simp [AV.cells, aIn, aOut])
 refine sr fun _ => ?_
 refine mv ?_
 refine ARun.lenStr rfl rfl rfl rfl U9 (ep rfl) optN ?_
 refine ARun.call rfl rfl rfl rfl cf64 (ep rfl) (.cons (ep rfl) .nil) rfl (fun hg => put_fn s.size (by omega)) optN ?_
 refine mv ?_
 refine ρj ?_
 refine ρj ?_
 refine ma ?_
 refine mz ?_
 refine AWP.region (fun _ => ?_)
 refine mv ?_
 refine mv ?_
 refine mv ?_
 refine ARun.cat rfl rfl rfl rfl (ep rfl) (ep rfl) (fun hg => (by rw [bs_size]; omega)) optN ?_
 refine mv ?_
 refine ARun.callO hi hG rfl rfl rfl rfl cf63 (ep rfl) (.cons (ep rfl) (.cons (ep rfl) (.cons (ep rfl) (.cons (ep rfl) .nil)))) rfl (put_w w tText ((putN s.size).1 ++ bl s) _ (by rw [← bs_append, bs_bl]) (putN s.size).2 (by simp; omega) _ _ (atO hi)) (by first | exact noH_aW _ _ | (simp; done) | (simp [cAV]; done)) optN (fun hG => ?_)
 refine ⟨_, _, rfl, hG, ?_⟩
 refine endF.toG (congrArg (fun c => H.set i (AO.box c)) (by rw [hpe]; rfl)) ?_
 refine endF.many (.inl rfl) (rs := []) rfl .nil (by simp) ?_ (by rw [List.length_set]; exact hN)
 rfl
theorem row_w (w : WrS) (l : List Int) (hll : l.length ≤ 10000) (hl : w.s.length ≤ 1000000) (hf : ∀ x, x ∈ l → -9223372036854775808 ≤ x ∧ x ≤ 9223372036854775807) : FnM Tryz.prog 28 (fun i => [.box i 0, .sl (l.map (AV.int .i64))]) (aW w) (.tup []) (aW (wrRow w l)) := by
 have hrl := rowN_len l
 refine FnM.of Tryz.func28 rfl rfl (fun i => by simp) (fun H i m hHm hi hG => ?_)
 have hN : NoH H.length (.tup []) := (by simp [AV.cells, aIn, aOut])
 refine sr fun _ => ?_
 refine mv ?_
 refine ρf cf65 (fun hg => rowN_fn l hll hf) ?_
 refine mv ?_
 refine ρj ?_
 refine ρj ?_
 refine ma ?_
 refine mz ?_
 refine AWP.region (fun _ => ?_)
 refine mv ?_
 refine mv ?_
 refine mv ?_
 refine ARun.callO hi hG rfl rfl rfl rfl cf63 (ep rfl) (.cons (ep rfl) (.cons (ep rfl) (.cons (ep rfl) (.cons (ep rfl) .nil)))) rfl (put_w w tRow (rowN l).1 _ rfl (rowN l).2 (by omega) _ _ (atO hi)) (by first | exact noH_aW _ _ | (simp; done) | (simp [cAV]; done)) optN (fun hG => ?_)
 refine ⟨_, _, rfl, hG, ?_⟩
 refine endF.toG (congrArg (fun c => H.set i (AO.box c)) rfl) ?_
 refine endF.many (.inl rfl) (rs := []) rfl .nil (by simp) ?_ (by rw [List.length_set]; exact hN)
 rfl
theorem flag_w (w : WrS) (b : Bool) (hl : w.s.length ≤ 1000000) : FnM Tryz.prog 35 (fun i => [.box i 0, .bool b]) (aW w) (.tup []) (aW (wrFlag w b)) := by
 refine FnM.of Tryz.func35 rfl rfl (fun i => by simp) (fun H i m hHm hi hG => ?_)
 have hN : NoH H.length (.tup []) := (by simp [AV.cells, aIn, aOut])
 refine sr fun _ => ?_
 refine mz ?_
 refine AWP.seq (sr fun _ => ?_)
 refine mv ?_
 refine ez ?_
 refine ρo (fun h0 => ?_) (fun h0 => ?_)
 · subst h0
   refine AWP.region (fun _ => ?_)
   refine mz ?_
   refine AWP.region (fun _ => ?_)
   refine mv ?_
   refine mv ?_
   refine ARun.callO hi hG rfl rfl rfl rfl cf63 (ep rfl) (.cons (ep rfl) (.cons (ep rfl) (.cons (ep rfl) (.cons (ep rfl) .nil)))) rfl (put_w w tFlag (bl (flagB true)) _ (bs_bl (flagB true)).symm 0 (by show _ + 1 ≤ _; omega) _ _ (atO hi)) (by first | exact noH_aW _ _ | (simp; done) | (simp [cAV]; done)) optN (fun hG => ?_)
   refine ⟨_, _, rfl, hG, ?_⟩
   refine endF.toG (congrArg (fun c => H.set i (AO.box c)) rfl) ?_
   refine endF.many (.inl rfl) (rs := []) rfl .nil (by simp) ?_ (by rw [List.length_set]; exact hN)
   rfl
 subst h0
 refine AWP.skip (thenA_n ?_)
 refine AWP.region (fun _ => ?_)
 refine mv ?_
 refine mv ?_
 refine ARun.callO hi hG rfl rfl rfl rfl cf63 (ep rfl) (.cons (ep rfl) (.cons (ep rfl) (.cons (ep rfl) (.cons (ep rfl) .nil)))) rfl (put_w w tFlag (bl (flagB false)) _ (bs_bl (flagB false)).symm 0 (by show _ + 1 ≤ _; omega) _ _ (atO hi)) (by first | exact noH_aW _ _ | (simp; done) | (simp [cAV]; done)) optN (fun hG => ?_)
 refine ⟨_, _, rfl, hG, ?_⟩
 refine endF.toG (congrArg (fun c => H.set i (AO.box c)) rfl) ?_
 refine endF.many (.inl rfl) (rs := []) rfl .nil (by simp) ?_ (by rw [List.length_set]; exact hN)
 rfl
theorem done_ok (w : WrS) (h : w.e = 0) : FnK Tryz.prog 29 (fun i => [.box i 0]) (aW w) (.tup [.str w.out, .raw .nilIface]) := by
 refine FnK.of Tryz.func29 rfl rfl (fun i => by simp) (fun H i m hHm hi hG => ?_)
 have hN : NoH H.length (.tup [.str w.out, .raw .nilIface]) := (by simp [AV.cells, aIn, aOut])
 refine sr fun _ => ?_
 refine ma ?_
 refine mz ?_
 refine AWP.seq (sr fun _ => ?_)
 refine mv ?_
 refine ARun.isNilBox rfl rfl rfl rfl U111 (ep rfl) (atO hi) (.inl ⟨rfl, rfl⟩) optN ?_
 refine ez ?_
 refine ρo (fun h0 => ?_) (fun h0 => ?_)
 · simp at h0
 refine AWP.skip (thenA_n (AWP.seq (sr fun _ => ?_)))
 refine mv ?_
 first | refine ρw ?_ | refine ρx ?_ | refine ρz (atO hi) ?_
 refine ρn (fo := 2) U90 sz28 (atO hi) ?_
 refine ρA U28 (atO hi) ?_
 refine ρr U28 ?_
 refine ez ?_
 refine ρo (fun h1 => ?_) (fun h1 => ?_)
 · simp [errOf_none, h] at h1
 refine AWP.skip (thenA_n (sr fun _ => ?_))
 refine mv ?_
 first | refine ρw ?_ | refine ρx ?_ | refine ρz (atO hi) ?_
 refine ρn (fo := 0) U90 sz88 (atO hi) ?_
 refine ARun.callK hi hG rfl rfl rfl rfl cf51 (ep rfl) (.cons (ep rfl) .nil) rfl (bld_string (T := 90) (n := 3) (bs w.s) [aEr (errOf tWrite w.p w.e)] _ _ (atO hi)) optN (fun hG => ?_)
 refine ma ?_
 refine mz ?_
 refine AWP.ret ?_
 refine endF.many (.inr rfl) (rs := [.tmp 2, .tmp 3]) rfl (.cons (.tmp rfl) (.cons (.tmp rfl) .nil)) (by simp) ?_ (by rw [List.length_set]; exact hN)
 rw [WrS.out, if_pos h]; rfl
theorem done_bad (w : WrS) (h : w.e ≠ 0) : FnM Tryz.prog 29 (fun i => [.box i 0]) (aW w) (.tup [.str w.out, aEr (errOf tWrite w.p w.e)]) (aW w) := by
 refine FnM.of Tryz.func29 rfl rfl (fun i => by simp) (fun H i m hHm hi hG => ?_)
 have hN : NoH H.length (.tup [.str w.out, aEr (errOf tWrite w.p w.e)]) := (by simp [AV.cells, aIn, aOut])
 refine sr fun _ => ?_
 refine ma ?_
 refine mz ?_
 refine AWP.seq (sr fun _ => ?_)
 refine mv ?_
 refine ARun.isNilBox rfl rfl rfl rfl U111 (ep rfl) (atO hi) (.inl ⟨rfl, rfl⟩) optN ?_
 refine ez ?_
 refine ρo (fun h0 => ?_) (fun h0 => ?_)
 · simp at h0
 refine AWP.skip (thenA_n (AWP.seq (sr fun _ => ?_)))
 refine mv ?_
 first | refine ρw ?_ | refine ρx ?_ | refine ρz (atO hi) ?_
 refine ρn (fo := 2) U90 sz28 (atO hi) ?_
 refine ρA U28 (atO hi) ?_
 refine ρr U28 ?_
 refine ez ?_
 refine ρo (fun h1 => ?_) (fun h1 => ?_)
 · refine AWP.seq ?_
   refine AWP.draw mixed (by kernel_rfl) (fun _ => ?_)
   refine mv ?_
   first | refine ρw ?_ | refine ρx ?_ | refine ρz (atO hi) ?_
   refine ρn (fo := 2) U90 sz28 (atO hi) ?_
   refine ρA U28 (atO hi) ?_
   refine ma ?_
   refine ma ?_
   refine ⟨by kernel_rfl, _, _, rfl, hG, ?_⟩
   refine thenA_n (AWP.ret (thenA_r ?_))
   refine endF.toG (congrArg (fun c => H.set i (AO.box c)) rfl) ?_
   refine endF.many (.inr rfl) (rs := [.tmp 2, .tmp 3]) rfl (.cons (.tmp rfl) (.cons (.tmp rfl) .nil)) (by simp) ?_ (by rw [List.length_set]; exact hN)
   rw [WrS.out, if_neg h]; rfl
 simp [errOf_none, h] at h1
theorem done_w (w : WrS) : FnK Tryz.prog 29 (fun i => [.box i 0]) (aW w) (.tup [.str w.out, aEr (errOf tWrite w.p w.e)]) := by
 by_cases h : w.e = 0
 · rw [h, errOf_zero]; exact done_ok w h
 exact (done_bad w h).kill (by simp)
theorem newr_fn (s : ByteArray) : FnNewB Tryz.prog 18 [.str s] (fun i => .box i 0) (aRd (RdS.new s)) := by
 refine FnNewB.of Tryz.func18 rfl rfl (by simp) (fun G hG => ?_)
 refine sr fun _ => ?_
 refine mz (sr fun _ => ?_)
 refine mv ?_
 refine ARun.build rfl rfl rfl rfl so125 (.cons (ep rfl) (.cons (ep rfl) .nil)) rfl rfl optN ?_
 refine ARun.box (j := 0) hG rfl rfl rfl rfl rfl (ep rfl) rfl rfl optN ?_
 refine mz ?_
 refine AWP.ret ?_
 refine endN.one (.inr rfl) rfl (.tmp rfl) ?_ (by first | exact noH_aRd _ _ | (simp; done)) (by first | exact noH_aRd _ _ | (simp; done))
 rfl
theorem goes_fn (r : RdS) : FnM Tryz.prog 66 (fun i => [.box i 0]) (aRd r) (.bool (decide (r.e = 0))) (aRd r) := by
 refine FnM.of Tryz.func66 rfl rfl (fun i => by simp) (fun H i m hHm hi hG => ?_)
 have hN : NoH H.length (.bool (decide (r.e = 0))) := (by simp [AV.cells, aIn, aOut])
 refine sr fun _ => ?_
 refine mz (sr fun _ => ?_)
 refine ρp (j := 0) zv127 ?_
 refine ez (sr fun _ => ?_)
 refine mv ?_
 refine ARun.isNilBox rfl rfl rfl rfl U74 (ep rfl) (atO hi) (.inr ⟨rfl, rfl⟩) optN ?_
 refine mv ?_
 refine ρh ?_
 first | refine ARun.nilPe rfl rfl rfl rfl (Ev.opt rfl (fun h => h)) optS ?_ | refine ARun.nilFn rfl rfl rfl rfl (Ev.opt rfl (fun h => h)) optS ?_ | refine ARun.nilBox rfl rfl rfl rfl (Ev.opt rfl (fun h => h)) (atO hi) optS ?_
 refine ARun.fieldBox (fo := 3) rfl rfl rfl rfl U125 rfl rfl sz4 (by decide) (Ev.opt rfl (fun h => h)) (atO hi) optS ?_
 refine ARun.loadBox rfl rfl rfl rfl U4 rfl (Ev.opt rfl (fun h => h)) (atO hi) rfl optS ?_
 refine ρ1 ?_
 refine mv ?_
 refine ρh ?_
 first | refine ARun.nilPe rfl rfl rfl rfl (Ev.opt rfl (fun h => h)) optS ?_ | refine ARun.nilFn rfl rfl rfl rfl (Ev.opt rfl (fun h => h)) optS ?_ | refine ARun.nilBox rfl rfl rfl rfl (Ev.opt rfl (fun h => h)) (atO hi) optS ?_
 refine ARun.fieldBox (fo := 2) rfl rfl rfl rfl U125 rfl rfl sz28 (by decide) (Ev.opt rfl (fun h => h)) (atO hi) optS ?_
 refine ARun.loadBox rfl rfl rfl rfl U28 rfl (Ev.opt rfl (fun h => h)) (atO hi) rfl optS ?_
 refine ARun.iface rfl rfl rfl rfl (by kernel_rfl) (ep rfl) optS ?_
 refine ARun.callSetG (j := 0) hG rfl rfl rfl rfl cf24 (ep rfl) (.cons (Ev.opt rfl (fun h => h)) (.cons (Ev.opt rfl (fun h => h)) .nil)) rfl (fun hg => As_F (errOf tRead r.p r.e) _ _ ((hG.at _ _).trans rfl)) (fun hg => by simp at hg) rfl optS ?_
 refine ARun.not rfl rfl rfl rfl (Ev.opt rfl (fun h => h)) optS ?_
 refine ρ1 ?_
 refine mz ?_
 refine AWP.ret ?_
 refine endF.toG (congrArg (fun c => H.set i (AO.box c)) rfl) ?_
 refine ρC ?_ (hn := by rw [List.length_set]; exact hN)
 simp [errOf_isWr]
theorem done_fn (r : RdS) (p : ByteArray) (to e : Int) : FnM Tryz.prog 68 (fun i => [.box i 0, .str p, .int .i64 to, .int .i64 e]) (aRd r) (.bool (decide (e = 0))) (aRd (r.moved p to e)) := by
 refine FnM.of Tryz.func68 rfl rfl (fun i => by simp) (fun H i m hHm hi hG => ?_)
 have hN : NoH H.length (.bool (decide (e = 0))) := (by simp [AV.cells, aIn, aOut])
 refine sr fun _ => ?_
 refine mz ?_
 refine AWP.seq (sr fun _ => ?_)
 refine mv ?_
 refine ρ6 ?_
 refine ez ?_
 refine ρo (fun h0 => ?_) (fun h0 => ?_)
 · have he : e ≠ 0 := by simpa using h0
   refine sr fun _ => ?_
   refine mv ?_
   refine mv ?_
   refine mv ?_
   refine ρk cf22 (fun hg => new_fn p e) ?_
   refine ρk cf21 (fun hg => wrap_fn tRead (Er.new p e)) ?_
   first | refine ρw ?_ | refine ρx ?_ | refine ρz (atO hi) ?_
   refine ρn (fo := 2) U125 sz28 (atO hi) ?_
   refine ARun.storeO1 hi hG rfl rfl rfl sz28 (ep rfl) (ep rfl) (by first | rfl | exact aEr_one _ | exact aFl_one _) (Nat.le_of_ble_eq_true rfl) rfl (by first | exact noH_aRd _ _ | (simp; done) | (simp [cAV]; done)) (fun hG => ?_) (hsp := (by first | rfl | simp [aRd, plain_aEr]))
   refine ez (sr fun _ => ?_)
   refine mz ?_
   refine AWP.ret (thenA_r ?_)
   refine endF.toG (congrArg (fun c => H.set i (AO.box c)) (by rw [moved_pos he]; exact congrArg (fun x => [AV.str r.s, .int .i64 r.at_, aEr x, .bool true]) (errOf_mk tRead p e))) ?_
   refine ρC ?_ (hn := by rw [List.length_set]; exact hN)
   simp [he]; rfl
 have he : e = 0 := by simpa using h0
 refine AWP.skip (thenA_n (sr fun _ => ?_))
 refine mv ?_
 refine mv ?_
 first | refine ρw ?_ | refine ρx ?_ | refine ρz (atO hi) ?_
 refine ρn (fo := 1) U125 sz3 (atO hi) ?_
 refine ARun.storeO1 hi hG rfl rfl rfl sz3 (ep rfl) (ep rfl) (by first | rfl | exact aEr_one _ | exact aFl_one _) (Nat.le_of_ble_eq_true rfl) rfl (by first | exact noH_aRd _ _ | (simp; done) | (simp [cAV]; done)) (fun hG => ?_) (hsp := (by first | rfl | simp [aRd, plain_aEr]))
 refine ez (sr fun _ => ?_)
 refine mz ?_
 refine AWP.ret ?_
 refine endF.toG (congrArg (fun c => H.set i (AO.box c)) (by rw [moved_neg he]; rfl)) ?_
 refine ρC ?_ (hn := by rw [List.length_set]; exact hN)
 simp [he]; rfl
theorem num_r (r : RdS) (most : Int) (h : r.ok) : FnM Tryz.prog 30 (fun i => [.box i 0, .int .i64 most]) (aRd r) (.int .i64 (rdNum r most).2) (aRd (rdNum r most).1) := by
 refine FnM.of Tryz.func30 rfl rfl (fun i => by simp) (fun H i m hHm hi hG => ?_)
 have hN : NoH H.length (.int .i64 (rdNum r most).2) := (by simp [AV.cells, aIn, aOut])
 refine sr fun _ => ?_
 refine mz ?_
 refine AWP.seq (sr fun _ => ?_)
 refine mv ?_
 refine ARun.callR rfl rfl rfl rfl cf66 (ep rfl) (.cons (ep rfl) .nil) rfl (fun hg => FnM.keep (goes_fn r) (atO hi)) optN ?_
 refine ARun.not rfl rfl rfl rfl (ep rfl) optN ?_
 refine ez ?_
 refine ρo (fun h0 => ?_) (fun h0 => ?_)
 · have he : r.e ≠ 0 := by simpa using h0
   refine sr fun _ => ?_
   refine mz ?_
   refine AWP.ret (thenA_r ?_)
   refine endF.toG (congrArg (fun c => H.set i (AO.box c)) (by rw [rdNum, if_pos he])) ?_
   refine ρC ?_ (hn := by rw [List.length_set]; exact hN)
   rw [rdNum, if_pos he]; rfl
 have he : r.e = 0 := by simpa using h0
 have hde : rdNum r most = (r.moved tNum (getN (bl r.s) r.at_).2.1 (numE r most), if numE r most ≠ 0 then 0 else (getN (bl r.s) r.at_).1) := by rw [rdNum, if_neg (by omega)]
 refine AWP.skip (thenA_n (AWP.seq ?_))
 refine AWP.draw mixed (by kernel_rfl) (fun _ => ?_)
 refine mv ?_
 first | refine ρw ?_ | refine ρx ?_ | refine ρz (atO hi) ?_
 refine ρn (fo := 0) U125 sz9 (atO hi) ?_
 refine ρA U9 (atO hi) ?_
 refine mv ?_
 first | refine ρw ?_ | refine ρx ?_ | refine ρz (atO hi) ?_
 refine ρn (fo := 1) U125 sz3 (atO hi) ?_
 refine ρA U3 (atO hi) ?_
 refine ρk cf67 (fun hg => get_fn r.s r.at_ h.2.2) ?_
 refine mv ?_
 refine ρj ?_
 refine ρj ?_
 refine ρj ?_
 refine ma ?_
 refine ma ?_
 refine ma ?_
 refine ⟨by kernel_rfl, _, _, rfl, hG, ?_⟩
 refine thenA_n (AWP.seq ?_)
 refine sr fun _ => ?_
 refine mv ?_
 refine ρ6 ?_
 refine mv ?_
 refine ρh ?_
 refine ρh ?_
 refine ρm ?_
 refine ρ1 ?_
 refine ez ?_
 refine ρo (fun h1 => ?_) (fun h1 => ?_)
 · simp at h1
   have hne : numE r most = 3 := by rw [numE, if_pos (by omega)]
   rw [hne] at hde
   refine AWP.region (fun _ => ?_)
   refine mz ?_
   refine AWP.seq (sr fun _ => ?_)
   refine mv ?_
   refine mv ?_
   refine mv ?_
   refine ARun.callO hi hG rfl rfl rfl rfl cf68 (ep rfl) (.cons (ep rfl) (.cons (ep rfl) (.cons (ep rfl) (.cons (ep rfl) .nil)))) rfl (done_fn r tNum (getN (bl r.s) r.at_).2.1 3 _ _ (atO hi)) (by first | exact noH_aRd _ _ | (simp; done) | (simp [cAV]; done)) optN (fun hG => ?_)
   refine ARun.not rfl rfl rfl rfl (ep rfl) optN ?_
   refine ez ?_
   refine ρo (fun h2 => ?_) (fun h2 => ?_)
   · refine sr fun _ => ?_
     refine mz ?_
     refine AWP.ret (thenA_r ?_)
     refine endF.toG (congrArg (fun c => H.set i (AO.box c)) (by rw [hde])) ?_
     refine ρC ?_ (hn := by rw [List.length_set]; exact hN)
     rw [hde]; rfl
   simp at h2
 have h1' : ¬ ((getN (bl r.s) r.at_).2.2 = 0 ∧ (getN (bl r.s) r.at_).1 > most) := by simp at h1; omega
 have hne : numE r most = (getN (bl r.s) r.at_).2.2 := by rw [numE, if_neg h1']
 rw [hne] at hde
 refine AWP.skip (thenA_n (AWP.seq (sr fun _ => ?_)))
 refine mv ?_
 refine mv ?_
 refine mv ?_
 refine ARun.callO hi hG rfl rfl rfl rfl cf68 (ep rfl) (.cons (ep rfl) (.cons (ep rfl) (.cons (ep rfl) (.cons (ep rfl) .nil)))) rfl (done_fn r tNum (getN (bl r.s) r.at_).2.1 (getN (bl r.s) r.at_).2.2 _ _ (atO hi)) (by first | exact noH_aRd _ _ | (simp; done) | (simp [cAV]; done)) optN (fun hG => ?_)
 refine ARun.not rfl rfl rfl rfl (ep rfl) optN ?_
 refine ez ?_
 refine ρo (fun h3 => ?_) (fun h3 => ?_)
 · simp at h3
   refine sr fun _ => ?_
   refine mz ?_
   refine AWP.ret (thenA_r ?_)
   refine endF.toG (congrArg (fun c => H.set i (AO.box c)) (by rw [hde])) ?_
   refine ρC ?_ (hn := by rw [List.length_set]; exact hN)
   rw [hde, if_pos h3]; rfl
 simp at h3
 refine AWP.skip (thenA_n (sr fun _ => ?_))
 refine mv ?_
 refine mz ?_
 refine AWP.ret ?_
 refine endF.toG (congrArg (fun c => H.set i (AO.box c)) (by rw [hde])) ?_
 refine ρC ?_ (hn := by rw [List.length_set]; exact hN)
 rw [hde, if_neg (by omega)]
theorem text_r (r : RdS) (most : Int) (h : r.ok) : FnM Tryz.prog 31 (fun i => [.box i 0, .int .i64 most]) (aRd r) (.str (rdText r most).2) (aRd (rdText r most).1) := by
 have hbd := getN_bd (bl r.s) r.at_ (by rw [bl_len]; exact h.2.2)
 rw [bl_len] at hbd
 have hsz := h.2.2
 refine FnM.of Tryz.func31 rfl rfl (fun i => by simp) (fun H i m hHm hi hG => ?_)
 have hN : NoH H.length (.str (rdText r most).2) := (by simp [AV.cells, aIn, aOut])
 refine sr fun _ => ?_
 refine mz ?_
 refine AWP.seq (sr fun _ => ?_)
 refine mv ?_
 refine ARun.callR rfl rfl rfl rfl cf66 (ep rfl) (.cons (ep rfl) .nil) rfl (fun hg => FnM.keep (goes_fn r) (atO hi)) optN ?_
 refine ARun.not rfl rfl rfl rfl (ep rfl) optN ?_
 refine ez ?_
 refine ρo (fun h0 => ?_) (fun h0 => ?_)
 · have he : r.e ≠ 0 := by simpa using h0
   refine sr fun _ => ?_
   refine mz ?_
   refine AWP.ret (thenA_r ?_)
   refine endF.toG (congrArg (fun c => H.set i (AO.box c)) (by rw [rdText, if_pos he])) ?_
   refine ρC ?_ (hn := by rw [List.length_set]; exact hN)
   rw [rdText, if_pos he]; rfl
 have he : r.e = 0 := by simpa using h0
 have hde : rdText r most = (r.moved tText ((getN (bl r.s) r.at_).2.1 + (getN (bl r.s) r.at_).1) (textE r most), if textE r most ≠ 0 then ⟨#[]⟩ else r.s.extract (getN (bl r.s) r.at_).2.1.toNat ((getN (bl r.s) r.at_).2.1 + (getN (bl r.s) r.at_).1).toNat) := by rw [rdText, if_neg (by omega)]
 have hdf : textE r most = if (getN (bl r.s) r.at_).2.2 ≠ 0 then (getN (bl r.s) r.at_).2.2 else if (getN (bl r.s) r.at_).1 > most then 3 else if (getN (bl r.s) r.at_).1 > (r.s.size : Int) - (getN (bl r.s) r.at_).2.1 then 4 else 0 := rfl
 refine AWP.skip (thenA_n (AWP.seq ?_))
 refine AWP.draw mixed (by kernel_rfl) (fun _ => ?_)
 refine mv ?_
 first | refine ρw ?_ | refine ρx ?_ | refine ρz (atO hi) ?_
 refine ρn (fo := 0) U125 sz9 (atO hi) ?_
 refine ρA U9 (atO hi) ?_
 refine mv ?_
 first | refine ρw ?_ | refine ρx ?_ | refine ρz (atO hi) ?_
 refine ρn (fo := 1) U125 sz3 (atO hi) ?_
 refine ρA U3 (atO hi) ?_
 refine ρk cf67 (fun hg => get_fn r.s r.at_ h.2.2) ?_
 refine mv ?_
 refine ρj ?_
 refine ρj ?_
 refine ρj ?_
 refine ma ?_
 refine ma ?_
 refine ma ?_
 refine ⟨by kernel_rfl, _, _, rfl, hG, ?_⟩
 refine thenA_n (AWP.seq (AWP.block ?_))
 refine sr fun _ => ?_
 refine mv ?_
 refine ρ6 ?_
 refine mz ?_
 refine ρo (fun h1 => ?_) (fun h1 => ?_)
 · simp at h1
   rw [if_pos h1] at hdf
   refine AWP.skip (blockA_n ?_)
   refine thenA_n (AWP.seq ?_)
   refine sr fun _ => ?_
   refine mv ?_
   refine mv ?_
   refine mv ?_
   first | refine ρd ?_ | refine ρg ?_
   refine mv ?_
   refine ARun.callO hi hG rfl rfl rfl rfl cf68 (ep rfl) (.cons (ep rfl) (.cons (ep rfl) (.cons (ep rfl) (.cons (ep rfl) .nil)))) rfl (done_fn r tText _ (getN (bl r.s) r.at_).2.2 _ _ (atO hi)) (by first | exact noH_aRd _ _ | (simp; done) | (simp [cAV]; done)) optN (fun hG => ?_)
   refine ARun.not rfl rfl rfl rfl (ep rfl) optN ?_
   refine ez ?_
   refine ρo (fun h2 => ?_) (fun h2 => ?_)
   · simp at h2
     refine sr fun _ => ?_
     refine mz ?_
     refine AWP.ret (thenA_r ?_)
     refine endF.toG (congrArg (fun c => H.set i (AO.box c)) (by rw [hde, hdf]; dsimp only; rw [moved_pos h1, moved_pos h1])) ?_
     refine ρC ?_ (hn := by rw [List.length_set]; exact hN)
     rw [hde, if_pos (by omega)]; rfl
   simp at h2; exact absurd h2 h1
 simp at h1
 rw [if_neg (by omega)] at hdf
 refine sr fun _ => ?_
 refine mv ?_
 refine mv ?_
 refine ρ6 ?_
 refine mz ?_
 refine ρo (fun h3 => ?_) (fun h3 => ?_)
 · simp at h3
   rw [if_pos h3] at hdf
   refine AWP.region (fun _ => ?_)
   refine ma ?_
   refine ⟨_, _, rfl, hG, ?_⟩
   refine blockA_n (thenA_n (AWP.seq ?_))
   refine sr fun _ => ?_
   refine mv ?_
   refine mv ?_
   refine mv ?_
   first | refine ρd ?_ | refine ρg ?_
   refine mv ?_
   refine ARun.callO hi hG rfl rfl rfl rfl cf68 (ep rfl) (.cons (ep rfl) (.cons (ep rfl) (.cons (ep rfl) (.cons (ep rfl) .nil)))) rfl (done_fn r tText _ 3 _ _ (atO hi)) (by first | exact noH_aRd _ _ | (simp; done) | (simp [cAV]; done)) optN (fun hG => ?_)
   refine ARun.not rfl rfl rfl rfl (ep rfl) optN ?_
   refine ez ?_
   refine ρo (fun h4 => ?_) (fun h4 => ?_)
   · refine sr fun _ => ?_
     refine mz ?_
     refine AWP.ret (thenA_r ?_)
     refine endF.toG (congrArg (fun c => H.set i (AO.box c)) (by rw [hde, hdf]; rfl)) ?_
     refine ρC ?_ (hn := by rw [List.length_set]; exact hN)
     rw [hde, if_pos (by omega)]; rfl
   simp at h4
 simp at h3
 rw [if_neg (by omega)] at hdf
 refine sr fun _ => ?_
 refine mv ?_
 refine mv ?_
 first | refine ρw ?_ | refine ρx ?_ | refine ρz (atO hi) ?_
 refine ρn (fo := 0) U125 sz9 (atO hi) ?_
 refine ρA U9 (atO hi) ?_
 refine ARun.lenStr rfl rfl rfl rfl U9 (ep rfl) optN ?_
 refine mv ?_
 first | refine ρd ?_ | refine ρg ?_
 refine ρ6 ?_
 refine mz ?_
 refine ρo (fun h5 => ?_) (fun h5 => ?_)
 · simp at h5
   rw [if_pos h5] at hdf
   refine AWP.region (fun _ => ?_)
   refine ma ?_
   refine ⟨_, _, rfl, hG, ?_⟩
   refine blockA_n (thenA_n (AWP.seq ?_))
   refine sr fun _ => ?_
   refine mv ?_
   refine mv ?_
   refine mv ?_
   first | refine ρd ?_ | refine ρg ?_
   refine mv ?_
   refine ARun.callO hi hG rfl rfl rfl rfl cf68 (ep rfl) (.cons (ep rfl) (.cons (ep rfl) (.cons (ep rfl) (.cons (ep rfl) .nil)))) rfl (done_fn r tText _ 4 _ _ (atO hi)) (by first | exact noH_aRd _ _ | (simp; done) | (simp [cAV]; done)) optN (fun hG => ?_)
   refine ARun.not rfl rfl rfl rfl (ep rfl) optN ?_
   refine ez ?_
   refine ρo (fun h6 => ?_) (fun h6 => ?_)
   · refine sr fun _ => ?_
     refine mz ?_
     refine AWP.ret (thenA_r ?_)
     refine endF.toG (congrArg (fun c => H.set i (AO.box c)) (by rw [hde, hdf]; rfl)) ?_
     refine ρC ?_ (hn := by rw [List.length_set]; exact hN)
     rw [hde, if_pos (by omega)]; rfl
   simp at h6
 simp at h5
 rw [if_neg (by omega)] at hdf
 refine AWP.skip (blockA_n ?_)
 refine thenA_n (AWP.seq ?_)
 refine sr fun _ => ?_
 refine mv ?_
 refine mv ?_
 refine mv ?_
 first | refine ρd ?_ | refine ρg ?_
 refine mv ?_
 refine ARun.callO hi hG rfl rfl rfl rfl cf68 (ep rfl) (.cons (ep rfl) (.cons (ep rfl) (.cons (ep rfl) (.cons (ep rfl) .nil)))) rfl (done_fn r tText ((getN (bl r.s) r.at_).2.1 + (getN (bl r.s) r.at_).1) (getN (bl r.s) r.at_).2.2 _ _ (atO hi)) (by first | exact noH_aRd _ _ | (simp; done) | (simp [cAV]; done)) optN (fun hG => ?_)
 refine ARun.not rfl rfl rfl rfl (ep rfl) optN ?_
 refine ez ?_
 refine ρo (fun h7 => ?_) (fun h7 => ?_)
 · simp [h1] at h7
 refine AWP.skip (thenA_n (sr fun _ => ?_))
 refine mv ?_
 first | refine ρw ?_ | refine ρx ?_ | refine ρz (atO hi) ?_
 refine ρn (fo := 0) U125 sz9 (atO hi) ?_
 refine ρA U9 (atO hi) ?_
 refine mv ?_
 refine mv ?_
 refine mv ?_
 first | refine ρd ?_ | refine ρg ?_
 refine ARun.cutStr (a := (getN (bl r.s) r.at_).2.1.toNat) (b := ((getN (bl r.s) r.at_).2.1 + (getN (bl r.s) r.at_).1).toNat) rfl rfl rfl rfl U9 (ep rfl) ⟨_, _, (ep rfl), fun hg => (by (try simp at hg); omega)⟩ ⟨_, _, (ep rfl), fun hg => (by (try simp at hg); omega)⟩ (fun hg => (by rw [moved_s]; omega)) rfl optN ?_
 refine mz ?_
 refine AWP.ret ?_
 refine endF.toG (congrArg (fun c => H.set i (AO.box c)) (by rw [hde, hdf, h1])) ?_
 refine ρC ?_ (hn := by rw [List.length_set]; exact hN)
 rw [hde, if_neg (by omega), moved_s]
theorem row_r (r : RdS) (most : Int) (h : r.ok) : FnM Tryz.prog 36 (fun i => [.box i 0, .int .i64 most]) (aRd r) (.sl ((rdRow r most).2.map (AV.int .i64))) (aRd (rdRow r most).1) := by
 refine FnM.of Tryz.func36 rfl rfl (fun i => by simp) (fun H i m hHm hi hG => ?_)
 have hN : NoH H.length (.sl ((rdRow r most).2.map (AV.int .i64))) := (by simp [AV.cells])
 refine sr fun _ => ?_
 refine mz ?_
 refine AWP.seq (sr fun _ => ?_)
 refine mv ?_
 refine ARun.callR rfl rfl rfl rfl cf66 (ep rfl) (.cons (ep rfl) .nil) rfl (fun hg => FnM.keep (goes_fn r) (atO hi)) optN ?_
 refine ARun.not rfl rfl rfl rfl (ep rfl) optN ?_
 refine ez ?_
 refine ρo (fun h0 => ?_) (fun h0 => ?_)
 · have he : r.e ≠ 0 := by simpa using h0
   refine sr fun _ => ?_
   refine mz ?_
   refine AWP.ret (thenA_r ?_)
   refine endF.toG (congrArg (fun c => H.set i (AO.box c)) (by rw [rdRow, if_pos he])) ?_
   refine ρC ?_ (hn := by rw [List.length_set]; exact hN)
   rw [rdRow, if_pos he]; rfl
 have he : r.e = 0 := by simpa using h0
 have hde : rdRow r most = (r.moved tRow (unrowN (bl r.s) r.at_ most).2.1 (unrowN (bl r.s) r.at_ most).2.2, (unrowN (bl r.s) r.at_ most).1) := by rw [rdRow, if_neg (by omega)]
 refine AWP.skip (thenA_n (AWP.seq ?_))
 refine AWP.draw mixed (by kernel_rfl) (fun _ => ?_)
 refine mv ?_
 first | refine ρw ?_ | refine ρx ?_ | refine ρz (atO hi) ?_
 refine ρn (fo := 0) U125 sz9 (atO hi) ?_
 refine ρA U9 (atO hi) ?_
 refine mv ?_
 first | refine ρw ?_ | refine ρx ?_ | refine ρz (atO hi) ?_
 refine ρn (fo := 1) U125 sz3 (atO hi) ?_
 refine ρA U3 (atO hi) ?_
 refine mv ?_
 refine ARun.call rfl rfl rfl rfl cf70 (ep rfl) (.cons (ep rfl) (.cons (ep rfl) (.cons (ep rfl) .nil))) rfl (fun hg => unrowN_fn r.s r.at_ most h.2.2) optN ?_
 refine mv ?_
 refine ρj ?_
 refine ρj ?_
 refine ρj ?_
 refine ma ?_
 refine ma ?_
 refine ma ?_
 refine ⟨by kernel_rfl, _, _, rfl, hG, ?_⟩
 refine thenA_n (AWP.seq ?_)
 refine sr fun _ => ?_
 refine mv ?_
 refine mv ?_
 refine mv ?_
 refine ARun.callO hi hG rfl rfl rfl rfl cf68 (ep rfl) (.cons (ep rfl) (.cons (ep rfl) (.cons (ep rfl) (.cons (ep rfl) .nil)))) rfl (done_fn r tRow (unrowN (bl r.s) r.at_ most).2.1 (unrowN (bl r.s) r.at_ most).2.2 _ _ (atO hi)) (by first | exact noH_aRd _ _ | (simp; done) | (simp [cAV]; done)) optN (fun hG => ?_)
 refine ARun.not rfl rfl rfl rfl (ep rfl) optN ?_
 refine ez ?_
 refine ρo (fun h1 => ?_) (fun h1 => ?_)
 · simp at h1
   refine sr fun _ => ?_
   refine mz ?_
   refine AWP.ret (thenA_r ?_)
   refine endF.toG (congrArg (fun c => H.set i (AO.box c)) (by rw [hde])) ?_
   refine ρC ?_ (hn := by rw [List.length_set]; exact hN)
   rw [hde, unrow_bad h1]; rfl
 simp at h1
 refine AWP.skip (thenA_n (sr fun _ => ?_))
 refine mv ?_
 refine mz ?_
 refine AWP.ret ?_
 refine endF.toG (congrArg (fun c => H.set i (AO.box c)) (by rw [hde])) ?_
 refine ρC ?_ (hn := by rw [List.length_set]; exact hN)
 rw [hde]
theorem flag_done (r : RdS) : FnM Tryz.prog 68 (fun i => [.box i 0, .str tFlag, .int .i64 (r.at_ + 1), .int .i64 0]) (aRd r) (.bool true) [.str r.s, .int .i64 (r.at_ + 1), aEr (errOf tRead r.p r.e), .bool true] := by
 have := done_fn r tFlag (r.at_ + 1) 0
 rwa [moved_neg rfl] at this
theorem flag_r (r : RdS) (h : r.ok) : FnM Tryz.prog 32 (fun i => [.box i 0]) (aRd r) (.bool (rdFlag r).2) (aRd (rdFlag r).1) := by
 have hok0 := h.1
 have hok1 := h.2.1
 have hsz := h.2.2
 refine FnM.of Tryz.func32 rfl rfl (fun i => by simp) (fun H i m hHm hi hG => ?_)
 have hN : NoH H.length (.bool (rdFlag r).2) := (by simp [AV.cells, aIn, aOut])
 refine sr fun _ => ?_
 refine mz ?_
 refine AWP.seq (sr fun _ => ?_)
 refine mv ?_
 refine ARun.callR rfl rfl rfl rfl cf66 (ep rfl) (.cons (ep rfl) .nil) rfl (fun hg => FnM.keep (goes_fn r) (atO hi)) optN ?_
 refine ARun.not rfl rfl rfl rfl (ep rfl) optN ?_
 refine ez ?_
 refine ρo (fun h0 => ?_) (fun h0 => ?_)
 · have he : r.e ≠ 0 := by simpa using h0
   refine sr fun _ => ?_
   refine mz ?_
   refine AWP.ret (thenA_r ?_)
   refine endF.toG (congrArg (fun c => H.set i (AO.box c)) (by rw [rdFlag, if_pos he])) ?_
   refine ρC ?_ (hn := by rw [List.length_set]; exact hN)
   rw [rdFlag, if_pos he]; rfl
 have he : r.e = 0 := by simpa using h0
 have hdf : rdFlag r = if r.at_ ≥ r.s.size then (r.moved tFlag 0 4, false) else if ((bl r.s).getD r.at_.toNat 0).toNat > 1 then (r.moved tFlag 0 5, false) else (r.moved tFlag (r.at_ + 1) 0, decide (((bl r.s).getD r.at_.toNat 0).toNat = 1)) := by rw [rdFlag, if_neg (by omega)]
 refine AWP.skip (thenA_n ?_)
 refine AWP.seq (AWP.block (AWP.seq ?_))
 refine AWP.draw mixed (by kernel_rfl) (fun _ => ?_)
 refine mv ?_
 first | refine ρw ?_ | refine ρx ?_ | refine ρz (atO hi) ?_
 refine ρn (fo := 1) U125 sz3 (atO hi) ?_
 refine ρA U3 (atO hi) ?_
 refine mv ?_
 first | refine ρw ?_ | refine ρx ?_ | refine ρz (atO hi) ?_
 refine ρn (fo := 0) U125 sz9 (atO hi) ?_
 refine ρA U9 (atO hi) ?_
 refine ARun.lenStr rfl rfl rfl rfl U9 (ep rfl) optN ?_
 refine ρ6 ?_
 refine ma ?_
 refine ⟨by kernel_rfl, _, _, rfl, hG, ?_⟩
 refine thenA_n ?_
 refine ρo (fun h1 => ?_) (fun h1 => ?_)
 · simp at h1
   rw [if_pos (by omega)] at hdf
   refine sr fun _ => ?_
   refine mv ?_
   refine ARun.callO hi hG rfl rfl rfl rfl cf68 (ep rfl) (.cons (ep rfl) (.cons (ep rfl) (.cons (ep rfl) (.cons (ep rfl) .nil)))) rfl (done_fn r tFlag 0 4 _ _ (atO hi)) (by first | exact noH_aRd _ _ | (simp; done) | (simp [cAV]; done)) optN (fun hG => ?_)
   refine mz ?_
   refine AWP.ret (blockA_r (thenA_r ?_))
   refine endF.toG (congrArg (fun c => H.set i (AO.box c)) (by rw [hdf])) ?_
   refine ρC ?_ (hn := by rw [List.length_set]; exact hN)
   rw [hdf]; rfl
 simp at h1
 rw [if_neg (by omega)] at hdf
 refine AWP.seq ?_
 refine AWP.draw mixed (by kernel_rfl) (fun _ => ?_)
 refine mv ?_
 first | refine ρw ?_ | refine ρx ?_ | refine ρz (atO hi) ?_
 refine ρn (fo := 0) U125 sz9 (atO hi) ?_
 refine ρA U9 (atO hi) ?_
 refine mv ?_
 first | refine ρw ?_ | refine ρx ?_ | refine ρz (atO hi) ?_
 refine ρn (fo := 1) U125 sz3 (atO hi) ?_
 refine ρA U3 (atO hi) ?_
 first | refine ARun.indexStr rfl rfl rfl rfl U9 (ep rfl) (ep rfl) (fun _ => rfl) (fun hg => (by (try simp at hg); omega)) optN ?_ | refine ARun.indexStr rfl rfl rfl rfl U9 (ep rfl) (ep rfl) (fun hg => ofNonneg (by (try simp at hg); omega)) (fun hg => (by (try simp at hg); omega)) optN ?_
 refine ρ6 ?_
 refine ma ?_
 refine ⟨by kernel_rfl, _, _, rfl, hG, ?_⟩
 refine thenA_n ?_
 refine ρo (fun h2 => ?_) (fun h2 => ?_)
 · rw [byteAt_bl] at h2; simp only [decide_eq_true_eq, decide_eq_false_iff_not] at h2
   rw [if_pos (by omega)] at hdf
   refine sr fun _ => ?_
   refine mv ?_
   refine ARun.callO hi hG rfl rfl rfl rfl cf68 (ep rfl) (.cons (ep rfl) (.cons (ep rfl) (.cons (ep rfl) (.cons (ep rfl) .nil)))) rfl (done_fn r tFlag 0 5 _ _ (atO hi)) (by first | exact noH_aRd _ _ | (simp; done) | (simp [cAV]; done)) optN (fun hG => ?_)
   refine mz ?_
   refine AWP.ret (blockA_r (thenA_r ?_))
   refine endF.toG (congrArg (fun c => H.set i (AO.box c)) (by rw [hdf])) ?_
   refine ρC ?_ (hn := by rw [List.length_set]; exact hN)
   rw [hdf]; rfl
 rw [byteAt_bl] at h2; simp only [decide_eq_true_eq, decide_eq_false_iff_not] at h2
 rw [if_neg (by omega)] at hdf
 refine AWP.skip (blockA_n ?_)
 refine thenA_n (AWP.seq ?_)
 refine AWP.draw mixed (by kernel_rfl) (fun _ => ?_)
 refine mv ?_
 refine mv ?_
 first | refine ρw ?_ | refine ρx ?_ | refine ρz (atO hi) ?_
 refine ρn (fo := 1) U125 sz3 (atO hi) ?_
 refine ρA U3 (atO hi) ?_
 first | refine ρd ?_ | refine ρg ?_
 refine ARun.callO hi hG rfl rfl rfl rfl cf68 (ep rfl) (.cons (ep rfl) (.cons (ep rfl) (.cons (ep rfl) (.cons (ep rfl) .nil)))) rfl (flag_done r _ _ (atO hi)) (by first | exact noH_aRd _ _ | (simp; done) | (simp [cAV]; done)) optN (fun hG => ?_)
 refine mv ?_
 refine ρh ?_
 first | refine ARun.nilPe rfl rfl rfl rfl (Ev.opt rfl (fun h => h)) optS ?_ | refine ARun.nilFn rfl rfl rfl rfl (Ev.opt rfl (fun h => h)) optS ?_ | refine ARun.nilBox rfl rfl rfl rfl (Ev.opt rfl (fun h => h)) (atO hi) optS ?_
 refine ARun.fieldBox (fo := 0) rfl rfl rfl rfl U125 rfl rfl sz9 (by decide) (Ev.opt rfl (fun h => h)) (atO hi) optS ?_
 refine ARun.loadBox rfl rfl rfl rfl U9 rfl (Ev.opt rfl (fun h => h)) (atO hi) rfl optS ?_
 refine ρh ?_
 first | refine ARun.nilPe rfl rfl rfl rfl (Ev.opt rfl (fun h => h)) optS ?_ | refine ARun.nilFn rfl rfl rfl rfl (Ev.opt rfl (fun h => h)) optS ?_ | refine ARun.nilBox rfl rfl rfl rfl (Ev.opt rfl (fun h => h)) (atO hi) optS ?_
 refine ARun.fieldBox (fo := 1) rfl rfl rfl rfl U125 rfl rfl sz3 (by decide) (Ev.opt rfl (fun h => h)) (atO hi) optS ?_
 refine ARun.loadBox rfl rfl rfl rfl U3 rfl (Ev.opt rfl (fun h => h)) (atO hi) rfl optS ?_
 first | refine ARun.arith rfl rfl rfl rfl (Ev.opt rfl (fun h => h)) (ep rfl) rfl (fun hg => i64w (by (try simp at hg); omega)) optS ?_ | refine ARun.arith rfl rfl rfl rfl (Ev.opt rfl (fun h => h)) (ep rfl) rfl (fun _ => rfl) optS ?_
 first | refine ARun.indexStr rfl rfl rfl rfl U9 (Ev.opt rfl (fun h => h)) (Ev.opt rfl (fun h => h)) (fun _ => rfl) (fun hg => (by (try simp at hg); omega)) optS ?_ | refine ARun.indexStr rfl rfl rfl rfl U9 (Ev.opt rfl (fun h => h)) (Ev.opt rfl (fun h => h)) (fun hg => ofNonneg (by (try simp at hg); omega)) (fun hg => (by (try simp at hg); omega)) optS ?_
 refine ρb ?_
 refine ρ1 ?_
 refine ma ?_
 refine ⟨by kernel_rfl, _, _, rfl, hG, ?_⟩
 refine thenA_n (AWP.ret ?_)
 refine endF.toG (congrArg (fun c => H.set i (AO.box c)) (by rw [hdf, moved_neg rfl]; rfl)) ?_
 refine ρC ?_ (hn := by rw [List.length_set]; exact hN)
 rw [hdf]; simp [byteAt_bl]; omega
theorem end_r (r : RdS) (h : r.ok) : FnM Tryz.prog 33 (fun i => [.box i 0]) (aRd r) (.tup []) (aRd (rdEnd r)) := by
 refine FnM.of Tryz.func33 rfl rfl (fun i => by simp) (fun H i m hHm hi hG => ?_)
 have hN : NoH H.length (.tup []) := (by simp [AV.cells, aIn, aOut])
 refine AWP.seq ?_
 refine AWP.draw mixed (by kernel_rfl) (fun _ => ?_)
 refine mv ?_
 refine ARun.callR rfl rfl rfl rfl cf66 (ep rfl) (.cons (ep rfl) .nil) rfl (fun hg => FnM.keep (goes_fn r) (atO hi)) optN ?_
 refine mv ?_
 refine ρh ?_
 first | refine ARun.nilPe rfl rfl rfl rfl (Ev.opt rfl (fun h => h)) optS ?_ | refine ARun.nilFn rfl rfl rfl rfl (Ev.opt rfl (fun h => h)) optS ?_ | refine ARun.nilBox rfl rfl rfl rfl (Ev.opt rfl (fun h => h)) (atO hi) optS ?_
 refine ARun.fieldBox (fo := 1) rfl rfl rfl rfl U125 rfl rfl sz3 (by decide) (Ev.opt rfl (fun h => h)) (atO hi) optS ?_
 refine ARun.loadBox rfl rfl rfl rfl U3 rfl (Ev.opt rfl (fun h => h)) (atO hi) rfl optS ?_
 refine ρh ?_
 first | refine ARun.nilPe rfl rfl rfl rfl (Ev.opt rfl (fun h => h)) optS ?_ | refine ARun.nilFn rfl rfl rfl rfl (Ev.opt rfl (fun h => h)) optS ?_ | refine ARun.nilBox rfl rfl rfl rfl (Ev.opt rfl (fun h => h)) (atO hi) optS ?_
 refine ARun.fieldBox (fo := 0) rfl rfl rfl rfl U125 rfl rfl sz9 (by decide) (Ev.opt rfl (fun h => h)) (atO hi) optS ?_
 refine ARun.loadBox rfl rfl rfl rfl U9 rfl (Ev.opt rfl (fun h => h)) (atO hi) rfl optS ?_
 refine ARun.lenStr rfl rfl rfl rfl U9 (Ev.opt rfl (fun h => h)) optS ?_
 refine ρm ?_
 refine ρ1 ?_
 refine ⟨by kernel_rfl, _, _, rfl, hG, ?_⟩
 refine thenA_n ?_
 refine ρo (fun h0 => ?_) (fun h0 => ?_)
 · simp at h0
   refine AWP.region (fun _ => ?_)
   refine mv ?_
   refine ARun.callO hi hG rfl rfl rfl rfl cf68 (ep rfl) (.cons (ep rfl) (.cons (ep rfl) (.cons (ep rfl) (.cons (ep rfl) .nil)))) rfl (done_fn r tEnd 0 6 _ _ (atO hi)) (by first | exact noH_aRd _ _ | (simp; done) | (simp [cAV]; done)) optN (fun hG => ?_)
   refine ⟨_, _, rfl, hG, ?_⟩
   refine endF.toG (congrArg (fun c => H.set i (AO.box c)) (by rw [rdEnd, if_pos h0])) ?_
   refine endF.many (.inl rfl) (rs := []) rfl .nil (by simp) ?_ (by rw [List.length_set]; exact hN)
   rfl
 simp at h0
 refine AWP.skip ?_
 refine endF.toG (congrArg (fun c => H.set i (AO.box c)) (by rw [rdEnd, if_neg (by omega)])) ?_
 refine endF.many (.inl rfl) (rs := []) rfl .nil (by simp) ?_ (by rw [List.length_set]; exact hN)
 rfl
theorem rdone_fn (r : RdS) : FnM Tryz.prog 20 (fun i => [.box i 0]) (aRd r) (aEr (errOf tRead r.p r.e)) (aRd r) := by
 refine FnM.of Tryz.func20 rfl rfl (fun i => by simp) (fun H i m hHm hi hG => ?_)
 have hN : NoH H.length (aEr (errOf tRead r.p r.e)) := (by simp [AV.cells, aIn, aOut])
 refine sr fun _ => ?_
 refine mz ?_
 refine AWP.seq (sr fun _ => ?_)
 refine mv ?_
 refine ARun.isNilBox rfl rfl rfl rfl U74 (ep rfl) (atO hi) (.inl ⟨rfl, rfl⟩) optN ?_
 refine mv ?_
 refine ρh ?_
 first | refine ARun.nilPe rfl rfl rfl rfl (Ev.opt rfl (fun h => h)) optS ?_ | refine ARun.nilFn rfl rfl rfl rfl (Ev.opt rfl (fun h => h)) optS ?_ | refine ARun.nilBox rfl rfl rfl rfl (Ev.opt rfl (fun h => h)) (atO hi) optS ?_
 refine ARun.fieldBox (fo := 3) rfl rfl rfl rfl U125 rfl rfl sz4 (by decide) (Ev.opt rfl (fun h => h)) (atO hi) optS ?_
 refine ARun.loadBox rfl rfl rfl rfl U4 rfl (Ev.opt rfl (fun h => h)) (atO hi) rfl optS ?_
 refine ARun.not rfl rfl rfl rfl (Ev.opt rfl (fun h => h)) optS ?_
 refine ρ3 ?_
 refine ez ?_
 refine ρo (fun h0 => ?_) (fun h0 => ?_)
 · simp at h0
 refine AWP.skip (thenA_n (sr fun _ => ?_))
 refine mv ?_
 first | refine ρw ?_ | refine ρx ?_ | refine ρz (atO hi) ?_
 refine ρn (fo := 2) U125 sz28 (atO hi) ?_
 refine ρA U28 (atO hi) ?_
 refine mz ?_
 refine AWP.ret ?_
 refine endF.toG (congrArg (fun c => H.set i (AO.box c)) rfl) ?_
 refine ρC ?_ (hn := by rw [List.length_set]; exact hN)
 rfl
theorem fit_one {n : Int} (h : -9223372036854775808 ≤ n ∧ n ≤ 9223372036854775807) : ∀ x, x ∈ [n] → -9223372036854775808 ≤ x ∧ x ≤ 9223372036854775807 := by
 intro x hx; simp at hx; subst hx; exact h
theorem num_fit {r : RdS} (h : r.ok) (most : Int) : -9223372036854775808 ≤ (rdNum r most).2 ∧ (rdNum r most).2 ≤ 9223372036854775807 := by
 have := getN_bd (bl r.s) r.at_ (by rw [bl_len]; exact h.2.2)
 unfold rdNum
 split
 · dsimp only; omega
 dsimp only; split <;> omega
theorem unrowF_fit (l : List UInt8) (hl : l.length ≤ 1000000) (k : Nat) : ∀ (to : Int) (acc : List Int), (∀ x, x ∈ acc → -9223372036854775808 ≤ x ∧ x ≤ 9223372036854775807) → ∀ x, x ∈ (unrowF l k to acc).1 → -9223372036854775808 ≤ x ∧ x ≤ 9223372036854775807 := by
 induction k with
 | zero => intro to acc h; exact h
 | succ k ih =>
   intro to acc h
   rw [unrow_step]
   split
   · intro x hx; cases hx
   refine ih _ _ fun x hx => ?_
   have := getN_bd l to hl
   rcases List.mem_append.1 hx with hx | hx
   · exact h x hx
   simp at hx; subst hx; omega
theorem row_fit {r : RdS} (h : r.ok) (most : Int) : ∀ x, x ∈ (rdRow r most).2 → -9223372036854775808 ≤ x ∧ x ≤ 9223372036854775807 := by
 unfold rdRow
 split
 · intro x hx; cases hx
 unfold unrowN
 split
 · intro x hx; cases hx
 split
 · intro x hx; cases hx
 exact unrowF_fit _ (by rw [bl_len]; exact h.2.2) _ _ _ (fun x hx => by cases hx)
end Go.Proofs.YtnlpojjfkgnhhaaGreatDoor
namespace Go.Proofs.YtnlpojjfkgnhhaaGreatDoor
open NumP
structure Ln where
 item : Int
 qty : Int
deriving DecidableEq
instance : Inhabited Ln := ⟨⟨0, 0⟩⟩
structure Cl where
 client : Int
 seq : Int
 kind : Int
 item : Int
 to_ : Int
 qty : Int
 lines : List Ln
deriving DecidableEq
instance : Inhabited Cl := ⟨⟨0, 0, 0, 0, 0, 0, []⟩⟩
def Cl.zero : Cl := ⟨0, 0, 0, 0, 0, 0, []⟩
def numbP (n : Int) : Bool := decide (1 ≤ n) && decide (n ≤ 99999)
def someP (n : Int) : Bool := decide (1 ≤ n) && decide (n ≤ 1000000)
def okAt (l : List Ln) (k : Nat) : Bool := numbP (l.getD k default).item && (decide (k = 0) || decide ((l.getD (k - 1) default).item < (l.getD k default).item)) && someP (l.getD k default).qty
def linesP (l : List Ln) : Bool := decide (0 < l.length) && decide (l.length ≤ 5) && (List.range l.length).all (okAt l)
def lastAt (l : List Ln) (k : Nat) : Int := if k = 0 then 0 else (l.getD (k - 1) default).item
def bareP (c : Cl) : Bool := decide (c.to_ = 0) && decide (c.lines.length = 0) && numbP c.item
def mayP (c : Cl) : Bool :=
 if c.kind = 1 then bareP c && (decide (c.qty = 0) || someP c.qty) else if c.kind = 2 ∨ c.kind = 3 ∨ c.kind = 4 ∨ c.kind = 5 then bareP c && someP c.qty else
 if c.kind = 6 then numbP c.item && numbP c.to_ && !decide (c.to_ = c.item) && someP c.qty && decide (c.lines.length = 0) else if c.kind = 7 then bareP c && decide (c.qty = 0) else
 decide (c.item = 0) && decide (c.to_ = 0) && decide (c.qty = 0) && linesP c.lines
def checkP (c : Cl) : Int := if c.kind < 1 ∨ 8 < c.kind then 30 else if (numbP c.client && numbP c.seq && mayP c) = true then 0 else 2
theorem okAt_iff (l : List Ln) (k : Nat) (h : numbP (l.getD k default).item = true) : (decide (k = 0) || decide ((l.getD (k - 1) default).item < (l.getD k default).item)) = decide (lastAt l k < (l.getD k default).item) := by
 unfold lastAt
 by_cases h0 : k = 0
 · subst h0
   unfold numbP at h; simp at h
   simp; omega
 · simp [h0]
theorem linesP_no {l : List Ln} {k : Nat} (hk : k < l.length) (h : okAt l k = false) : linesP l = false := by
 have : (List.range l.length).all (okAt l) = false := List.all_eq_false.2 ⟨k, List.mem_range.2 hk, by simp [h]⟩
 unfold linesP; rw [this, Bool.and_false]
theorem linesP_yes {l : List Ln} (h : ∀ k, k < l.length → okAt l k = true) : linesP l = (decide (0 < l.length) && decide (l.length ≤ 5)) := by
 have : (List.range l.length).all (okAt l) = true := List.all_eq_true.2 fun k hk => h k (List.mem_range.1 hk)
 unfold linesP; rw [this, Bool.and_true]
/-! ### bytes -/
def flatL (l : List Ln) : List Int := l.flatMap fun x => [x.item, x.qty]
def headC (c : Cl) : List Int := [c.client, c.seq, c.kind, c.item, c.to_, c.qty]
def layC (c : Cl) : WrS := wrRow (wrNums WrS.new (headC c)) (flatL c.lines)
def putC (c : Cl) : ByteArray := if checkP c = 0 then (layC c).out else ⟨#[]⟩
def tCall : ByteArray := ⟨#[99, 97, 108, 108]⟩
def tTake : ByteArray := ⟨#[116, 97, 107, 101]⟩
def tReply : ByteArray := ⟨#[114, 101, 112, 108, 121]⟩
theorem flatL_len (l : List Ln) : (flatL l).length = 2 * l.length := by
 induction l with
 | nil => rfl
 | cons x l ih => simp [flatL] at ih ⊢; omega
theorem flatL_take (l : List Ln) (k : Nat) (h : k < l.length) : flatL (l.take (k + 1)) = flatL (l.take k) ++ [(l.getD k default).item, (l.getD k default).qty] := by
 unfold flatL; rw [List.take_succ_eq_append_getElem h, List.flatMap_append]; simp [List.getD, h]
theorem all_pos {l : List Ln} (h : linesP l = true) : ∀ x, x ∈ flatL l → 0 ≤ x ∧ x ≤ 1000000 := by
 unfold linesP at h
 simp only [Bool.and_eq_true, List.all_eq_true, List.mem_range] at h
 intro x hx
 obtain ⟨y, hy, hx⟩ := List.mem_flatMap.1 hx
 obtain ⟨k, hk, rfl⟩ := List.mem_iff_getElem.1 hy
 have := h.2 k hk
 simp [okAt, numbP, someP, List.getD, hk] at this
 simp at hx
 rcases hx with rfl | rfl <;> omega
theorem bare_lines {c : Cl} (h : bareP c = true) : c.lines = [] ∧ (1 ≤ c.item ∧ c.item ≤ 99999) ∧ c.to_ = 0 := by
 unfold bareP numbP at h; simp at h; exact ⟨h.1.2, by omega, h.1.1⟩
theorem len_zero {l : List Ln} (h : decide (l.length = 0) = true) : l = [] := List.length_eq_zero_iff.1 (by simpa using h)
theorem check_ok {c : Cl} (h : checkP c = 0) : (1 ≤ c.client ∧ c.client ≤ 99999) ∧ (1 ≤ c.seq ∧ c.seq ≤ 99999) ∧ (1 ≤ c.kind ∧ c.kind ≤ 8) ∧ (0 ≤ c.item ∧ c.item ≤ 99999) ∧ (0 ≤ c.to_ ∧ c.to_ ≤ 99999) ∧ (0 ≤ c.qty ∧ c.qty ≤ 1000000) ∧ c.lines.length ≤ 5 ∧ ∀ x, x ∈ flatL c.lines → 0 ≤ x ∧ x ≤ 1000000 := by
 unfold checkP at h
 split at h
 · cases h
 · rename_i hk
   split at h
   · rename_i hm
     simp only [Bool.and_eq_true] at hm
     obtain ⟨⟨h1, h2⟩, h3⟩ := hm
     simp only [numbP, Bool.and_eq_true, decide_eq_true_eq] at h1 h2
     refine ⟨h1, h2, by omega, ?_⟩
     unfold mayP at h3
     split at h3
     · simp only [Bool.and_eq_true] at h3
       obtain ⟨hl, hi, ht⟩ := bare_lines h3.1
       have hq := h3.2; simp [someP] at hq
       rw [hl]; exact ⟨by omega, by omega, by omega, by simp, by simp [flatL]⟩
     · split at h3
       · simp only [Bool.and_eq_true] at h3
         obtain ⟨hl, hi, ht⟩ := bare_lines h3.1
         have hq := h3.2; simp [someP] at hq
         rw [hl]; exact ⟨by omega, by omega, by omega, by simp, by simp [flatL]⟩
       · split at h3
         · simp only [Bool.and_eq_true] at h3
           have hl := len_zero h3.2
           have h4 := h3.1
           simp [numbP, someP] at h4
           rw [hl]; exact ⟨by omega, by omega, by omega, by simp, by simp [flatL]⟩
         · split at h3
           · simp only [Bool.and_eq_true] at h3
             obtain ⟨hl, hi, ht⟩ := bare_lines h3.1
             have hq := h3.2; simp at hq
             rw [hl]; exact ⟨by omega, by omega, by omega, by simp, by simp [flatL]⟩
           · simp only [Bool.and_eq_true, decide_eq_true_eq] at h3
             have hlen : c.lines.length ≤ 5 := by
               have := h3.2; unfold linesP at this; simp only [Bool.and_eq_true, decide_eq_true_eq] at this; exact this.1.2
             exact ⟨by omega, by omega, by omega, hlen, all_pos h3.2⟩
   · cases h
theorem wrNum_pos {w : WrS} (h : w.e = 0) {n : Int} (hn : 0 ≤ n) : wrNum w n = { w with s := w.s ++ (putN n).1 } := by
 unfold wrNum wrPut
 rw [if_neg (by omega), if_neg (by rw [putN_err, if_pos hn]; simp)]
theorem wrNums_pos (l : List Int) : ∀ {w : WrS}, w.e = 0 → (∀ x, x ∈ l → 0 ≤ x) → wrNums w l = { w with s := w.s ++ rowBytes l } := by
 induction l with
 | nil => intro w h _; simp [wrNums, rowBytes]
 | cons x l ih =>
   intro w h hl
   show wrNums (wrNum w x) l = _
   rw [wrNum_pos h (hl x List.mem_cons_self), ih (w := { w with s := w.s ++ (putN x).1 }) h (fun y hy => hl y (List.mem_cons_of_mem _ hy))]
   simp [rowBytes]
theorem nneg_of {l : List Int} (h : ∀ x, x ∈ l → 0 ≤ x) : nneg l = true := List.all_eq_true.2 fun x hx => decide_eq_true (h x hx)
theorem wrRow_pos {w : WrS} (h : w.e = 0) {l : List Int} (hl : ∀ x, x ∈ l → 0 ≤ x) : wrRow w l = { w with s := w.s ++ (rowN l).1 } := by
 unfold wrRow wrPut
 rw [if_neg (by omega), if_neg (by unfold rowN; rw [if_pos (nneg_of hl)]; simp)]
theorem head_pos {c : Cl} (h : checkP c = 0) : ∀ x, x ∈ headC c → 0 ≤ x ∧ x ≤ 1000000 := by
 have := check_ok h
 intro x hx
 simp [headC] at hx
 rcases hx with rfl | rfl | rfl | rfl | rfl | rfl <;> omega
theorem layC_ok {c : Cl} (h : checkP c = 0) : layC c = ⟨rowBytes (headC c) ++ (rowN (flatL c.lines)).1, ⟨#[]⟩, 0⟩ := by
 unfold layC
 rw [wrNums_pos _ rfl (fun x hx => (head_pos h x hx).1), wrRow_pos rfl (fun x hx => ((check_ok h).2.2.2.2.2.2.2 x hx).1)]
 rfl
/-! ### a call is taken -/
def pairsL : List Int → List Ln
 | a :: b :: r => ⟨a, b⟩ :: pairsL r
 | _ => []
def sixR (s : ByteArray) : Nat → RdS
 | 0 => RdS.new s
 | k + 1 => (rdNum (sixR s k) 2000000).1
def sixN (s : ByteArray) (k : Nat) : Int := (rdNum (sixR s k) 2000000).2
def sixL (s : ByteArray) : List Int := [sixN s 0, sixN s 1, sixN s 2, sixN s 3, sixN s 4, sixN s 5]
def rdCall (s : ByteArray) : RdS × List Int × List Int := (rdEnd (rdRow (sixR s 6) 10).1, sixL s, (rdRow (sixR s 6) 10).2)
theorem sixR_ok {s : ByteArray} (h : s.size ≤ 1000000) : ∀ k, (sixR s k).ok
 | 0 => ⟨Int.le_refl 0, by show (0 : Int) ≤ s.size; omega, h⟩
 | k + 1 => rdNum_ok (sixR_ok h k) _
def mkCall (n l : List Int) : Cl := ⟨n.getD 0 0, n.getD 1 0, n.getD 2 0, n.getD 3 0, n.getD 4 0, n.getD 5 0, pairsL l⟩
def takeE (s : ByteArray) : Int :=
 if (rdCall s).1.e ≠ 0 then (rdCall s).1.e else if (rdCall s).2.2.length % 2 = 1 then 5 else checkP (mkCall (rdCall s).2.1 (rdCall s).2.2)
def takeC (s : ByteArray) : Cl := if takeE s = 0 then mkCall (rdCall s).2.1 (rdCall s).2.2 else Cl.zero
def takeErr (s : ByteArray) : Er :=
 if (rdCall s).1.e ≠ 0 then Er.wrap tTake (errOf tRead (rdCall s).1.p (rdCall s).1.e) else if (rdCall s).2.2.length % 2 = 1 then Er.new tTake 5 else
 Er.wrap tTake (Er.new tCall (checkP (mkCall (rdCall s).2.1 (rdCall s).2.2)))
theorem flat_pairs : ∀ (n : Nat) (l : List Int), l.length = 2 * n → flatL (pairsL l) = l := by
 intro n
 induction n with
 | zero =>
   intro l h
   have : l = [] := List.length_eq_zero_iff.1 (by omega)
   subst this; rfl
 | succ n ih =>
   intro l h
   match l with
   | [] => simp at h
   | [a] => simp at h; omega
   | a :: b :: r =>
     show [a, b] ++ flatL (pairsL r) = _
     rw [ih r (by simp at h; omega)]; rfl
theorem pairsL_take (l : List Int) (k : Nat) (h : 2 * k + 1 < l.length) : pairsL (l.take (2 * (k + 1))) = pairsL (l.take (2 * k)) ++ [⟨l.getD (2 * k) default, l.getD (2 * k + 1) default⟩] := by
 induction k generalizing l with
 | zero =>
   match l with
   | [] => simp at h
   | [a] => simp at h
   | a :: b :: r => rfl
 | succ k ih =>
   match l with
   | [] => simp at h
   | [a] => simp at h
   | a :: b :: r =>
     have := ih r (by simp at h; omega)
     rw [show 2 * (k + 1 + 1) = 2 * (k + 1) + 1 + 1 by omega, show 2 * (k + 1) = 2 * k + 1 + 1 by omega, List.take_succ_cons, List.take_succ_cons, List.take_succ_cons, List.take_succ_cons, pairsL, pairsL]
     rw [show 2 * k + 1 + 1 = 2 * (k + 1) by omega, this]
     have e1 : (a :: b :: r).getD (2 * (k + 1)) default = r.getD (2 * k) default := by rw [show 2 * (k + 1) = 2 * k + 1 + 1 by omega]; rfl
     have e2 : (a :: b :: r).getD (2 * (k + 1) + 1) default = r.getD (2 * k + 1) default := by rw [show 2 * (k + 1) + 1 = 2 * k + 1 + 1 + 1 by omega]; rfl
     rw [e1, e2]; rfl
/-! ### replies -/
structure Rp where
 code : Int
 nums : List Int
deriving DecidableEq
def repE (r : Rp) : Int := if r.code < 0 ∨ 255 < r.code ∨ 20 < r.nums.length ∨ nneg r.nums = false then 2 else 0
def layR (r : Rp) : WrS := wrRow (wrNums WrS.new [r.code]) r.nums
def putR (r : Rp) : ByteArray := if repE r = 0 then (layR r).out else ⟨#[]⟩
def rdReply (s : ByteArray) : RdS × Int × List Int :=
 let a := rdNum (RdS.new s) 255
 let b := rdRow a.1 20
 (rdEnd b.1, a.2, b.2)
def takeR (s : ByteArray) : Rp := if (rdReply s).1.e ≠ 0 then ⟨0, []⟩ else ⟨(rdReply s).2.1, (rdReply s).2.2⟩
def takeRErr (s : ByteArray) : Er := Er.wrap tTake (errOf tRead (rdReply s).1.p (rdReply s).1.e)
theorem layR_ok {r : Rp} (h : repE r = 0) : layR r = ⟨(putN r.code).1 ++ (rowN r.nums).1, ⟨#[]⟩, 0⟩ := by
 unfold repE at h
 split at h
 · cases h
 · rename_i h0
   have hn : ∀ x, x ∈ r.nums → 0 ≤ x := by
     have : nneg r.nums = true := by cases hh : nneg r.nums <;> simp_all
     intro x hx
     have := List.all_eq_true.1 this x hx
     simpa using this
   unfold layR
   rw [wrNums_pos _ rfl (fun x hx => by simp at hx; subst hx; omega), wrRow_pos rfl hn]
   simp [WrS.new, rowBytes]
end Go.Proofs.YtnlpojjfkgnhhaaGreatDoor
namespace Go.Proofs.YtnlpojjfkgnhhaaGreatDoor
open NumP
theorem six_s (s : ByteArray) : ∀ k, (sixR s k).s = s
 | 0 => rfl
 | k + 1 => by show (rdNum (sixR s k) 2000000).1.s = s; rw [rdNum_s]; exact six_s s k
theorem six_upto (s : ByteArray) (h : s.size ≤ 1000000) : ∀ k, k ≤ 6 → Upto (sixR s k) (wrNums WrS.new ((sixL s).take k)) := by
 intro k
 induction k with
 | zero => intro _; exact upto_new s
 | succ k ih =>
   intro hk
   have h1 := first_num (sixR_ok h k) _ 2000000 (ih (by omega))
   have hk6 : k < (sixL s).length := by show k < 6; omega
   have h2 : (rdNum (sixR s k) 2000000).2 = (sixL s).getD k default := by
     show sixN s k = _
     have : k = 0 ∨ k = 1 ∨ k = 2 ∨ k = 3 ∨ k = 4 ∨ k = 5 := by omega
     rcases this with rfl | rfl | rfl | rfl | rfl | rfl <;> rfl
   rw [wrNums_succ _ _ _ hk6, ← h2]; exact h1
theorem takeE_zero {s : ByteArray} (h : takeE s = 0) : (rdCall s).1.e = 0 ∧ (rdCall s).2.2.length % 2 = 0 ∧ checkP (mkCall (rdCall s).2.1 (rdCall s).2.2) = 0 ∧ takeC s = mkCall (rdCall s).2.1 (rdCall s).2.2 := by
 have hc : takeC s = mkCall (rdCall s).2.1 (rdCall s).2.2 := if_pos h
 unfold takeE at h
 split at h
 · rename_i h1; exact absurd h h1
 · rename_i h1
   split at h
   · cases h
   · rename_i h2; exact ⟨by omega, by omega, h, hc⟩
theorem call_only {s : ByteArray} (hs : s.size ≤ 1000000) (h : takeE s = 0) : checkP (takeC s) = 0 ∧ putC (takeC s) = s := by
 obtain ⟨h1, h2, h3, h4⟩ := takeE_zero h
 rw [h4]
 refine ⟨h3, ?_⟩
 rw [putC, if_pos h3]
 have hU := first_row (sixR_ok hs 6) _ 10 (six_upto s hs 6 (Nat.le_refl _))
 have hw := (upto_end (rdRow_ok (sixR_ok hs 6) 10) hU h1).1
 rw [rdRow_s, six_s] at hw
 have hf : flatL (mkCall (rdCall s).2.1 (rdCall s).2.2).lines = (rdRow (sixR s 6) 10).2 := flat_pairs ((rdRow (sixR s 6) 10).2.length / 2) _ (by have : (rdRow (sixR s 6) 10).2.length % 2 = 0 := h2; show (rdRow (sixR s 6) 10).2.length = _; omega)
 unfold layC
 rw [hf]
 exact hw
/-! ### the errors -/
theorem new_code (p : ByteArray) (e : Int) : (Er.new p e).code = e := by
 unfold Er.new
 split
 · rename_i h; rw [h]; rfl
 · rename_i h
   show (match (some e : Option Int) with | some c => if c = 0 then 2 else c | Option.none => 2) = e
   simp [h]
theorem errOf_code (op p : ByteArray) (e : Int) : (errOf op p e).code = e := by
 unfold errOf
 split
 · rename_i h; rw [h]; rfl
 · rename_i h
   show (match (some e : Option Int) with | some c => if c = 0 then 2 else c | Option.none => 2) = e
   simp [h]
theorem wrap_code (p : ByteArray) {e : Er} : (Er.wrap p e).code = e.code := by
 cases e <;> rfl
theorem takeErr_code (s : ByteArray) : (takeErr s).code = takeE s := by
 unfold takeErr takeE
 split
 · rw [wrap_code, errOf_code]
 · split
   · rw [new_code]
   · rw [wrap_code, new_code]
theorem takeRErr_code (s : ByteArray) : (takeRErr s).code = (rdReply s).1.e := by unfold takeRErr; rw [wrap_code, errOf_code]
theorem row_top (r : RdS) (most : Int) (h : 0 ≤ most) : ((rdRow r most).2.length : Int) ≤ most := by
 unfold rdRow
 split
 · exact h
 · unfold unrowN
   dsimp only
   split
   · exact h
   · split
     · exact h
     · rename_i h1 h2
       have := unrowF_len (bl r.s) (getN (bl r.s) r.at_).1.toNat (getN (bl r.s) r.at_).2.1 []
       simp only [List.length_nil] at this
       omega
theorem num_top {r : RdS} (hr : r.ok) (most : Int) (h : 0 ≤ most) : 0 ≤ (rdNum r most).2 ∧ (rdNum r most).2 ≤ most := by
 have hb := getN_bd (bl r.s) r.at_ (by rw [bl_len]; exact hr.2.2)
 unfold rdNum
 split
 · exact ⟨Int.le_refl 0, h⟩
 · dsimp only
   split
   · exact ⟨Int.le_refl 0, h⟩
   · rename_i h2
     have h3 : numE r most = 0 := by omega
     unfold numE at h3
     split at h3
     · cases h3
     · rename_i h4
       have hg : getN (bl r.s) r.at_ = ((getN (bl r.s) r.at_).1, (getN (bl r.s) r.at_).2.1, 0) := by rw [← h3]
       have := get_least _ _ _ _ hg
       omega
theorem reply_s (s : ByteArray) : (rdRow (rdNum (RdS.new s) 255).1 20).1.s = s := by rw [rdRow_s, rdNum_s]; rfl
theorem rep_only {s : ByteArray} (hs : s.size ≤ 1000000) (h : (rdReply s).1.e = 0) : repE (takeR s) = 0 ∧ putR (takeR s) = s := by
 have hT : takeR s = ⟨(rdNum (RdS.new s) 255).2, (rdRow (rdNum (RdS.new s) 255).1 20).2⟩ := if_neg (by omega)
 have hn := num_top (rd_new_ok hs) 255 (by decide)
 have hl := row_top (rdNum (RdS.new s) 255).1 20 (by decide)
 have hU := first_row (rdNum_ok (rd_new_ok hs) 255) _ 20 (first_num (rd_new_ok hs) _ 255 (upto_new s))
 obtain ⟨hw, hwe⟩ := upto_end (rdRow_ok (rdNum_ok (rd_new_ok hs) 255) 20) hU h
 rw [reply_s] at hw
 have hlay : layR (takeR s) = wrRow (wrNum WrS.new (rdNum (RdS.new s) 255).2) (rdRow (rdNum (RdS.new s) 255).1 20).2 := by rw [hT]; rfl
 have hnn : nneg (rdRow (rdNum (RdS.new s) 255).1 20).2 = true := by
   cases hq : nneg (rdRow (rdNum (RdS.new s) 255).1 20).2 with
   | true => rfl
   | false =>
     exfalso
     unfold wrRow wrPut at hwe
     split at hwe
     · rename_i h1; exact h1 hwe
     · rw [if_pos (by unfold rowN; rw [if_neg (by simp [hq])]; decide)] at hwe
       unfold rowN at hwe
       rw [if_neg (by simp [hq])] at hwe
       cases hwe
 have he : repE (takeR s) = 0 := by
   rw [hT, repE, if_neg]
   dsimp only
   intro hq
   rcases hq with hq | hq | hq | hq
   · omega
   · omega
   · omega
   · rw [hnn] at hq; cases hq
 refine ⟨he, ?_⟩
 rw [putR, if_pos he, hlay, hw]
theorem takeR_len (s : ByteArray) : (takeR s).nums.length ≤ 1000 := by
 unfold takeR
 split
 · exact Nat.zero_le _
 · exact rdRow_len _ _
theorem takeC_len (s : ByteArray) : (takeC s).lines.length ≤ 1000 := by
 unfold takeC
 split
 · have h1 := rdRow_len (sixR s 6) 10
   have : ∀ l : List Int, (pairsL l).length ≤ l.length := by
     intro l
     induction l using pairsL.induct with
     | case1 a b r ih => simp [pairsL]; omega
     | case2 t h => rw [show pairsL t = [] from by unfold pairsL; split <;> simp_all]; exact Nat.zero_le _
   exact Nat.le_trans (this _) h1
 · exact Nat.zero_le _
end Go.Proofs.YtnlpojjfkgnhhaaGreatDoor
namespace Go.Proofs.YtnlpojjfkgnhhaaGreatDoor
open Go.ChangeShapes Go.WideShapes Go.ChangeAt Go.RowKit
def popI (n : Int) : Int :=
 let a := IntKind.u64.wrap (bits BinOp.and IntKind.u64 (n / 2) 6148914691236517205 + bits BinOp.and IntKind.u64 n 6148914691236517205)
 let b := IntKind.u64.wrap (bits BinOp.and IntKind.u64 (a / 4) 3689348814741910323 + bits BinOp.and IntKind.u64 a 3689348814741910323)
 let c := bits BinOp.and IntKind.u64 (IntKind.u64.wrap (b / 16 + b)) 1085102592571150095
 let d := IntKind.u64.wrap (c + c / 256)
 let e := IntKind.u64.wrap (d + d / 65536)
 let g := IntKind.u64.wrap (e + e / 4294967296)
 bits BinOp.and IntKind.i64 (wrap64 g) 127
set_option maxHeartbeats 400000 in
theorem pop64_any (n : Int) (h0 : 0 ≤ n) (h1 : n ≤ 511) (w : World) :
   Calls Tryz.prog 172 #[.int .u64 n] w fun e w' => e = .returned (.int .i64 (popI n)) ∧ w = w' := by
 go_enter Tryz.func172, Tryz.ntmps172
 go_wp2
 go_ret
 exact ⟨rfl, rfl⟩
end Go.Proofs.YtnlpojjfkgnhhaaGreatDoor
namespace Go.Proofs.YtnlpojjfkgnhhaaGreatDoor
open NumP
structure At where
 t : Int
 id : Int
deriving DecidableEq
instance : Inhabited At := ⟨⟨0, 0⟩⟩
structure Mg where
 kind : Int
 from_ : Int
 id : Int
 t : Int
 bal : Int
 abal : Int
 phase : Int
 quorum : Int
 payload : ByteArray
 lo : Int
 hi : Int
 atts : List At
 marks : List Int
 done : Int
deriving DecidableEq
def Mg.zero : Mg := ⟨0, 0, 0, 0, 0, 0, 0, 0, ⟨#[]⟩, 0, 0, [], [], 0⟩
instance : Inhabited Mg := ⟨Mg.zero⟩
def identE (n : Int) : Int := if (decide (n < 10) || decide (999999 < n) || decide (n.tmod 10 = 0)) = true then 31 else 0
def selfP (n : Int) : Int := if (!decide (identE n = 0)) = true then 0 else n.tmod 10
def timeM (t : Int) : Bool := decide (1 ≤ t) && decide (t ≤ 1000000)
def markM (t : Int) : Bool := decide (0 ≤ t) && decide (t ≤ 1000000)
def balM (t : Int) : Bool := decide (1 ≤ t) && decide (t ≤ 1000000)
def setM (n : Int) : Bool := decide (0 ≤ n) && decide (n ≤ 511)
def countP (n : Int) : Int := if (!setM n) = true then 0 else popI n
def carriedM (m : Mg) : Bool := decide (0 < m.quorum) && decide (0 < countP m.quorum) && decide ((m.payload.size : Int) ≤ 300)
def lastT (l : List At) (lo : Int) (k : Nat) : Int := if k = 0 then lo else (l.getD (k - 1) default).t
def attAt (l : List At) (lo hi : Int) (k : Nat) : Bool := decide ((l.getD k default).t ≤ lastT l lo k) || decide (hi < (l.getD k default).t) || !decide (identE (l.getD k default).id = 0)
def attsOk (l : List At) (lo hi : Int) : Bool := (List.range l.length).all fun k => !attAt l lo hi k
def attachedM (l : List At) (lo hi : Int) : Bool := attsOk l lo hi && decide ((l.length : Int) ≤ 200)
def promM (m : Mg) : Bool :=
 if (!markM m.lo || !markM m.hi || decide (m.hi < m.lo) || !markM m.done || decide ((9 : Int) < (m.marks.length : Int))) = true then false else attachedM m.atts m.lo m.hi && !m.marks.any fun t => !markM t
def toldM (m : Mg) : Bool :=
 if (decide (m.abal < 0) || decide (m.bal ≤ m.abal) || !timeM m.t) = true then false else if (decide (m.abal = 0)) = true then decide (m.phase = 3) || decide (m.phase = 4) else decide (1 ≤ m.phase) && decide (m.phase ≤ 4)
def mayM (m : Mg) : Bool :=
 if m.kind = 10 then promM m else if identE m.id ≠ 0 then false else if m.kind = 1 ∨ m.kind = 5 then timeM m.t && carriedM m else if m.kind = 3 then timeM m.t && balM m.bal && carriedM m else
 if m.kind = 6 then balM m.bal && carriedM m else if m.kind = 9 then carriedM m else if m.kind = 2 then timeM m.t else if m.kind = 7 then balM m.bal && toldM m else balM m.bal
def bareM (m : Mg) : Mg :=
 let o : Mg := { Mg.zero with kind := m.kind, from_ := m.from_, id := m.id }
 if m.kind = 3 then { o with bal := m.bal, t := m.t, quorum := m.quorum, payload := m.payload } else if m.kind = 1 ∨ m.kind = 5 then { o with t := m.t, quorum := m.quorum, payload := m.payload } else
 if m.kind = 9 then { o with quorum := m.quorum, payload := m.payload } else if m.kind = 6 then { o with bal := m.bal, quorum := m.quorum, payload := m.payload } else
 if m.kind = 7 then { o with t := m.t, bal := m.bal, abal := m.abal, phase := m.phase } else if m.kind = 4 ∨ m.kind = 8 then { o with bal := m.bal } else if m.kind = 2 then { o with t := m.t } else
 if m.kind = 10 then { o with id := 0, lo := m.lo, hi := m.hi, atts := m.atts, marks := m.marks, done := m.done } else o
def checkM (m : Mg) : Int := if m.kind < 1 ∨ 10 < m.kind then 30 else if (decide (m.from_ < 1) || decide (9 < m.from_) || !decide (bareM m = m) || !mayM m) = true then 2 else 0
def tMsg : ByteArray := ⟨#[109, 115, 103]⟩
/-! ### bytes -/
def flatT (l : List At) : List Int := l.flatMap fun a => [a.t, a.id]
theorem flatT_len (l : List At) : (flatT l).length = 2 * l.length := by
 induction l with
 | nil => rfl
 | cons x l ih => simp [flatT] at ih ⊢; omega
theorem flatT_take (l : List At) (k : Nat) (h : k < l.length) : flatT (l.take (k + 1)) = flatT (l.take k) ++ [(l.getD k default).t, (l.getD k default).id] := by
 unfold flatT; rw [List.take_succ_eq_append_getElem h, List.flatMap_append]; simp [List.getD, h]
def pairsT : List Int → List At
 | a :: b :: r => ⟨a, b⟩ :: pairsT r
 | _ => []
theorem pairsT_flat : ∀ (n : Nat) (l : List Int), l.length = 2 * n → flatT (pairsT l) = l := by
 intro n
 induction n with
 | zero =>
   intro l h
   have : l = [] := List.length_eq_zero_iff.1 (by omega)
   subst this; rfl
 | succ n ih =>
   intro l h
   match l with
   | [] => simp at h
   | [a] => simp at h; omega
   | a :: b :: r =>
     show [a, b] ++ flatT (pairsT r) = _
     rw [ih r (by simp at h; omega)]; rfl
theorem pairsT_take (l : List Int) (k : Nat) (h : 2 * k + 1 < l.length) : pairsT (l.take (2 * (k + 1))) = pairsT (l.take (2 * k)) ++ [⟨l.getD (2 * k) default, l.getD (2 * k + 1) default⟩] := by
 induction k generalizing l with
 | zero =>
   match l with
   | [] => simp at h
   | [a] => simp at h
   | a :: b :: r => rfl
 | succ k ih =>
   match l with
   | [] => simp at h
   | [a] => simp at h
   | a :: b :: r =>
     have := ih r (by simp at h; omega)
     rw [show 2 * (k + 1 + 1) = 2 * (k + 1) + 1 + 1 by omega, show 2 * (k + 1) = 2 * k + 1 + 1 by omega, List.take_succ_cons, List.take_succ_cons, List.take_succ_cons, List.take_succ_cons, pairsT, pairsT]
     rw [show 2 * k + 1 + 1 = 2 * (k + 1) by omega, this]
     have e1 : (a :: b :: r).getD (2 * (k + 1)) default = r.getD (2 * k) default := by rw [show 2 * (k + 1) = 2 * k + 1 + 1 by omega]; rfl
     have e2 : (a :: b :: r).getD (2 * (k + 1) + 1) default = r.getD (2 * k + 1) default := by rw [show 2 * (k + 1) + 1 = 2 * k + 1 + 1 + 1 by omega]; rfl
     rw [e1, e2]; rfl
theorem pairsT_len : ∀ l : List Int, (pairsT l).length ≤ l.length
 | [] => Nat.le_refl _
 | [_] => by simp [pairsT]
 | a :: b :: r => by have := pairsT_len r; simp [pairsT]; omega
theorem pairsT_all : ∀ (l : List Int) (k : Nat), l.length ≤ 2 * k + 1 → pairsT (l.take (2 * k)) = pairsT l := by
 intro l
 induction l using pairsT.induct with
 | case1 a b r ih =>
   intro k h
   cases k with
   | zero => simp at h
   | succ k =>
     rw [show 2 * (k + 1) = 2 * k + 1 + 1 by omega, List.take_succ_cons, List.take_succ_cons, pairsT, pairsT, ih k (by simp at h; omega)]
 | case2 l h2 =>
   intro k h
   match l, h2 with
   | [], _ => simp
   | [a], _ => cases k with
     | zero => rfl
     | succ k => rw [List.take_of_length_le (by simp; omega)]
   | a :: b :: r, h2 => exact absurd rfl (h2 a b r)
def headM (m : Mg) : List Int := [m.kind, m.from_, m.id, m.t, m.bal, m.abal, m.phase, m.quorum]
def layM (m : Mg) : WrS := wrRow (wrRow (wrNums (wrText (wrNums WrS.new (headM m)) m.payload) [m.lo, m.hi, m.done]) (flatT m.atts)) m.marks
def putM (m : Mg) : ByteArray := if checkM m = 0 then (layM m).out else ⟨#[]⟩
def putMErr (m : Mg) : Er := if checkM m = 0 then errOf tWrite (layM m).p (layM m).e else Er.new tMsg (checkM m)
def numsR (r : RdS) : Nat → RdS
 | 0 => r
 | k + 1 => (rdNum (numsR r k) 2000000).1
def numsN (r : RdS) (k : Nat) : Int := (rdNum (numsR r k) 2000000).2
def payR (r : RdS) : RdS × ByteArray := rdText (numsR r 8) 300
def lohR (r : RdS) (k : Nat) : RdS := numsR (payR r).1 k
def attR (r : RdS) : RdS × List Int := rdRow (lohR r 3) 400
def marR (r : RdS) : RdS × List Int := rdRow (attR r).1 9
def rdMsg (r : RdS) : RdS := rdEnd (marR r).1
def msgOf (r : RdS) : Mg := ⟨numsN r 0, numsN r 1, numsN r 2, numsN r 3, numsN r 4, numsN r 5, numsN r 6, numsN r 7, (payR r).2, numsN (payR r).1 0, numsN (payR r).1 1, pairsT (attR r).2, (marR r).2, numsN (payR r).1 2⟩
def takeME (s : ByteArray) : Int :=
 if (rdMsg (RdS.new s)).e ≠ 0 then (rdMsg (RdS.new s)).e else if (attR (RdS.new s)).2.length % 2 = 1 then 5 else checkM (msgOf (RdS.new s))
def takeM (s : ByteArray) : Mg := if takeME s = 0 then msgOf (RdS.new s) else Mg.zero
def takeMErr (s : ByteArray) : Er :=
 if (rdMsg (RdS.new s)).e ≠ 0 then Er.wrap tTake (errOf tRead (rdMsg (RdS.new s)).p (rdMsg (RdS.new s)).e) else if (attR (RdS.new s)).2.length % 2 = 1 then Er.new tTake 5 else
 Er.wrap tTake (Er.new tMsg (checkM (msgOf (RdS.new s))))
theorem takeMErr_code (s : ByteArray) : (takeMErr s).code = takeME s := by
 unfold takeMErr takeME
 split
 · rw [wrap_code, errOf_code]
 · split
   · rw [new_code]
   · rw [wrap_code, new_code]
theorem numsR_ok {r : RdS} (h : r.ok) : ∀ k, (numsR r k).ok
 | 0 => h
 | k + 1 => rdNum_ok (numsR_ok h k) _
theorem numsR_s (r : RdS) : ∀ k, (numsR r k).s = r.s
 | 0 => rfl
 | k + 1 => by show (rdNum _ _).1.s = _; rw [rdNum_s, numsR_s r k]
theorem nums_upto {r : RdS} (hr : r.ok) {w : WrS} (h : Upto r w) : ∀ k, Upto (numsR r k) (wrNums w ((List.range k).map (numsN r))) := by
 intro k
 induction k with
 | zero => exact h
 | succ k ih =>
   rw [List.range_succ, List.map_append]
   unfold wrNums
   rw [List.foldl_append]
   exact first_num (numsR_ok hr k) _ _ ih
theorem takeME_zero {s : ByteArray} (h : takeME s = 0) : (rdMsg (RdS.new s)).e = 0 ∧ (attR (RdS.new s)).2.length % 2 = 0 ∧ checkM (msgOf (RdS.new s)) = 0 ∧ takeM s = msgOf (RdS.new s) := by
 have h0 := h
 unfold takeME at h
 split at h
 · rename_i h1; exact absurd h h1
 · rename_i h1
   split at h
   · cases h
   · exact ⟨by omega, by omega, h, by unfold takeM; rw [if_pos h0]⟩
theorem attR_ok {r : RdS} (h : r.ok) : (attR r).1.ok := rdRow_ok (numsR_ok (rdText_ok (numsR_ok h 8) _) 3) _
theorem msg_only {s : ByteArray} (hs : s.size ≤ 1000000) (h : takeME s = 0) : checkM (takeM s) = 0 ∧ putM (takeM s) = s ∧ (layM (takeM s)).e = 0 := by
 obtain ⟨h1, h2, h3, h4⟩ := takeME_zero h
 have hr := rd_new_ok hs
 have u1 := nums_upto hr (upto_new s) 8
 have u2 := first_text (numsR_ok hr 8) _ 300 u1
 have o2 := rdText_ok (numsR_ok hr 8) 300
 have u3 := nums_upto o2 u2 3
 have u4 := first_row (numsR_ok o2 3) _ 400 u3
 have u5 := first_row (attR_ok hr) _ 9 u4
 obtain ⟨e1, e2⟩ := upto_end (rdRow_ok (attR_ok hr) 9) u5 h1
 have es : (marR (RdS.new s)).1.s = s := by
   unfold marR attR lohR payR
   rw [rdRow_s, rdRow_s, numsR_s, rdText_s, numsR_s]; rfl
 have e3 : flatT (pairsT (attR (RdS.new s)).2) = (attR (RdS.new s)).2 := pairsT_flat ((attR (RdS.new s)).2.length / 2) _ (by omega)
 rw [h4]
 have e4 : layM (msgOf (RdS.new s)) = wrRow (wrRow (wrNums (wrText (wrNums WrS.new ((List.range 8).map (numsN (RdS.new s)))) (payR (RdS.new s)).2) ((List.range 3).map (numsN (payR (RdS.new s)).1))) (attR (RdS.new s)).2) (marR (RdS.new s)).2 := by
   show wrRow (wrRow _ (flatT (pairsT (attR (RdS.new s)).2))) _ = _
   rw [e3]; rfl
 refine ⟨h3, ?_, by rw [e4]; exact e2⟩
 unfold putM
 rw [if_pos h3, e4]
 exact e1.trans es
end Go.Proofs.YtnlpojjfkgnhhaaGreatDoor
namespace Go.Proofs.YtnlpojjfkgnhhaaGreatDoor
open Go.RowKit
open NumP
def aAt (s : At) : AV := .agg [.int .i64 s.t, .int .i64 s.id]
theorem aAt_ext {x y : At} (h : x.t = y.t ∧ x.id = y.id) : x = y := by
 obtain ⟨a0, a1⟩ := x
 obtain ⟨b0, b1⟩ := y
 simp only at h
 obtain ⟨rfl, rfl⟩ := h
 rfl
theorem aAt_ne {x y : At} (h : ¬x.t = y.t ∨ ¬x.id = y.id) : x ≠ y := by
 intro e; subst e; simp at h
def aMg (m : Mg) : AV := .agg [.int .i64 m.kind, .int .i64 m.from_, .int .i64 m.id, .int .i64 m.t, .int .i64 m.bal, .int .i64 m.abal, .int .i64 m.phase, .int .i64 m.quorum, .str m.payload, .int .i64 m.lo, .int .i64 m.hi, .sl (m.atts.map aAt), .sl (m.marks.map (AV.int .i64)), .int .i64 m.done]
theorem ones64_fn (n : Int) (h : 0 ≤ n ∧ n ≤ 511) : FnP Tryz.prog 172 [.int .u64 n] (.int .i64 (popI n)) :=
 FnP.of_calls rfl (by simp) (by simp) fun w => (pop64_any n h.1 h.2 w).mono fun e w' ⟨h1, h2⟩ => ⟨_, h1, h2 ▸ Below.refl _ _, .int _ _⟩
theorem wrapU {n : Int} (h : 0 ≤ n ∧ n ≤ 511) : IntKind.u64.wrap n = n := by
 show n % (2 ^ 64 : Int) = n
 omega
theorem lastT_succ (l : List At) (lo : Int) (k : Nat) : lastT l lo (k + 1) = (l.getD k default).t := by simp [lastT]
theorem ident_fn (n : Int) : FnP Tryz.prog 100 [.int .i64 n] (.int .i64 (identE n)) := by
 refine FnP.of Tryz.func100 rfl rfl (by simp) (by simp [AV.cells, aIn, aOut, aAt, aMg]) (fun G hG => ?_)
 have hN : NoH G.length (.int .i64 (identE n)) := (by simp [AV.cells, aIn, aOut, aAt, aMg])
 refine sr fun _ => ?_
 refine mz ?_
 refine AWP.seq (sr fun _ => ?_)
 refine mv ?_
 refine ρ6 ?_
 refine mv ?_
 refine ρh ?_
 refine ρb ?_
 refine ρ3 ?_
 refine mv ?_
 refine ρh ?_
 refine ARun.remI rfl rfl rfl rfl (Ev.opt rfl (fun h => h)) (ep rfl) (fun _ => by decide) optS ?_
 refine ρb ?_
 refine ρ3 ?_
 refine ez ?_
 refine ρo (fun h0 => ?_) (fun h0 => ?_)
 · refine sr fun _ => ?_
   refine mz ?_
   refine AWP.ret (thenA_r ?_)
   refine ρ9 ?_
   rw [identE, if_pos h0]; rfl
 refine AWP.skip (thenA_n (sr fun _ => ?_))
 refine mz ?_
 refine AWP.ret ?_
 refine ρ9 ?_
 rw [identE, if_neg (by rw [h0]; decide)]; rfl
theorem self_fn (n : Int) : FnP Tryz.prog 140 [.int .i64 n] (.int .i64 (selfP n)) := by
 refine FnP.of Tryz.func140 rfl rfl (by simp) (by simp [AV.cells, aIn, aOut, aAt, aMg]) (fun G hG => ?_)
 have hN : NoH G.length (.int .i64 (selfP n)) := (by simp [AV.cells, aIn, aOut, aAt, aMg])
 refine sr fun _ => ?_
 refine mz ?_
 refine AWP.seq (sr fun _ => ?_)
 refine mv ?_
 refine ρf cf100 (fun hg => ident_fn n) ?_
 refine ρ6 ?_
 refine ez ?_
 refine ρo (fun h0 => ?_) (fun h0 => ?_)
 · refine sr fun _ => ?_
   refine mz ?_
   refine AWP.ret (thenA_r ?_)
   refine ρ9 ?_
   rw [selfP, if_pos h0]; rfl
 refine AWP.skip (thenA_n (sr fun _ => ?_))
 refine mv ?_
 refine ARun.remI rfl rfl rfl rfl (ep rfl) (ep rfl) (fun _ => by decide) optN ?_
 refine mz ?_
 refine AWP.ret ?_
 refine ρ9 ?_
 rw [selfP, if_neg (by rw [h0]; decide)]
theorem setM_fn (n : Int) : FnP Tryz.prog 154 [.int .i64 n] (.bool (setM n)) := by
 refine FnP.of Tryz.func154 rfl rfl (by simp) (by simp [AV.cells, aIn, aOut, aAt, aMg]) (fun G hG => ?_)
 have hN : NoH G.length (.bool (setM n)) := (by simp [AV.cells, aIn, aOut, aAt, aMg])
 refine sr fun _ => ?_
 refine mz (sr fun _ => ?_)
 refine mv ?_
 refine ρ6 ?_
 refine mv ?_
 refine ρh ?_
 refine ρb ?_
 refine ρ1 ?_
 refine mz ?_
 refine AWP.ret ?_
 refine ρ9 ?_
 rfl
theorem ones_fn (n : Int) (h : 0 ≤ n ∧ n ≤ 511) : FnP Tryz.prog 155 [.int .u64 n] (.int .i64 (popI n)) := by
 refine FnP.of Tryz.func155 rfl rfl (by simp) (by simp [AV.cells, aIn, aOut, aAt, aMg]) (fun G hG => ?_)
 have hN : NoH G.length (.int .i64 (popI n)) := (by simp [AV.cells, aIn, aOut, aAt, aMg])
 refine sr fun _ => ?_
 refine mz ?_
 refine AWP.seq ?_
 refine ρo (fun h0 => ?_) (fun h0 => ?_)
 · cases h0
 refine AWP.skip (thenA_n (sr fun _ => ?_))
 refine mv ?_
 refine ρf cf172 (fun hg => ones64_fn n h) ?_
 refine mz ?_
 refine AWP.ret ?_
 refine ρ9 ?_
 rfl
theorem count_fn (n : Int) : FnP Tryz.prog 134 [.int .i64 n] (.int .i64 (countP n)) := by
 refine FnP.of Tryz.func134 rfl rfl (by simp) (by simp [AV.cells, aIn, aOut, aAt, aMg]) (fun G hG => ?_)
 have hN : NoH G.length (.int .i64 (countP n)) := (by simp [AV.cells, aIn, aOut, aAt, aMg])
 refine sr fun _ => ?_
 refine mz ?_
 refine AWP.seq (sr fun _ => ?_)
 refine mv ?_
 refine ρf cf154 (fun hg => setM_fn n) ?_
 refine ARun.not rfl rfl rfl rfl (ep rfl) optN ?_
 refine ez ?_
 refine ρo (fun h0 => ?_) (fun h0 => ?_)
 · refine sr fun _ => ?_
   refine mz ?_
   refine AWP.ret (thenA_r ?_)
   refine ρ9 ?_
   rw [countP, if_pos h0]; rfl
 have hs : 0 ≤ n ∧ n ≤ 511 := by simpa [setM] using h0
 refine AWP.skip (thenA_n (sr fun _ => ?_))
 refine mv ?_
 refine ARun.convI rfl rfl rfl rfl U3 U213 (ep rfl) (fun hg => wrapU hs) optN ?_
 refine ρf cf155 (fun hg => ones_fn n hs) ?_
 refine mz ?_
 refine AWP.ret ?_
 refine ρ9 ?_
 rw [countP, if_neg (by rw [h0]; decide)]
theorem timeM_fn (t : Int) : FnP Tryz.prog 101 [.int .i64 t] (.bool (timeM t)) := by
 refine FnP.of Tryz.func101 rfl rfl (by simp) (by simp [AV.cells, aIn, aOut, aAt, aMg]) (fun G hG => ?_)
 have hN : NoH G.length (.bool (timeM t)) := (by simp [AV.cells, aIn, aOut, aAt, aMg])
 refine sr fun _ => ?_
 refine mz (sr fun _ => ?_)
 refine mv ?_
 refine ρ6 ?_
 refine mv ?_
 refine ρh ?_
 refine ρb ?_
 refine ρ1 ?_
 refine mz ?_
 refine AWP.ret ?_
 refine ρ9 ?_
 rfl
theorem markM_fn (t : Int) : FnP Tryz.prog 131 [.int .i64 t] (.bool (markM t)) := by
 refine FnP.of Tryz.func131 rfl rfl (by simp) (by simp [AV.cells, aIn, aOut, aAt, aMg]) (fun G hG => ?_)
 have hN : NoH G.length (.bool (markM t)) := (by simp [AV.cells, aIn, aOut, aAt, aMg])
 refine sr fun _ => ?_
 refine mz (sr fun _ => ?_)
 refine mv ?_
 refine ρ6 ?_
 refine mv ?_
 refine ρh ?_
 refine ρb ?_
 refine ρ1 ?_
 refine mz ?_
 refine AWP.ret ?_
 refine ρ9 ?_
 rfl
theorem balM_fn (t : Int) : FnP Tryz.prog 103 [.int .i64 t] (.bool (balM t)) := by
 refine FnP.of Tryz.func103 rfl rfl (by simp) (by simp [AV.cells, aIn, aOut, aAt, aMg]) (fun G hG => ?_)
 have hN : NoH G.length (.bool (balM t)) := (by simp [AV.cells, aIn, aOut, aAt, aMg])
 refine sr fun _ => ?_
 refine mz (sr fun _ => ?_)
 refine mv ?_
 refine ρ6 ?_
 refine mv ?_
 refine ρh ?_
 refine ρb ?_
 refine ρ1 ?_
 refine mz ?_
 refine AWP.ret ?_
 refine ρ9 ?_
 rfl
theorem carried_fn (m : Mg) : FnP Tryz.prog 102 [aMg m] (.bool (carriedM m)) := by
 refine FnP.of Tryz.func102 rfl rfl (by simp) (by simp [AV.cells, aIn, aOut, aAt, aMg]) (fun G hG => ?_)
 have hN : NoH G.length (.bool (carriedM m)) := (by simp [AV.cells, aIn, aOut, aAt, aMg])
 refine sr fun _ => ?_
 refine ρt ?_
 refine mz (sr fun _ => ?_)
 refine ρ0 U26 sz3 ?_
 refine ρ2 U3 ?_
 refine ρ6 ?_
 refine mv ?_
 refine ρ5 U26 sz3 ?_
 refine ρ4 U3 ?_
 refine ρi cf134 (fun hg => count_fn m.quorum) ?_
 refine ρb ?_
 refine ρ1 ?_
 refine mv ?_
 refine ρ5 U26 sz9 ?_
 refine ρ4 U9 ?_
 refine ARun.lenStr rfl rfl rfl rfl U9 (Ev.opt rfl (fun h => h)) optS ?_
 refine ρb ?_
 refine ρ1 ?_
 refine mz ?_
 refine AWP.ret ?_
 refine ρ9 ?_
 rfl
theorem att_no {l : List At} {lo hi : Int} {k : Nat} (hk : k < l.length) (h : attAt l lo hi k = true) : attachedM l lo hi = false := by
 have : attsOk l lo hi = false := List.all_eq_false.2 ⟨k, List.mem_range.2 hk, by rw [h]; decide⟩
 unfold attachedM; rw [this, Bool.false_and]
theorem att_yes {l : List At} {lo hi : Int} (h : ∀ j, j < l.length → attAt l lo hi j = false) : attachedM l lo hi = decide ((l.length : Int) ≤ 200) := by
 have : attsOk l lo hi = true := List.all_eq_true.2 fun j hj => by rw [h j (List.mem_range.1 hj)]; rfl
 unfold attachedM; rw [this, Bool.true_and]
theorem attached_fn (l : List At) (lo hi : Int) (hl : l.length ≤ 1000000) : FnP Tryz.prog 133 [.sl (l.map aAt), .int .i64 lo, .int .i64 hi] (.bool (attachedM l lo hi)) := by
 refine FnP.of Tryz.func133 rfl rfl (by simp) (by simp [AV.cells, aIn, aOut, aAt, aMg]) (fun G hG => ?_)
 have hN : NoH G.length (.bool (attachedM l lo hi)) := (by simp [AV.cells, aIn, aOut, aAt, aMg])
 refine sr fun _ => ?_
 refine mz (sr fun _ => ?_)
 refine mv ?_
 refine mz ?_
 refine AWP.seq (sr fun _ => ?_)
 refine mv ?_
 refine ρq U23 ?_
 refine mv ?_
 refine ez ?_
 refine AWP.block ?_
 refine AWP.rounds (fun k => k ≤ l.length ∧ ∀ j, j < k → attAt l lo hi j = false) (fun k => [(0, .sl (l.map aAt)), (2, .int .i64 hi), (7, .int .i64 (lastT l lo k)), (11, .sl (l.map aAt)), (12, .int .i64 ((l.map aAt).length : Int)), (13, .int .i64 (k : Int))]) (fun k => []) (fun k => l.length - k) 0 0 ⟨by omega, fun j h => by omega⟩ (by repeat (first | exact .nil | refine .cons rfl ?_)) rfl (fun _ => rfl) (fun _ => ⟨by simp [AV.cells, aAt], by simp⟩) (fun k hI => ?_)
 obtain ⟨hk, hno⟩ := hI
 refine sr fun _ => ?_
 refine ρ6 ?_
 refine ez ?_
 refine AWP.seq ?_
 refine ρo (fun h0 => ?_) (fun h0 => ?_)
 · try simp [-List.getD_eq_getElem?_getD] at h0
   refine AWP.skip (thenA_n ?_)
   refine AWP.seq (AWP.block (sr fun _ => ?_))
   first | refine ρa U23 sz58 ?_ | refine ρ7 U23 sz58 ?_
   refine ρl U58 sz58 ?_
   refine ρp (j := 0) zv58 ?_
   refine ρ8 sz58 ?_
   refine ez ?_
   refine AWP.seq (AWP.seq ?_)
   refine AWP.frzBox 9 hG rfl rfl rfl ?_
   refine AWP.region (fun _ => ?_)
   refine ρ0 U58 sz3 ?_
   refine ρ2 U3 ?_
   refine mv ?_
   refine ρ6 ?_
   refine mv ?_
   refine ρ5 U58 sz3 ?_
   refine ρ4 U3 ?_
   refine ρh ?_
   refine ρm ?_
   refine ρ3 ?_
   refine mv ?_
   refine ρ5 U58 sz3 ?_
   refine ρ4 U3 ?_
   refine ρi cf100 (fun hg => ident_fn (l.getD k default).id) ?_
   refine ρb ?_
   refine ρ3 ?_
   refine ez ?_
   refine ρo (fun h1 => ?_) (fun h1 => ?_)
   · change attAt l lo hi k = true at h1
     refine sr fun _ => ?_
     refine mz ?_
     refine AWP.ret (thenA_r ?_)
     refine blockA_r (thenA_r ?_)
     refine thenA_r (blockA_r (thenA_r ?_))
     refine ρ9 ?_
     rw [att_no (by omega) h1]; rfl
   change attAt l lo hi k = false at h1
   refine AWP.skip (thenA_n ?_)
   refine AWP.region (fun _ => ?_)
   refine ρ0 U58 sz3 ?_
   refine ρ2 U3 ?_
   refine ma ?_
   refine ⟨_, _, rfl, hG, ?_⟩
   refine blockA_n (thenA_n ?_)
   refine AWP.region (fun _ => ?_)
   first | refine ρd ?_ | refine ρg ?_
   refine mv ?_
   refine ⟨_, _, rfl, hG, ?_⟩
   refine thenA_n ⟨rfl, k + 1, _, ?_, ?_, rfl, ?_⟩
   · refine ⟨by omega, fun j hj => ?_⟩
     by_cases e : j = k
     · subst e; exact h1
     exact hno j (by omega)
   · rw [lastT_succ]
     repeat (first | exact .nil | refine .cons rfl ?_)
   omega
 simp at h0
 obtain rfl : k = l.length := by omega
 refine AWP.exit ?_
 refine thenA_x ?_
 refine thenA_x ?_
 refine blockA_h ?_
 refine thenA_n (sr fun _ => ?_)
 refine mv ?_
 refine ρq U23 ?_
 refine ρ6 ?_
 refine mz ?_
 refine AWP.ret ?_
 refine ρ9 ?_
 rw [att_yes (fun j hj => hno j (by omega))]; simp
theorem told_fnM (m : Mg) : FnP Tryz.prog 104 [aMg m] (.bool (toldM m)) := by
 refine FnP.of Tryz.func104 rfl rfl (by simp) (by simp [AV.cells, aIn, aOut, aAt, aMg]) (fun G hG => ?_)
 have hN : NoH G.length (.bool (toldM m)) := (by simp [AV.cells, aIn, aOut, aAt, aMg])
 refine sr fun _ => ?_
 refine ρt ?_
 refine mz ?_
 refine AWP.seq (sr fun _ => ?_)
 refine ρ0 U26 sz3 ?_
 refine ρ2 U3 ?_
 refine ρ6 ?_
 refine mv ?_
 refine ρ5 U26 sz3 ?_
 refine ρ4 U3 ?_
 refine ρ5 U26 sz3 ?_
 refine ρ4 U3 ?_
 refine ρm ?_
 refine ρ3 ?_
 refine mv ?_
 refine ρ5 U26 sz3 ?_
 refine ρ4 U3 ?_
 refine ρi cf101 (fun hg => timeM_fn m.t) ?_
 refine ARun.not rfl rfl rfl rfl (Ev.opt rfl (fun h => h)) optS ?_
 refine ρ3 ?_
 refine ez ?_
 refine ρo (fun h0 => ?_) (fun h0 => ?_)
 · refine sr fun _ => ?_
   refine mz ?_
   refine AWP.ret (thenA_r ?_)
   refine ρ9 ?_
   rw [toldM, if_pos h0]; rfl
 refine AWP.skip (thenA_n (AWP.seq (sr fun _ => ?_)))
 refine ρ0 U26 sz3 ?_
 refine ρ2 U3 ?_
 refine ρ6 ?_
 refine ez ?_
 refine ρo (fun h1 => ?_) (fun h1 => ?_)
 · refine sr fun _ => ?_
   refine ρ0 U26 sz3 ?_
   refine ρ2 U3 ?_
   refine ρ6 ?_
   refine mv ?_
   refine ρ5 U26 sz3 ?_
   refine ρ4 U3 ?_
   refine ρb ?_
   refine ρ3 ?_
   refine mz ?_
   refine AWP.ret (thenA_r ?_)
   refine ρ9 ?_
   rw [toldM, if_neg (by rw [h0]; decide), if_pos h1]
 refine AWP.skip (thenA_n (sr fun _ => ?_))
 refine ρ0 U26 sz3 ?_
 refine ρ2 U3 ?_
 refine ρ6 ?_
 refine mv ?_
 refine ρ5 U26 sz3 ?_
 refine ρ4 U3 ?_
 refine ρb ?_
 refine ρ1 ?_
 refine mz ?_
 refine AWP.ret ?_
 refine ρ9 ?_
 rw [toldM, if_neg (by rw [h0]; decide), if_neg (by rw [h1]; decide)]
def namesM : List ByteArray := [⟨#[]⟩, ⟨#[112, 114, 111, 112, 111, 115, 101]⟩, ⟨#[112, 114, 111, 112, 111, 115, 101, 100]⟩, ⟨#[97, 99, 99, 101, 112, 116]⟩, ⟨#[97, 99, 99, 101, 112, 116, 101, 100]⟩, ⟨#[99, 111, 109, 109, 105, 116]⟩, ⟨#[114, 101, 115, 99, 117, 101]⟩, ⟨#[114, 101, 115, 99, 117, 101, 100]⟩, ⟨#[114, 101, 102, 117, 115, 101]⟩, ⟨#[112, 97, 121, 108, 111, 97, 100]⟩, ⟨#[112, 114, 111, 109, 105, 115, 101, 115]⟩]
def nameM (k : Int) : ByteArray := if (decide (k < 0) || decide (11 ≤ k)) = true then ⟨#[]⟩ else namesM.getD k.toNat default
theorem nameCell {k : Int} (h : (decide (k < 0) || decide (11 ≤ k)) = false) : (namesM.map AV.str)[0 + k.toNat * 1]? = some (.str (nameM k)) := by
 rw [nameM, if_neg (by rw [h]; decide)]
 simp only [Bool.or_eq_false_iff, decide_eq_false_iff_not] at h
 have h2 : k.toNat < 11 := by omega
 rw [Nat.zero_add, Nat.mul_one]
 exact getMap _ _ _ h2
theorem nameM_iff (k : Int) : nameM k = ⟨#[]⟩ ↔ k < 1 ∨ 10 < k := by
 by_cases h : k < 0 ∨ 11 ≤ k
 · rw [nameM, if_pos (by simpa using h)]
   simp only [true_iff]; omega
 have h1 : 0 ≤ k := by omega
 obtain ⟨n, rfl⟩ := Int.eq_ofNat_of_zero_le h1
 have h2 : n < 11 := by omega
 rw [nameM, if_neg (by simp; omega)]
 match n, h2 with
 | 0, _ => decide
 | 1, _ => decide
 | 2, _ => decide
 | 3, _ => decide
 | 4, _ => decide
 | 5, _ => decide
 | 6, _ => decide
 | 7, _ => decide
 | 8, _ => decide
 | 9, _ => decide
 | 10, _ => decide
theorem name_fnM (k : Int) : FnP Tryz.prog 53 [.int .i64 k] (.str (nameM k)) := by
 refine FnP.of Tryz.func53 rfl rfl (by simp) (by simp [AV.cells, aIn, aOut, aAt, aMg]) (fun G hG => ?_)
 have hN : NoH G.length (.str (nameM k)) := (by simp [AV.cells, aIn, aOut, aAt, aMg])
 refine sr fun _ => ?_
 refine mz (sr fun _ => ?_)
 refine ARun.buildArr rfl rfl rfl rfl U194 sz9 zv194 (.cons (ep rfl) (.cons (ep rfl) (.cons (ep rfl) (.cons (ep rfl) (.cons (ep rfl) (.cons (ep rfl) (.cons (ep rfl) (.cons (ep rfl) (.cons (ep rfl) (.cons (ep rfl) (.cons (ep rfl) .nil))))))))))) rfl rfl optN ?_
 refine ρp (j := 0) zv194 ?_
 refine ρ8 sz194 ?_
 refine ez ?_
 refine AWP.seq (sr fun _ => ?_)
 refine mv ?_
 refine ρ6 ?_
 refine mv ?_
 refine ρh ?_
 refine ρb ?_
 refine ρ3 ?_
 refine ez ?_
 refine ρo (fun h0 => ?_) (fun h0 => ?_)
 · refine sr fun _ => ?_
   refine mz ?_
   refine AWP.ret (thenA_r ?_)
   refine ρ9 ?_
   rw [nameM, if_pos h0]; rfl
 have hk0 : 0 ≤ k ∧ k < 11 := by simp at h0; omega
 refine AWP.skip (thenA_n (sr fun _ => ?_))
 refine mv ?_
 refine ARun.indexBox (fo := 0 + k.toNat * 1) rfl rfl rfl rfl U194 sz9 (ep rfl) ((hG.at _ _).trans rfl) (ep rfl) (j := k.toNat) (fun hg => by first | rfl | omega) (fun hg => by first | decide | omega) rfl optN ?_
 refine ARun.loadBox rfl rfl rfl rfl U9 rfl (ep rfl) ((hG.at _ _).trans rfl) (nameCell h0) optN ?_
 refine mz ?_
 refine AWP.ret ?_
 refine ρ9 ?_
 rfl
end Go.Proofs.YtnlpojjfkgnhhaaGreatDoor
namespace Go.Proofs.YtnlpojjfkgnhhaaGreatDoor
open Go.RowKit
open NumP
theorem bare_3 {m : Mg} (h : m.kind = 3) : aMg (bareM m) = .agg [.int .i64 m.kind, .int .i64 m.from_, .int .i64 m.id, .int .i64 m.t, .int .i64 m.bal, .int .i64 0, .int .i64 0, .int .i64 m.quorum, .str m.payload, .int .i64 0, .int .i64 0, .sl [], .sl [], .int .i64 0] := by
 unfold bareM; dsimp only; rw [if_pos h]; rfl
theorem bare_15 {m : Mg} (h : m.kind = 1 ∨ m.kind = 5) : aMg (bareM m) = .agg [.int .i64 m.kind, .int .i64 m.from_, .int .i64 m.id, .int .i64 m.t, .int .i64 0, .int .i64 0, .int .i64 0, .int .i64 m.quorum, .str m.payload, .int .i64 0, .int .i64 0, .sl [], .sl [], .int .i64 0] := by
 unfold bareM; dsimp only; rw [if_neg (by omega), if_pos h]; rfl
theorem bare_9 {m : Mg} (h : m.kind = 9) : aMg (bareM m) = .agg [.int .i64 m.kind, .int .i64 m.from_, .int .i64 m.id, .int .i64 0, .int .i64 0, .int .i64 0, .int .i64 0, .int .i64 m.quorum, .str m.payload, .int .i64 0, .int .i64 0, .sl [], .sl [], .int .i64 0] := by
 unfold bareM; dsimp only; rw [if_neg (by omega), if_neg (by omega), if_pos h]; rfl
theorem bare_6 {m : Mg} (h : m.kind = 6) : aMg (bareM m) = .agg [.int .i64 m.kind, .int .i64 m.from_, .int .i64 m.id, .int .i64 0, .int .i64 m.bal, .int .i64 0, .int .i64 0, .int .i64 m.quorum, .str m.payload, .int .i64 0, .int .i64 0, .sl [], .sl [], .int .i64 0] := by
 unfold bareM; dsimp only; rw [if_neg (by omega), if_neg (by omega), if_neg (by omega), if_pos h]; rfl
theorem bare_7 {m : Mg} (h : m.kind = 7) : aMg (bareM m) = .agg [.int .i64 m.kind, .int .i64 m.from_, .int .i64 m.id, .int .i64 m.t, .int .i64 m.bal, .int .i64 m.abal, .int .i64 m.phase, .int .i64 0, .str ⟨#[]⟩, .int .i64 0, .int .i64 0, .sl [], .sl [], .int .i64 0] := by
 unfold bareM; dsimp only; rw [if_neg (by omega), if_neg (by omega), if_neg (by omega), if_neg (by omega), if_pos h]; rfl
theorem bare_48 {m : Mg} (h : m.kind = 4 ∨ m.kind = 8) : aMg (bareM m) = .agg [.int .i64 m.kind, .int .i64 m.from_, .int .i64 m.id, .int .i64 0, .int .i64 m.bal, .int .i64 0, .int .i64 0, .int .i64 0, .str ⟨#[]⟩, .int .i64 0, .int .i64 0, .sl [], .sl [], .int .i64 0] := by
 unfold bareM; dsimp only; rw [if_neg (by omega), if_neg (by omega), if_neg (by omega), if_neg (by omega), if_neg (by omega), if_pos h]; rfl
theorem bare_2 {m : Mg} (h : m.kind = 2) : aMg (bareM m) = .agg [.int .i64 m.kind, .int .i64 m.from_, .int .i64 m.id, .int .i64 m.t, .int .i64 0, .int .i64 0, .int .i64 0, .int .i64 0, .str ⟨#[]⟩, .int .i64 0, .int .i64 0, .sl [], .sl [], .int .i64 0] := by
 unfold bareM; dsimp only; rw [if_neg (by omega), if_neg (by omega), if_neg (by omega), if_neg (by omega), if_neg (by omega), if_neg (by omega), if_pos h]; rfl
theorem bare_10 {m : Mg} (h : m.kind = 10) : aMg (bareM m) = .agg [.int .i64 m.kind, .int .i64 m.from_, .int .i64 0, .int .i64 0, .int .i64 0, .int .i64 0, .int .i64 0, .int .i64 0, .str ⟨#[]⟩, .int .i64 m.lo, .int .i64 m.hi, .sl (m.atts.map aAt), .sl (m.marks.map (AV.int .i64)), .int .i64 m.done] := by
 unfold bareM; dsimp only; rw [if_neg (by omega), if_neg (by omega), if_neg (by omega), if_neg (by omega), if_neg (by omega), if_neg (by omega), if_neg (by omega), if_pos h]; rfl
theorem bare_0 {m : Mg} (h : ¬ m.kind = 3 ∧ ¬ (m.kind = 1 ∨ m.kind = 5) ∧ ¬ m.kind = 9 ∧ ¬ m.kind = 6 ∧ ¬ m.kind = 7 ∧ ¬ (m.kind = 4 ∨ m.kind = 8) ∧ ¬ m.kind = 2 ∧ ¬ m.kind = 10) : aMg (bareM m) = .agg [.int .i64 m.kind, .int .i64 m.from_, .int .i64 m.id, .int .i64 0, .int .i64 0, .int .i64 0, .int .i64 0, .int .i64 0, .str ⟨#[]⟩, .int .i64 0, .int .i64 0, .sl [], .sl [], .int .i64 0] := by
 unfold bareM; dsimp only; rw [if_neg (by omega), if_neg (by omega), if_neg (by omega), if_neg (by omega), if_neg (by omega), if_neg (by omega), if_neg (by omega), if_neg (by omega)]; rfl
set_option maxHeartbeats 8000000 in
theorem bare_fnM (m : Mg) : FnP Tryz.prog 55 [aMg m] (aMg (bareM m)) := by
 refine FnP.of Tryz.func55 rfl rfl (by simp) (by simp [AV.cells, aIn, aOut, aAt, aMg]) (fun G hG => ?_)
 have hN : NoH G.length (aMg (bareM m)) := (by simp [AV.cells, aIn, aOut, aAt, aMg])
 refine sr fun _ => ?_
 refine ρt ?_
 refine ρp (j := 0) zv26 ?_
 refine ez (sr fun _ => ?_)
 refine ρ0 U26 sz3 ?_
 refine ρ2 U3 ?_
 refine ρ0 U26 sz3 ?_
 refine ρ2 U3 ?_
 refine ρ0 U26 sz3 ?_
 refine ρ2 U3 ?_
 refine ARun.build rfl rfl rfl rfl so26 (.cons (ep rfl) (.cons (ep rfl) (.cons (ep rfl) .nil))) rfl rfl optN ?_
 refine ρp (j := 1) zv26 ?_
 refine ρ8 sz26 ?_
 refine ez ?_
 refine AWP.seq (sr fun _ => ?_)
 refine ρ0 U26 sz3 ?_
 refine ρ2 U3 ?_
 refine ez ?_
 refine AWP.block (AWP.seq ?_)
 refine AWP.block (AWP.seq ?_)
 refine AWP.block (AWP.seq ?_)
 refine AWP.block (AWP.seq ?_)
 refine AWP.block (AWP.seq ?_)
 refine AWP.block (AWP.seq ?_)
 refine AWP.block (AWP.seq ?_)
 refine AWP.block (AWP.seq (AWP.block ?_))
 refine AWP.seq (AWP.seq ?_)
 refine sr fun _ => ?_
 refine ρ6 ?_
 refine mz ?_
 refine ρo (fun h0 => ?_) (fun h0 => ?_)
 · simp only [decide_eq_true_eq, decide_eq_false_iff_not] at h0
   show AWP _ _ _ _ _ _ _ [.box [.int .i64 0, .int .i64 0, .int .i64 0, .int .i64 0, .int .i64 0, .int .i64 0, .int .i64 0, .int .i64 0, .str ⟨#[]⟩, .int .i64 0, .int .i64 0, .sl [], .sl [], .int .i64 0], .box [.int .i64 m.kind, .int .i64 m.from_, .int .i64 m.id, .int .i64 0, .int .i64 0, .int .i64 0, .int .i64 0, .int .i64 0, .str ⟨#[]⟩, .int .i64 0, .int .i64 0, .sl [], .sl [], .int .i64 0]]
   refine AWP.exit ?_
   refine thenA_x ?_
   refine thenA_x ?_
   refine blockA_h ?_
   refine thenA_n ?_
   refine AWP.region (fun _ => ?_)
   refine ρ0 U26 sz3 ?_
   refine ρ2 U3 ?_
   refine ρe (fo := 4) U26 sz3 ?_
   refine ρc sz3 (show _ = [.int .i64 m.kind, .int .i64 m.from_, .int .i64 m.id, .int .i64 0, .int .i64 m.bal, .int .i64 0, .int .i64 0, .int .i64 0, .str ⟨#[]⟩, .int .i64 0, .int .i64 0, .sl [], .sl [], .int .i64 0] from rfl) ?_
   refine ⟨_, _, rfl, hG, ?_⟩
   refine blockA_n (thenA_n ?_)
   refine AWP.region (fun _ => ?_)
   refine ρ0 U26 sz3 ?_
   refine ρ2 U3 ?_
   refine ρe (fo := 3) U26 sz3 ?_
   refine ρc sz3 (show _ = [.int .i64 m.kind, .int .i64 m.from_, .int .i64 m.id, .int .i64 m.t, .int .i64 m.bal, .int .i64 0, .int .i64 0, .int .i64 0, .str ⟨#[]⟩, .int .i64 0, .int .i64 0, .sl [], .sl [], .int .i64 0] from rfl) ?_
   refine ⟨_, _, rfl, hG, ?_⟩
   refine blockA_n (thenA_n (AWP.seq ?_))
   refine AWP.draw mixed (by kernel_rfl) (fun _ => ?_)
   refine ρ0 U26 sz3 ?_
   refine ρ2 U3 ?_
   refine ρ0 U26 sz9 ?_
   refine ρ2 U9 ?_
   refine ρe (fo := 7) U26 sz3 ?_
   refine ρc sz3 (show _ = [.int .i64 m.kind, .int .i64 m.from_, .int .i64 m.id, .int .i64 m.t, .int .i64 m.bal, .int .i64 0, .int .i64 0, .int .i64 m.quorum, .str ⟨#[]⟩, .int .i64 0, .int .i64 0, .sl [], .sl [], .int .i64 0] from rfl) ?_
   refine ρe (fo := 8) U26 sz9 ?_
   refine ρc sz9 (show _ = [.int .i64 m.kind, .int .i64 m.from_, .int .i64 m.id, .int .i64 m.t, .int .i64 m.bal, .int .i64 0, .int .i64 0, .int .i64 m.quorum, .str m.payload, .int .i64 0, .int .i64 0, .sl [], .sl [], .int .i64 0] from rfl) ?_
   refine ⟨by kernel_rfl, _, _, rfl, hG, ?_⟩
   refine thenA_n ?_
   refine AWP.exit ?_
   refine blockA_o (by decide) ?_
   refine thenA_x ?_
   refine blockA_o (by decide) ?_
   refine thenA_x ?_
   refine blockA_o (by decide) ?_
   refine thenA_x ?_
   refine blockA_o (by decide) ?_
   refine thenA_x ?_
   refine blockA_o (by decide) ?_
   refine thenA_x ?_
   refine blockA_h ?_
   refine thenA_n (sr fun _ => ?_)
   refine ρs U26 sz26 ?_
   refine ρ8 sz26 ?_
   refine ez ?_
   refine AWP.ret ?_
   refine endF.one (.inr rfl) rfl (.cellA rfl ((hG.at _ _).trans rfl) U26 rfl sz26 rfl rfl) ?_ hN
   rw [bare_3 h0]; rfl
 simp only [decide_eq_true_eq, decide_eq_false_iff_not] at h0
 show AWP _ _ _ _ _ _ _ [.box [.int .i64 0, .int .i64 0, .int .i64 0, .int .i64 0, .int .i64 0, .int .i64 0, .int .i64 0, .int .i64 0, .str ⟨#[]⟩, .int .i64 0, .int .i64 0, .sl [], .sl [], .int .i64 0], .box [.int .i64 m.kind, .int .i64 m.from_, .int .i64 m.id, .int .i64 0, .int .i64 0, .int .i64 0, .int .i64 0, .int .i64 0, .str ⟨#[]⟩, .int .i64 0, .int .i64 0, .sl [], .sl [], .int .i64 0]]
 refine AWP.skip (thenA_n ?_)
 refine AWP.seq (AWP.seq ?_)
 refine sr fun _ => ?_
 refine ρ6 ?_
 refine mz ?_
 refine ρo (fun h1 => ?_) (fun h1 => ?_)
 · simp only [decide_eq_true_eq, decide_eq_false_iff_not] at h1
   refine AWP.skip (thenA_n ?_)
   refine ρo (fun h2 => ?_) (fun h2 => ?_)
   · simp only [decide_eq_true_eq, decide_eq_false_iff_not] at h2
     refine AWP.exit ?_
     refine thenA_x ?_
     refine thenA_x ?_
     refine blockA_o (by decide) ?_
     refine thenA_x ?_
     refine blockA_h ?_
     refine thenA_n ?_
     refine AWP.region (fun _ => ?_)
     refine ρ0 U26 sz3 ?_
     refine ρ2 U3 ?_
     refine ρe (fo := 3) U26 sz3 ?_
     refine ρc sz3 (show _ = [.int .i64 m.kind, .int .i64 m.from_, .int .i64 m.id, .int .i64 m.t, .int .i64 0, .int .i64 0, .int .i64 0, .int .i64 0, .str ⟨#[]⟩, .int .i64 0, .int .i64 0, .sl [], .sl [], .int .i64 0] from rfl) ?_
     refine ⟨_, _, rfl, hG, ?_⟩
     refine blockA_n (thenA_n (AWP.seq ?_))
     refine AWP.draw mixed (by kernel_rfl) (fun _ => ?_)
     refine ρ0 U26 sz3 ?_
     refine ρ2 U3 ?_
     refine ρ0 U26 sz9 ?_
     refine ρ2 U9 ?_
     refine ρe (fo := 7) U26 sz3 ?_
     refine ρc sz3 (show _ = [.int .i64 m.kind, .int .i64 m.from_, .int .i64 m.id, .int .i64 m.t, .int .i64 0, .int .i64 0, .int .i64 0, .int .i64 m.quorum, .str ⟨#[]⟩, .int .i64 0, .int .i64 0, .sl [], .sl [], .int .i64 0] from rfl) ?_
     refine ρe (fo := 8) U26 sz9 ?_
     refine ρc sz9 (show _ = [.int .i64 m.kind, .int .i64 m.from_, .int .i64 m.id, .int .i64 m.t, .int .i64 0, .int .i64 0, .int .i64 0, .int .i64 m.quorum, .str m.payload, .int .i64 0, .int .i64 0, .sl [], .sl [], .int .i64 0] from rfl) ?_
     refine ⟨by kernel_rfl, _, _, rfl, hG, ?_⟩
     refine thenA_n ?_
     refine AWP.exit ?_
     refine blockA_o (by decide) ?_
     refine thenA_x ?_
     refine blockA_o (by decide) ?_
     refine thenA_x ?_
     refine blockA_o (by decide) ?_
     refine thenA_x ?_
     refine blockA_o (by decide) ?_
     refine thenA_x ?_
     refine blockA_o (by decide) ?_
     refine thenA_x ?_
     refine blockA_h ?_
     refine thenA_n (sr fun _ => ?_)
     refine ρs U26 sz26 ?_
     refine ρ8 sz26 ?_
     refine ez ?_
     refine AWP.ret ?_
     refine endF.one (.inr rfl) rfl (.cellA rfl ((hG.at _ _).trans rfl) U26 rfl sz26 rfl rfl) ?_ hN
     rw [bare_15 (.inl h1)]; rfl
   rw [decide_eq_false_iff_not] at h2; exact absurd h1 h2
 simp only [decide_eq_true_eq, decide_eq_false_iff_not] at h1
 refine AWP.region (fun _ => ?_)
 refine ρ6 ?_
 refine mz ?_
 refine ρo (fun h3 => ?_) (fun h3 => ?_)
 · simp only [decide_eq_true_eq, decide_eq_false_iff_not] at h3
   refine AWP.exit ?_
   refine thenA_x ?_
   refine thenA_x ?_
   refine blockA_o (by decide) ?_
   refine thenA_x ?_
   refine blockA_h ?_
   refine thenA_n ?_
   refine AWP.region (fun _ => ?_)
   refine ρ0 U26 sz3 ?_
   refine ρ2 U3 ?_
   refine ρe (fo := 3) U26 sz3 ?_
   refine ρc sz3 (show _ = [.int .i64 m.kind, .int .i64 m.from_, .int .i64 m.id, .int .i64 m.t, .int .i64 0, .int .i64 0, .int .i64 0, .int .i64 0, .str ⟨#[]⟩, .int .i64 0, .int .i64 0, .sl [], .sl [], .int .i64 0] from rfl) ?_
   refine ⟨_, _, rfl, hG, ?_⟩
   refine blockA_n (thenA_n (AWP.seq ?_))
   refine AWP.draw mixed (by kernel_rfl) (fun _ => ?_)
   refine ρ0 U26 sz3 ?_
   refine ρ2 U3 ?_
   refine ρ0 U26 sz9 ?_
   refine ρ2 U9 ?_
   refine ρe (fo := 7) U26 sz3 ?_
   refine ρc sz3 (show _ = [.int .i64 m.kind, .int .i64 m.from_, .int .i64 m.id, .int .i64 m.t, .int .i64 0, .int .i64 0, .int .i64 0, .int .i64 m.quorum, .str ⟨#[]⟩, .int .i64 0, .int .i64 0, .sl [], .sl [], .int .i64 0] from rfl) ?_
   refine ρe (fo := 8) U26 sz9 ?_
   refine ρc sz9 (show _ = [.int .i64 m.kind, .int .i64 m.from_, .int .i64 m.id, .int .i64 m.t, .int .i64 0, .int .i64 0, .int .i64 0, .int .i64 m.quorum, .str m.payload, .int .i64 0, .int .i64 0, .sl [], .sl [], .int .i64 0] from rfl) ?_
   refine ⟨by kernel_rfl, _, _, rfl, hG, ?_⟩
   refine thenA_n ?_
   refine AWP.exit ?_
   refine blockA_o (by decide) ?_
   refine thenA_x ?_
   refine blockA_o (by decide) ?_
   refine thenA_x ?_
   refine blockA_o (by decide) ?_
   refine thenA_x ?_
   refine blockA_o (by decide) ?_
   refine thenA_x ?_
   refine blockA_o (by decide) ?_
   refine thenA_x ?_
   refine blockA_h ?_
   refine thenA_n (sr fun _ => ?_)
   refine ρs U26 sz26 ?_
   refine ρ8 sz26 ?_
   refine ez ?_
   refine AWP.ret ?_
   refine endF.one (.inr rfl) rfl (.cellA rfl ((hG.at _ _).trans rfl) U26 rfl sz26 rfl rfl) ?_ hN
   rw [bare_15 (.inr h3)]; rfl
 simp only [decide_eq_true_eq, decide_eq_false_iff_not] at h3
 refine AWP.skip (thenA_n (AWP.seq (sr fun _ => ?_)))
 refine ρ6 ?_
 refine mz ?_
 refine ρo (fun h4 => ?_) (fun h4 => ?_)
 · simp only [decide_eq_true_eq, decide_eq_false_iff_not] at h4
   refine AWP.exit ?_
   refine thenA_x ?_
   refine thenA_x ?_
   refine blockA_o (by decide) ?_
   refine thenA_x ?_
   refine blockA_o (by decide) ?_
   refine thenA_x ?_
   refine blockA_h ?_
   refine thenA_n (AWP.seq ?_)
   refine AWP.draw mixed (by kernel_rfl) (fun _ => ?_)
   refine ρ0 U26 sz3 ?_
   refine ρ2 U3 ?_
   refine ρ0 U26 sz9 ?_
   refine ρ2 U9 ?_
   refine ρe (fo := 7) U26 sz3 ?_
   refine ρc sz3 (show _ = [.int .i64 m.kind, .int .i64 m.from_, .int .i64 m.id, .int .i64 0, .int .i64 0, .int .i64 0, .int .i64 0, .int .i64 m.quorum, .str ⟨#[]⟩, .int .i64 0, .int .i64 0, .sl [], .sl [], .int .i64 0] from rfl) ?_
   refine ρe (fo := 8) U26 sz9 ?_
   refine ρc sz9 (show _ = [.int .i64 m.kind, .int .i64 m.from_, .int .i64 m.id, .int .i64 0, .int .i64 0, .int .i64 0, .int .i64 0, .int .i64 m.quorum, .str m.payload, .int .i64 0, .int .i64 0, .sl [], .sl [], .int .i64 0] from rfl) ?_
   refine ⟨by kernel_rfl, _, _, rfl, hG, ?_⟩
   refine thenA_n ?_
   refine AWP.exit ?_
   refine blockA_o (by decide) ?_
   refine thenA_x ?_
   refine blockA_o (by decide) ?_
   refine thenA_x ?_
   refine blockA_o (by decide) ?_
   refine thenA_x ?_
   refine blockA_o (by decide) ?_
   refine thenA_x ?_
   refine blockA_o (by decide) ?_
   refine thenA_x ?_
   refine blockA_h ?_
   refine thenA_n (sr fun _ => ?_)
   refine ρs U26 sz26 ?_
   refine ρ8 sz26 ?_
   refine ez ?_
   refine AWP.ret ?_
   refine endF.one (.inr rfl) rfl (.cellA rfl ((hG.at _ _).trans rfl) U26 rfl sz26 rfl rfl) ?_ hN
   rw [bare_9 h4]; rfl
 simp only [decide_eq_true_eq, decide_eq_false_iff_not] at h4
 refine AWP.skip (thenA_n (AWP.seq (sr fun _ => ?_)))
 refine ρ6 ?_
 refine mz ?_
 refine ρo (fun h5 => ?_) (fun h5 => ?_)
 · simp only [decide_eq_true_eq, decide_eq_false_iff_not] at h5
   refine AWP.exit ?_
   refine thenA_x ?_
   refine thenA_x ?_
   refine blockA_o (by decide) ?_
   refine thenA_x ?_
   refine blockA_o (by decide) ?_
   refine thenA_x ?_
   refine blockA_o (by decide) ?_
   refine thenA_x ?_
   refine blockA_h ?_
   refine thenA_n (AWP.seq ?_)
   refine AWP.draw mixed (by kernel_rfl) (fun _ => ?_)
   refine ρ0 U26 sz3 ?_
   refine ρ2 U3 ?_
   refine ρ0 U26 sz3 ?_
   refine ρ2 U3 ?_
   refine ρ0 U26 sz9 ?_
   refine ρ2 U9 ?_
   refine ρe (fo := 4) U26 sz3 ?_
   refine ρc sz3 (show _ = [.int .i64 m.kind, .int .i64 m.from_, .int .i64 m.id, .int .i64 0, .int .i64 m.bal, .int .i64 0, .int .i64 0, .int .i64 0, .str ⟨#[]⟩, .int .i64 0, .int .i64 0, .sl [], .sl [], .int .i64 0] from rfl) ?_
   refine ρe (fo := 7) U26 sz3 ?_
   refine ρc sz3 (show _ = [.int .i64 m.kind, .int .i64 m.from_, .int .i64 m.id, .int .i64 0, .int .i64 m.bal, .int .i64 0, .int .i64 0, .int .i64 m.quorum, .str ⟨#[]⟩, .int .i64 0, .int .i64 0, .sl [], .sl [], .int .i64 0] from rfl) ?_
   refine ρe (fo := 8) U26 sz9 ?_
   refine ρc sz9 (show _ = [.int .i64 m.kind, .int .i64 m.from_, .int .i64 m.id, .int .i64 0, .int .i64 m.bal, .int .i64 0, .int .i64 0, .int .i64 m.quorum, .str m.payload, .int .i64 0, .int .i64 0, .sl [], .sl [], .int .i64 0] from rfl) ?_
   refine ⟨by kernel_rfl, _, _, rfl, hG, ?_⟩
   refine thenA_n ?_
   refine AWP.exit ?_
   refine blockA_o (by decide) ?_
   refine thenA_x ?_
   refine blockA_o (by decide) ?_
   refine thenA_x ?_
   refine blockA_o (by decide) ?_
   refine thenA_x ?_
   refine blockA_o (by decide) ?_
   refine thenA_x ?_
   refine blockA_h ?_
   refine thenA_n (sr fun _ => ?_)
   refine ρs U26 sz26 ?_
   refine ρ8 sz26 ?_
   refine ez ?_
   refine AWP.ret ?_
   refine endF.one (.inr rfl) rfl (.cellA rfl ((hG.at _ _).trans rfl) U26 rfl sz26 rfl rfl) ?_ hN
   rw [bare_6 h5]; rfl
 simp only [decide_eq_true_eq, decide_eq_false_iff_not] at h5
 refine AWP.skip (thenA_n (AWP.seq (sr fun _ => ?_)))
 refine ρ6 ?_
 refine mz ?_
 refine ρo (fun h6 => ?_) (fun h6 => ?_)
 · simp only [decide_eq_true_eq, decide_eq_false_iff_not] at h6
   refine AWP.exit ?_
   refine thenA_x ?_
   refine thenA_x ?_
   refine blockA_o (by decide) ?_
   refine thenA_x ?_
   refine blockA_o (by decide) ?_
   refine thenA_x ?_
   refine blockA_o (by decide) ?_
   refine thenA_x ?_
   refine blockA_o (by decide) ?_
   refine thenA_x ?_
   refine blockA_h ?_
   refine thenA_n (AWP.seq ?_)
   refine AWP.draw mixed (by kernel_rfl) (fun _ => ?_)
   refine ρ0 U26 sz3 ?_
   refine ρ2 U3 ?_
   refine ρ0 U26 sz3 ?_
   refine ρ2 U3 ?_
   refine ρ0 U26 sz3 ?_
   refine ρ2 U3 ?_
   refine ρ0 U26 sz3 ?_
   refine ρ2 U3 ?_
   refine ρe (fo := 3) U26 sz3 ?_
   refine ρc sz3 (show _ = [.int .i64 m.kind, .int .i64 m.from_, .int .i64 m.id, .int .i64 m.t, .int .i64 0, .int .i64 0, .int .i64 0, .int .i64 0, .str ⟨#[]⟩, .int .i64 0, .int .i64 0, .sl [], .sl [], .int .i64 0] from rfl) ?_
   refine ρe (fo := 4) U26 sz3 ?_
   refine ρc sz3 (show _ = [.int .i64 m.kind, .int .i64 m.from_, .int .i64 m.id, .int .i64 m.t, .int .i64 m.bal, .int .i64 0, .int .i64 0, .int .i64 0, .str ⟨#[]⟩, .int .i64 0, .int .i64 0, .sl [], .sl [], .int .i64 0] from rfl) ?_
   refine ρe (fo := 5) U26 sz3 ?_
   refine ρc sz3 (show _ = [.int .i64 m.kind, .int .i64 m.from_, .int .i64 m.id, .int .i64 m.t, .int .i64 m.bal, .int .i64 m.abal, .int .i64 0, .int .i64 0, .str ⟨#[]⟩, .int .i64 0, .int .i64 0, .sl [], .sl [], .int .i64 0] from rfl) ?_
   refine ρe (fo := 6) U26 sz3 ?_
   refine ρc sz3 (show _ = [.int .i64 m.kind, .int .i64 m.from_, .int .i64 m.id, .int .i64 m.t, .int .i64 m.bal, .int .i64 m.abal, .int .i64 m.phase, .int .i64 0, .str ⟨#[]⟩, .int .i64 0, .int .i64 0, .sl [], .sl [], .int .i64 0] from rfl) ?_
   refine ⟨by kernel_rfl, _, _, rfl, hG, ?_⟩
   refine thenA_n ?_
   refine AWP.exit ?_
   refine blockA_o (by decide) ?_
   refine thenA_x ?_
   refine blockA_o (by decide) ?_
   refine thenA_x ?_
   refine blockA_o (by decide) ?_
   refine thenA_x ?_
   refine blockA_h ?_
   refine thenA_n (sr fun _ => ?_)
   refine ρs U26 sz26 ?_
   refine ρ8 sz26 ?_
   refine ez ?_
   refine AWP.ret ?_
   refine endF.one (.inr rfl) rfl (.cellA rfl ((hG.at _ _).trans rfl) U26 rfl sz26 rfl rfl) ?_ hN
   rw [bare_7 h6]; rfl
 simp only [decide_eq_true_eq, decide_eq_false_iff_not] at h6
 refine AWP.skip (thenA_n ?_)
 refine AWP.seq (AWP.seq ?_)
 refine sr fun _ => ?_
 refine ρ6 ?_
 refine mz ?_
 refine ρo (fun h7 => ?_) (fun h7 => ?_)
 · simp only [decide_eq_true_eq, decide_eq_false_iff_not] at h7
   refine AWP.skip (thenA_n ?_)
   refine ρo (fun h8 => ?_) (fun h8 => ?_)
   · simp only [decide_eq_true_eq, decide_eq_false_iff_not] at h8
     refine AWP.exit ?_
     refine thenA_x ?_
     refine thenA_x ?_
     refine blockA_o (by decide) ?_
     refine thenA_x ?_
     refine blockA_o (by decide) ?_
     refine thenA_x ?_
     refine blockA_o (by decide) ?_
     refine thenA_x ?_
     refine blockA_o (by decide) ?_
     refine thenA_x ?_
     refine blockA_o (by decide) ?_
     refine thenA_x ?_
     refine blockA_h ?_
     refine thenA_n (sr fun _ => ?_)
     refine ρ0 U26 sz3 ?_
     refine ρ2 U3 ?_
     refine ρe (fo := 4) U26 sz3 ?_
     refine ρc sz3 (show _ = [.int .i64 m.kind, .int .i64 m.from_, .int .i64 m.id, .int .i64 0, .int .i64 m.bal, .int .i64 0, .int .i64 0, .int .i64 0, .str ⟨#[]⟩, .int .i64 0, .int .i64 0, .sl [], .sl [], .int .i64 0] from rfl) ?_
     refine ez ?_
     refine AWP.exit ?_
     refine blockA_o (by decide) ?_
     refine thenA_x ?_
     refine blockA_o (by decide) ?_
     refine thenA_x ?_
     refine blockA_h ?_
     refine thenA_n (sr fun _ => ?_)
     refine ρs U26 sz26 ?_
     refine ρ8 sz26 ?_
     refine ez ?_
     refine AWP.ret ?_
     refine endF.one (.inr rfl) rfl (.cellA rfl ((hG.at _ _).trans rfl) U26 rfl sz26 rfl rfl) ?_ hN
     rw [bare_48 (.inl h7)]; rfl
   rw [decide_eq_false_iff_not] at h8; exact absurd h7 h8
 simp only [decide_eq_true_eq, decide_eq_false_iff_not] at h7
 refine AWP.region (fun _ => ?_)
 refine ρ6 ?_
 refine mz ?_
 refine ρo (fun h9 => ?_) (fun h9 => ?_)
 · simp only [decide_eq_true_eq, decide_eq_false_iff_not] at h9
   refine AWP.exit ?_
   refine thenA_x ?_
   refine thenA_x ?_
   refine blockA_o (by decide) ?_
   refine thenA_x ?_
   refine blockA_o (by decide) ?_
   refine thenA_x ?_
   refine blockA_o (by decide) ?_
   refine thenA_x ?_
   refine blockA_o (by decide) ?_
   refine thenA_x ?_
   refine blockA_o (by decide) ?_
   refine thenA_x ?_
   refine blockA_h ?_
   refine thenA_n (sr fun _ => ?_)
   refine ρ0 U26 sz3 ?_
   refine ρ2 U3 ?_
   refine ρe (fo := 4) U26 sz3 ?_
   refine ρc sz3 (show _ = [.int .i64 m.kind, .int .i64 m.from_, .int .i64 m.id, .int .i64 0, .int .i64 m.bal, .int .i64 0, .int .i64 0, .int .i64 0, .str ⟨#[]⟩, .int .i64 0, .int .i64 0, .sl [], .sl [], .int .i64 0] from rfl) ?_
   refine ez ?_
   refine AWP.exit ?_
   refine blockA_o (by decide) ?_
   refine thenA_x ?_
   refine blockA_o (by decide) ?_
   refine thenA_x ?_
   refine blockA_h ?_
   refine thenA_n (sr fun _ => ?_)
   refine ρs U26 sz26 ?_
   refine ρ8 sz26 ?_
   refine ez ?_
   refine AWP.ret ?_
   refine endF.one (.inr rfl) rfl (.cellA rfl ((hG.at _ _).trans rfl) U26 rfl sz26 rfl rfl) ?_ hN
   rw [bare_48 (.inr h9)]; rfl
 simp only [decide_eq_true_eq, decide_eq_false_iff_not] at h9
 refine AWP.skip (thenA_n (AWP.seq (sr fun _ => ?_)))
 refine ρ6 ?_
 refine mz ?_
 refine ρo (fun h10 => ?_) (fun h10 => ?_)
 · simp only [decide_eq_true_eq, decide_eq_false_iff_not] at h10
   refine AWP.exit ?_
   refine thenA_x ?_
   refine thenA_x ?_
   refine blockA_o (by decide) ?_
   refine thenA_x ?_
   refine blockA_o (by decide) ?_
   refine thenA_x ?_
   refine blockA_o (by decide) ?_
   refine thenA_x ?_
   refine blockA_o (by decide) ?_
   refine thenA_x ?_
   refine blockA_o (by decide) ?_
   refine thenA_x ?_
   refine blockA_o (by decide) ?_
   refine thenA_x ?_
   refine blockA_h ?_
   refine thenA_n (sr fun _ => ?_)
   refine ρ0 U26 sz3 ?_
   refine ρ2 U3 ?_
   refine ρe (fo := 3) U26 sz3 ?_
   refine ρc sz3 (show _ = [.int .i64 m.kind, .int .i64 m.from_, .int .i64 m.id, .int .i64 m.t, .int .i64 0, .int .i64 0, .int .i64 0, .int .i64 0, .str ⟨#[]⟩, .int .i64 0, .int .i64 0, .sl [], .sl [], .int .i64 0] from rfl) ?_
   refine ez ?_
   refine AWP.exit ?_
   refine blockA_o (by decide) ?_
   refine thenA_x ?_
   refine blockA_h ?_
   refine thenA_n (sr fun _ => ?_)
   refine ρs U26 sz26 ?_
   refine ρ8 sz26 ?_
   refine ez ?_
   refine AWP.ret ?_
   refine endF.one (.inr rfl) rfl (.cellA rfl ((hG.at _ _).trans rfl) U26 rfl sz26 rfl rfl) ?_ hN
   rw [bare_2 h10]; rfl
 simp only [decide_eq_true_eq, decide_eq_false_iff_not] at h10
 refine AWP.skip (thenA_n (sr fun _ => ?_))
 refine ρ6 ?_
 refine mz ?_
 refine ρo (fun h11 => ?_) (fun h11 => ?_)
 · simp only [decide_eq_true_eq, decide_eq_false_iff_not] at h11
   refine AWP.exit ?_
   refine thenA_x ?_
   refine blockA_o (by decide) ?_
   refine thenA_x ?_
   refine blockA_o (by decide) ?_
   refine thenA_x ?_
   refine blockA_o (by decide) ?_
   refine thenA_x ?_
   refine blockA_o (by decide) ?_
   refine thenA_x ?_
   refine blockA_o (by decide) ?_
   refine thenA_x ?_
   refine blockA_o (by decide) ?_
   refine thenA_x ?_
   refine blockA_o (by decide) ?_
   refine thenA_x ?_
   refine blockA_h ?_
   refine thenA_n (AWP.seq ?_)
   refine AWP.draw mixed (by kernel_rfl) (fun _ => ?_)
   refine ρ0 U26 sz3 ?_
   refine ρ2 U3 ?_
   refine ρ0 U26 sz3 ?_
   refine ρ2 U3 ?_
   refine ρ0 U26 sz23 ?_
   refine ρ2 U23 ?_
   refine ρ0 U26 sz24 ?_
   refine ρ2 U24 ?_
   refine ρ0 U26 sz3 ?_
   refine ρ2 U3 ?_
   refine ρe (fo := 2) U26 sz3 ?_
   refine ρc sz3 (show _ = [.int .i64 m.kind, .int .i64 m.from_, .int .i64 0, .int .i64 0, .int .i64 0, .int .i64 0, .int .i64 0, .int .i64 0, .str ⟨#[]⟩, .int .i64 0, .int .i64 0, .sl [], .sl [], .int .i64 0] from rfl) ?_
   refine ρe (fo := 9) U26 sz3 ?_
   refine ρc sz3 (show _ = [.int .i64 m.kind, .int .i64 m.from_, .int .i64 0, .int .i64 0, .int .i64 0, .int .i64 0, .int .i64 0, .int .i64 0, .str ⟨#[]⟩, .int .i64 m.lo, .int .i64 0, .sl [], .sl [], .int .i64 0] from rfl) ?_
   refine ρe (fo := 10) U26 sz3 ?_
   refine ρc sz3 (show _ = [.int .i64 m.kind, .int .i64 m.from_, .int .i64 0, .int .i64 0, .int .i64 0, .int .i64 0, .int .i64 0, .int .i64 0, .str ⟨#[]⟩, .int .i64 m.lo, .int .i64 m.hi, .sl [], .sl [], .int .i64 0] from rfl) ?_
   refine ρe (fo := 11) U26 sz23 ?_
   refine ρc sz23 (show _ = [.int .i64 m.kind, .int .i64 m.from_, .int .i64 0, .int .i64 0, .int .i64 0, .int .i64 0, .int .i64 0, .int .i64 0, .str ⟨#[]⟩, .int .i64 m.lo, .int .i64 m.hi, .sl (m.atts.map aAt), .sl [], .int .i64 0] from rfl) ?_
   refine ρe (fo := 12) U26 sz24 ?_
   refine ρc sz24 (show _ = [.int .i64 m.kind, .int .i64 m.from_, .int .i64 0, .int .i64 0, .int .i64 0, .int .i64 0, .int .i64 0, .int .i64 0, .str ⟨#[]⟩, .int .i64 m.lo, .int .i64 m.hi, .sl (m.atts.map aAt), .sl (m.marks.map (AV.int .i64)), .int .i64 0] from rfl) ?_
   refine ρe (fo := 13) U26 sz3 ?_
   refine ρc sz3 (show _ = [.int .i64 m.kind, .int .i64 m.from_, .int .i64 0, .int .i64 0, .int .i64 0, .int .i64 0, .int .i64 0, .int .i64 0, .str ⟨#[]⟩, .int .i64 m.lo, .int .i64 m.hi, .sl (m.atts.map aAt), .sl (m.marks.map (AV.int .i64)), .int .i64 m.done] from rfl) ?_
   refine ⟨by kernel_rfl, _, _, rfl, hG, ?_⟩
   refine thenA_n ?_
   refine AWP.exit ?_
   refine blockA_h ?_
   refine thenA_n (sr fun _ => ?_)
   refine ρs U26 sz26 ?_
   refine ρ8 sz26 ?_
   refine ez ?_
   refine AWP.ret ?_
   refine endF.one (.inr rfl) rfl (.cellA rfl ((hG.at _ _).trans rfl) U26 rfl sz26 rfl rfl) ?_ hN
   rw [bare_10 h11]; rfl
 simp only [decide_eq_true_eq, decide_eq_false_iff_not] at h11
 refine AWP.skip (thenA_n ?_)
 refine AWP.exit ?_
 refine blockA_o (by decide) ?_
 refine thenA_x ?_
 refine blockA_o (by decide) ?_
 refine thenA_x ?_
 refine blockA_o (by decide) ?_
 refine thenA_x ?_
 refine blockA_o (by decide) ?_
 refine thenA_x ?_
 refine blockA_o (by decide) ?_
 refine thenA_x ?_
 refine blockA_o (by decide) ?_
 refine thenA_x ?_
 refine blockA_o (by decide) ?_
 refine thenA_x ?_
 refine blockA_o (by decide) ?_
 refine thenA_x ?_
 refine blockA_h ?_
 refine thenA_n (sr fun _ => ?_)
 refine ρs U26 sz26 ?_
 refine ρ8 sz26 ?_
 refine ez ?_
 refine AWP.ret ?_
 refine endF.one (.inr rfl) rfl (.cellA rfl ((hG.at _ _).trans rfl) U26 rfl sz26 rfl rfl) ?_ hN
 rw [bare_0 ⟨h0, by omega, h4, h5, h6, by omega, h10, h11⟩]; rfl
end Go.Proofs.YtnlpojjfkgnhhaaGreatDoor
namespace Go.Proofs.YtnlpojjfkgnhhaaGreatDoor
open Go.ChangeShapes Go.WideShapes Go.ChangeAt Go.RowKit
theorem flat_len {α : Type} (enc : α → List Value) (sz : Nat) (hz : ∀ x, (enc x).length = sz) (xs : List α) : (xs.flatMap enc).length = xs.length * sz := by
 induction xs with
 | nil => simp
 | cons x xs ih => rw [List.flatMap_cons, List.length_append, ih, hz, List.length_cons, Nat.add_mul]; omega
theorem Reads.flat {α : Type} {enc : α → List Value} {sz : Nat} (hsz : 0 < sz) (hz : ∀ x, (enc x).length = sz) {w : World} {ad : Addr} {xs : List α} (h : Reads enc sz w (some ad) xs) :
   ∀ j u, (xs.flatMap enc)[j]? = some u → ad.block < w.heap.size ∧ w.cell? (ad.add j) = some u := by
 intro j u hu
 have hj : j < xs.length * sz := by
   have := (List.getElem?_eq_some_iff.1 hu).1
   rwa [flat_len enc sz hz] at this
 have hi : j / sz < xs.length := (Nat.div_lt_iff_lt_mul hsz).2 hj
 obtain ⟨b, off, ha, hb, hc⟩ := h (j / sz) hi
 simp only [Option.some.injEq] at ha
 subst ha
 have hr := hc (j % sz) (Nat.mod_lt _ hsz)
 rw [← flat_get enc sz hz xs (j / sz) hi (j % sz) (Nat.mod_lt _ hsz)] at hr
 have e : j / sz * sz + j % sz = j := by rw [Nat.mul_comm]; exact Nat.div_add_mod j sz
 rw [Nat.add_assoc, e] at hr
 exact ⟨hb, by rw [addr_add]; exact hr.trans hu⟩
end Go.Proofs.YtnlpojjfkgnhhaaGreatDoor
namespace Go.Proofs.YtnlpojjfkgnhhaaGreatDoor
open Go.RowKit Go.WideShapes
inductive AllRep (β : List Hd) (w : World) : List Value → List AV → Prop where
 | nil : AllRep β w [] []
 | cons {v : Value} {x : AV} {vs : List Value} {xs : List AV} (h : VRep β w v x) (t : AllRep β w vs xs) : AllRep β w (v :: vs) (x :: xs)
theorem AllRep.reps {β : List Hd} {w : World} : ∀ {vs : List Value} {xs : List AV}, AllRep β w vs xs → VReps β w vs.toArray xs := by
 intro vs
 induction vs with
 | nil => intro xs h; cases h; exact ⟨rfl, fun j u x h => by simp at h⟩
 | cons v vs ih =>
   intro xs h
   cases h with
   | cons h t =>
     obtain ⟨h1, h2⟩ := ih t
     refine ⟨by simpa using h1, fun j u x k1 k2 => ?_⟩
     cases j with
     | zero => simp at k1 k2; subst k1 k2; exact h
     | succ j => exact h2 j u x (by simpa using k1) (by simpa using k2)
theorem law_of_fn {P : Program} {F : FuncId} {args : List AV} (h : FnP P F args (.bool true)) {w : World} (hg : GOk [] w) {vs : List Value} (hv : AllRep [] w vs args) : Calls P F vs.toArray w fun e w' => e = .returned (.bool true) ∧ Below w.heap.size w w' := by
 refine (pure_call h (HRel.nil w hg) hv.reps).mono ?_
 rintro e w' ⟨v, rfl, hb, hr⟩
 obtain rfl := hr.bool_inv
 exact ⟨rfl, hb⟩
end Go.Proofs.YtnlpojjfkgnhhaaGreatDoor
namespace Go.Proofs.YtnlpojjfkgnhhaaGreatDoor
open Go.RowKit
open NumP
def aLn (s : Ln) : AV := .agg [.int .i64 s.item, .int .i64 s.qty]
def aCl (c : Cl) : AV := .agg [.int .i64 c.client, .int .i64 c.seq, .int .i64 c.kind, .int .i64 c.item, .int .i64 c.to_, .int .i64 c.qty, .sl (c.lines.map aLn)]
def aRp (r : Rp) : AV := .agg [.int .i64 r.code, .sl (r.nums.map (AV.int .i64))]
theorem okAt_not (l : List Ln) (k : Nat) : (!numbP (l.getD k default).item || decide ((l.getD k default).item ≤ lastAt l k) || !someP (l.getD k default).qty) = !okAt l k := by
 cases h : numbP (l.getD k default).item with
 | false => unfold okAt; rw [h]; rfl
 | true =>
   unfold okAt
   rw [okAt_iff l k h, h]
   by_cases h2 : lastAt l k < (l.getD k default).item
   · rw [decide_eq_true h2, decide_eq_false (by omega)]; simp
   rw [decide_eq_false h2, decide_eq_true (by omega)]; simp
theorem new_none (p : ByteArray) (e : Int) : (Er.new p e).isNone = decide (e = 0) := by unfold Er.new; split <;> simp_all [Er.isNone]
theorem wrap_none (p : ByteArray) (e : Er) : (Er.wrap p e).isNone = e.isNone := by unfold Er.wrap; split <;> simp_all [Er.isNone]
theorem flat_snoc (l : List Ln) (k : Nat) (h : k < l.length) : (flatL (l.take k)).map (AV.int .i64) ++ [AV.int .i64 (l.getD k default).item, AV.int .i64 (l.getD k default).qty] = (flatL (l.take (k + 1))).map (AV.int .i64) := by rw [flatL_take l k h]; simp
theorem any_neg (l : List Int) : (l.any fun n => decide (n < 0)) = !nneg l := by
 induction l with
 | nil => rfl
 | cons x l ih => simp only [List.any_cons, nneg, List.all_cons] at ih ⊢; rw [ih]; by_cases h : x < 0 <;> simp [h] <;> omega
theorem pair_snoc (l : List Int) (k : Nat) (h : 2 * k + 1 < l.length) : (pairsL (l.take (2 * k))).map aLn ++ [AV.agg [AV.int .i64 (l.getD (2 * k) default), AV.int .i64 (l.getD (2 * k + 1) default)]] = (pairsL (l.take (2 * (k + 1)))).map aLn := by rw [pairsL_take l k h]; simp [aLn]
theorem pairsL_len : ∀ l : List Int, (pairsL l).length ≤ l.length
 | [] => Nat.le_refl _
 | [_] => by simp [pairsL]
 | a :: b :: r => by have := pairsL_len r; simp [pairsL]; omega
theorem last_succ (l : List Ln) (k : Nat) : lastAt l (k + 1) = (l.getD k default).item := by simp [lastAt]
theorem number_fn (n : Int) : FnP Tryz.prog 71 [.int .i64 n] (.bool (numbP n)) := by
 refine FnP.of Tryz.func71 rfl rfl (by simp) (by simp [AV.cells, aIn, aOut, aLn, aCl, aRp]) (fun G hG => ?_)
 have hN : NoH G.length (.bool (numbP n)) := (by simp [AV.cells, aIn, aOut, aLn, aCl, aRp])
 refine sr fun _ => ?_
 refine mz (sr fun _ => ?_)
 refine mv ?_
 refine ρ6 ?_
 refine mv ?_
 refine ρh ?_
 refine ρb ?_
 refine ρ1 ?_
 refine mz ?_
 refine AWP.ret ?_
 refine ρ9 ?_
 rfl
theorem some_fn (n : Int) : FnP Tryz.prog 111 [.int .i64 n] (.bool (someP n)) := by
 refine FnP.of Tryz.func111 rfl rfl (by simp) (by simp [AV.cells, aIn, aOut, aLn, aCl, aRp]) (fun G hG => ?_)
 have hN : NoH G.length (.bool (someP n)) := (by simp [AV.cells, aIn, aOut, aLn, aCl, aRp])
 refine sr fun _ => ?_
 refine mz (sr fun _ => ?_)
 refine mv ?_
 refine ρ6 ?_
 refine mv ?_
 refine ρh ?_
 refine ρb ?_
 refine ρ1 ?_
 refine mz ?_
 refine AWP.ret ?_
 refine ρ9 ?_
 rfl
theorem lines_fn (l : List Ln) (hl : l.length ≤ 100000) : FnP Tryz.prog 112 [.sl (l.map aLn)] (.bool (linesP l)) := by
 refine FnP.of Tryz.func112 rfl rfl (by simp) (by simp [AV.cells, aIn, aOut, aLn, aCl, aRp]) (fun G hG => ?_)
 have hN : NoH G.length (.bool (linesP l)) := (by simp [AV.cells, aIn, aOut, aLn, aCl, aRp])
 refine sr fun _ => ?_
 refine mz (sr fun _ => ?_)
 refine mz ?_
 refine AWP.seq (sr fun _ => ?_)
 refine mv ?_
 refine ρq U42 ?_
 refine mv ?_
 refine ez ?_
 refine AWP.block ?_
 refine AWP.rounds (fun k => k ≤ l.length ∧ ∀ j, j < k → okAt l j = true) (fun k => [(0, .sl (l.map aLn)), (3, .int .i64 (lastAt l k)), (6, .sl (l.map aLn)), (7, .int .i64 ((l.map aLn).length : Int)), (8, .int .i64 (k : Int))]) (fun k => []) (fun k => l.length - k) 0 0 ⟨by omega, fun j h => by omega⟩ (by repeat (first | exact .nil | refine .cons rfl ?_)) rfl (fun _ => rfl) (fun _ => ⟨by simp [AV.cells, aLn], by simp⟩) (fun k hI => ?_)
 obtain ⟨hk, hno⟩ := hI
 refine sr fun _ => ?_
 refine ρ6 ?_
 refine ez ?_
 refine AWP.seq ?_
 refine ρo (fun h0 => ?_) (fun h0 => ?_)
 · try simp [-List.getD_eq_getElem?_getD] at h0
   refine AWP.skip (thenA_n ?_)
   refine AWP.seq (AWP.block (sr fun _ => ?_))
   first | refine ρa U42 sz101 ?_ | refine ρ7 U42 sz101 ?_
   refine ρl U101 sz101 ?_
   refine ρp (j := 0) zv101 ?_
   refine ρ8 sz101 ?_
   refine ez ?_
   refine AWP.seq (sr fun _ => ?_)
   refine ρe (fo := 0) U101 sz3 ?_
   refine ARun.loadBox rfl rfl rfl rfl U3 rfl (ep rfl) ((hG.at _ _).trans rfl) rfl optN ?_
   refine ρf cf71 (fun hg => number_fn (l.getD k default).item) ?_
   refine ARun.not rfl rfl rfl rfl (ep rfl) optN ?_
   refine mv ?_
   refine ARun.fieldBox (fo := 0) rfl rfl rfl rfl U101 rfl rfl sz3 (by decide) (ep rfl) ((hG.at _ _).trans rfl) optS ?_
   refine ARun.loadBox rfl rfl rfl rfl U3 rfl (Ev.opt rfl (fun h => h)) ((hG.at _ _).trans rfl) rfl optS ?_
   refine ρh ?_
   refine ρm ?_
   refine ρ3 ?_
   refine mv ?_
   refine ARun.fieldBox (fo := 1) rfl rfl rfl rfl U101 rfl rfl sz3 (by decide) (ep rfl) ((hG.at _ _).trans rfl) optS ?_
   refine ARun.loadBox rfl rfl rfl rfl U3 rfl (Ev.opt rfl (fun h => h)) ((hG.at _ _).trans rfl) rfl optS ?_
   refine ρi cf111 (fun hg => some_fn (l.getD k default).qty) ?_
   refine ARun.not rfl rfl rfl rfl (Ev.opt rfl (fun h => h)) optS ?_
   refine ρ3 ?_
   refine ez ?_
   refine ρo (fun h1 => ?_) (fun h1 => ?_)
   · rw [show (!numbP (l.getD k default).item || decide ((l.getD k default).item ≤ lastAt l k) || !someP (l.getD k default).qty) = !okAt l k from okAt_not l k] at h1
     simp only [Bool.not_eq_true'] at h1
     refine sr fun _ => ?_
     refine mz ?_
     refine AWP.ret (thenA_r ?_)
     refine blockA_r (thenA_r ?_)
     refine thenA_r (blockA_r (thenA_r ?_))
     refine ρ9 ?_
     rw [linesP_no (by omega) h1]; rfl
   rw [show (!numbP (l.getD k default).item || decide ((l.getD k default).item ≤ lastAt l k) || !someP (l.getD k default).qty) = !okAt l k from okAt_not l k] at h1
   simp only [Bool.not_eq_false'] at h1
   refine AWP.skip (thenA_n ?_)
   refine AWP.region (fun _ => ?_)
   refine ρe (fo := 0) U101 sz3 ?_
   refine ARun.loadBox rfl rfl rfl rfl U3 rfl (ep rfl) ((hG.at _ _).trans rfl) rfl optN ?_
   refine ma ?_
   refine ⟨_, _, rfl, hG, ?_⟩
   refine blockA_n (thenA_n ?_)
   refine AWP.region (fun _ => ?_)
   first | refine ρd ?_ | refine ρg ?_
   refine mv ?_
   refine ⟨_, _, rfl, hG, ?_⟩
   refine thenA_n ⟨rfl, k + 1, _, ?_, ?_, rfl, ?_⟩
   · refine ⟨by omega, fun j hj => ?_⟩
     by_cases e : j = k
     · subst e; exact h1
     exact hno j (by omega)
   · rw [last_succ]
     repeat (first | exact .nil | refine .cons rfl ?_)
   omega
 try simp [-List.getD_eq_getElem?_getD] at h0
 refine AWP.exit ?_
 refine thenA_x ?_
 refine thenA_x ?_
 refine blockA_h ?_
 refine thenA_n (sr fun _ => ?_)
 refine mv ?_
 refine ρq U42 ?_
 refine ρ6 ?_
 refine mv ?_
 refine ρh ?_
 refine ARun.lenSl rfl rfl rfl rfl U42 (Ev.opt rfl (fun h => h)) optS ?_
 refine ρb ?_
 refine ρ1 ?_
 refine mz ?_
 refine AWP.ret ?_
 refine ρ9 ?_
 rw [linesP_yes (fun j hj => hno j (by omega))]; first | (simp; done) | (simp; congr 1; exact decide_eq_decide.2 (by omega))
theorem bare_fn (c : Cl) : FnP Tryz.prog 110 [aCl c] (.bool (bareP c)) := by
 refine FnP.of Tryz.func110 rfl rfl (by simp) (by simp [AV.cells, aIn, aOut, aLn, aCl, aRp]) (fun G hG => ?_)
 have hN : NoH G.length (.bool (bareP c)) := (by simp [AV.cells, aIn, aOut, aLn, aCl, aRp])
 refine sr fun _ => ?_
 refine ρt ?_
 refine mz (sr fun _ => ?_)
 refine ρ0 U44 sz3 ?_
 refine ρ2 U3 ?_
 refine ρ6 ?_
 refine mv ?_
 refine ρ5 U44 sz42 ?_
 refine ρ4 U42 ?_
 refine ARun.lenSl rfl rfl rfl rfl U42 (Ev.opt rfl (fun h => h)) optS ?_
 refine ρb ?_
 refine ρ1 ?_
 refine mv ?_
 refine ρ5 U44 sz3 ?_
 refine ρ4 U3 ?_
 refine ρi cf71 (fun hg => number_fn c.item) ?_
 refine ρ1 ?_
 refine mz ?_
 refine AWP.ret ?_
 refine ρ9 ?_
 simp [bareP]
theorem may_fn (c : Cl) (hl : c.lines.length ≤ 100000) : FnP Tryz.prog 72 [aCl c] (.bool (mayP c)) := by
 refine FnP.of Tryz.func72 rfl rfl (by simp) (by simp [AV.cells, aIn, aOut, aLn, aCl, aRp]) (fun G hG => ?_)
 have hN : NoH G.length (.bool (mayP c)) := (by simp [AV.cells, aIn, aOut, aLn, aCl, aRp])
 refine sr fun _ => ?_
 refine ρt ?_
 refine mz ?_
 refine AWP.seq (sr fun _ => ?_)
 refine ρ0 U44 sz3 ?_
 refine ρ2 U3 ?_
 refine ez ?_
 refine AWP.block (sr fun _ => ?_)
 refine ρ6 ?_
 refine mz ?_
 refine ρo (fun h0 => ?_) (fun h0 => ?_)
 · simp at h0
   refine sr fun _ => ?_
   refine ρl U44 sz44 ?_
   refine ρf cf110 (fun hg => bare_fn c) ?_
   refine mv ?_
   refine ρ5 U44 sz3 ?_
   refine ρ4 U3 ?_
   refine ρb ?_
   refine ARun.move (.inl rfl) rfl rfl rfl (Ev.opt rfl (fun h => h)) optS ?_
   refine ρ5 U44 sz3 ?_
   refine ρ4 U3 ?_
   refine ρi cf111 (fun hg => some_fn c.qty) ?_
   refine ARun.pick rfl rfl rfl rfl (Ev.opt rfl (fun h => h)) (ep rfl) (Ev.opt rfl (by first | exact pkF | exact pkF2 | simp +contextual)) (orB _ _) optS ?_
   refine ρ1 ?_
   refine mz ?_
   refine AWP.ret (blockA_r (thenA_r ?_))
   refine ρ9 ?_
   (unfold mayP; simp_all)
 simp at h0
 refine AWP.seq (sr fun _ => ?_)
 refine ρ6 ?_
 refine mz ?_
 refine ρo (fun h1 => ?_) (fun h1 => ?_)
 · simp at h1
   refine AWP.skip (thenA_n ?_)
   refine ρo (fun h2 => ?_) (fun h2 => ?_)
   · simp at h2
     refine sr fun _ => ?_
     refine ρl U44 sz44 ?_
     refine ρf cf110 (fun hg => bare_fn c) ?_
     refine mv ?_
     refine ρ5 U44 sz3 ?_
     refine ρ4 U3 ?_
     refine ρi cf111 (fun hg => some_fn c.qty) ?_
     refine ρ1 ?_
     refine mz ?_
     refine AWP.ret (blockA_r (thenA_r ?_))
     refine ρ9 ?_
     (unfold mayP; simp_all)
   simp at h2
   refine sr fun _ => ?_
   refine ρ6 ?_
   refine mz ?_
   refine ρo (fun h3 => ?_) (fun h3 => ?_)
   · simp at h3
     refine sr fun _ => ?_
     refine ρ0 U44 sz3 ?_
     refine ρ2 U3 ?_
     refine ρf cf71 (fun hg => number_fn c.item) ?_
     refine mv ?_
     refine ρ5 U44 sz3 ?_
     refine ρ4 U3 ?_
     refine ρi cf71 (fun hg => number_fn c.to_) ?_
     refine ρ1 ?_
     refine mv ?_
     refine ρ5 U44 sz3 ?_
     refine ρ4 U3 ?_
     refine ρ5 U44 sz3 ?_
     refine ρ4 U3 ?_
     refine ρm ?_
     refine ρ1 ?_
     refine mv ?_
     refine ρ5 U44 sz3 ?_
     refine ρ4 U3 ?_
     refine ρi cf111 (fun hg => some_fn c.qty) ?_
     refine ρ1 ?_
     refine mv ?_
     refine ρ5 U44 sz42 ?_
     refine ρ4 U42 ?_
     refine ARun.lenSl rfl rfl rfl rfl U42 (Ev.opt rfl (fun h => h)) optS ?_
     refine ρb ?_
     refine ρ1 ?_
     refine mz ?_
     refine AWP.ret (blockA_r (thenA_r ?_))
     refine ρ9 ?_
     (unfold mayP; simp_all)
   simp at h3
   refine sr fun _ => ?_
   refine ρ6 ?_
   refine mz ?_
   refine ρo (fun h4 => ?_) (fun h4 => ?_)
   · simp at h4
     refine sr fun _ => ?_
     refine ρl U44 sz44 ?_
     refine ρf cf110 (fun hg => bare_fn c) ?_
     refine mv ?_
     refine ρ5 U44 sz3 ?_
     refine ρ4 U3 ?_
     refine ρb ?_
     refine ρ1 ?_
     refine mz ?_
     refine AWP.ret (blockA_r (thenA_r ?_))
     refine ρ9 ?_
     (unfold mayP; simp_all)
   simp at h4
   refine AWP.skip (blockA_n (thenA_n (sr fun _ => ?_)))
   refine ρ0 U44 sz3 ?_
   refine ρ2 U3 ?_
   refine ρ6 ?_
   refine mv ?_
   refine ρ5 U44 sz3 ?_
   refine ρ4 U3 ?_
   refine ρb ?_
   refine ρ1 ?_
   refine mv ?_
   refine ρ5 U44 sz3 ?_
   refine ρ4 U3 ?_
   refine ρb ?_
   refine ρ1 ?_
   refine mv ?_
   refine ρ5 U44 sz42 ?_
   refine ρ4 U42 ?_
   refine ρi cf112 (fun hg => lines_fn c.lines hl) ?_
   refine ρ1 ?_
   refine mz ?_
   refine AWP.ret ?_
   refine ρ9 ?_
   (unfold mayP; simp_all)
 simp at h1
 refine sr fun _ => ?_
 refine ρ6 ?_
 refine mz ?_
 refine ρo (fun h5 => ?_) (fun h5 => ?_)
 · simp at h5
   refine AWP.skip (thenA_n ?_)
   refine ρo (fun h6 => ?_) (fun h6 => ?_)
   · simp at h6
     refine sr fun _ => ?_
     refine ρl U44 sz44 ?_
     refine ρf cf110 (fun hg => bare_fn c) ?_
     refine mv ?_
     refine ρ5 U44 sz3 ?_
     refine ρ4 U3 ?_
     refine ρi cf111 (fun hg => some_fn c.qty) ?_
     refine ρ1 ?_
     refine mz ?_
     refine AWP.ret (blockA_r (thenA_r ?_))
     refine ρ9 ?_
     (unfold mayP; simp_all)
   simp at h6
   refine sr fun _ => ?_
   refine ρ6 ?_
   refine mz ?_
   refine ρo (fun h7 => ?_) (fun h7 => ?_)
   · simp at h7
     refine sr fun _ => ?_
     refine ρ0 U44 sz3 ?_
     refine ρ2 U3 ?_
     refine ρf cf71 (fun hg => number_fn c.item) ?_
     refine mv ?_
     refine ρ5 U44 sz3 ?_
     refine ρ4 U3 ?_
     refine ρi cf71 (fun hg => number_fn c.to_) ?_
     refine ρ1 ?_
     refine mv ?_
     refine ρ5 U44 sz3 ?_
     refine ρ4 U3 ?_
     refine ρ5 U44 sz3 ?_
     refine ρ4 U3 ?_
     refine ρm ?_
     refine ρ1 ?_
     refine mv ?_
     refine ρ5 U44 sz3 ?_
     refine ρ4 U3 ?_
     refine ρi cf111 (fun hg => some_fn c.qty) ?_
     refine ρ1 ?_
     refine mv ?_
     refine ρ5 U44 sz42 ?_
     refine ρ4 U42 ?_
     refine ARun.lenSl rfl rfl rfl rfl U42 (Ev.opt rfl (fun h => h)) optS ?_
     refine ρb ?_
     refine ρ1 ?_
     refine mz ?_
     refine AWP.ret (blockA_r (thenA_r ?_))
     refine ρ9 ?_
     (unfold mayP; simp_all)
   simp at h7
   refine sr fun _ => ?_
   refine ρ6 ?_
   refine mz ?_
   refine ρo (fun h8 => ?_) (fun h8 => ?_)
   · simp at h8
     refine sr fun _ => ?_
     refine ρl U44 sz44 ?_
     refine ρf cf110 (fun hg => bare_fn c) ?_
     refine mv ?_
     refine ρ5 U44 sz3 ?_
     refine ρ4 U3 ?_
     refine ρb ?_
     refine ρ1 ?_
     refine mz ?_
     refine AWP.ret (blockA_r (thenA_r ?_))
     refine ρ9 ?_
     (unfold mayP; simp_all)
   simp at h8
   refine AWP.skip (blockA_n (thenA_n (sr fun _ => ?_)))
   refine ρ0 U44 sz3 ?_
   refine ρ2 U3 ?_
   refine ρ6 ?_
   refine mv ?_
   refine ρ5 U44 sz3 ?_
   refine ρ4 U3 ?_
   refine ρb ?_
   refine ρ1 ?_
   refine mv ?_
   refine ρ5 U44 sz3 ?_
   refine ρ4 U3 ?_
   refine ρb ?_
   refine ρ1 ?_
   refine mv ?_
   refine ρ5 U44 sz42 ?_
   refine ρ4 U42 ?_
   refine ρi cf112 (fun hg => lines_fn c.lines hl) ?_
   refine ρ1 ?_
   refine mz ?_
   refine AWP.ret ?_
   refine ρ9 ?_
   (unfold mayP; simp_all)
 simp at h5
 refine sr fun _ => ?_
 refine ρ6 ?_
 refine mz ?_
 refine ρo (fun h9 => ?_) (fun h9 => ?_)
 · simp at h9
   refine AWP.skip (thenA_n ?_)
   refine ρo (fun h10 => ?_) (fun h10 => ?_)
   · simp at h10
     refine sr fun _ => ?_
     refine ρl U44 sz44 ?_
     refine ρf cf110 (fun hg => bare_fn c) ?_
     refine mv ?_
     refine ρ5 U44 sz3 ?_
     refine ρ4 U3 ?_
     refine ρi cf111 (fun hg => some_fn c.qty) ?_
     refine ρ1 ?_
     refine mz ?_
     refine AWP.ret (blockA_r (thenA_r ?_))
     refine ρ9 ?_
     (unfold mayP; simp_all)
   simp at h10
   refine sr fun _ => ?_
   refine ρ6 ?_
   refine mz ?_
   refine ρo (fun h11 => ?_) (fun h11 => ?_)
   · simp at h11
     refine sr fun _ => ?_
     refine ρ0 U44 sz3 ?_
     refine ρ2 U3 ?_
     refine ρf cf71 (fun hg => number_fn c.item) ?_
     refine mv ?_
     refine ρ5 U44 sz3 ?_
     refine ρ4 U3 ?_
     refine ρi cf71 (fun hg => number_fn c.to_) ?_
     refine ρ1 ?_
     refine mv ?_
     refine ρ5 U44 sz3 ?_
     refine ρ4 U3 ?_
     refine ρ5 U44 sz3 ?_
     refine ρ4 U3 ?_
     refine ρm ?_
     refine ρ1 ?_
     refine mv ?_
     refine ρ5 U44 sz3 ?_
     refine ρ4 U3 ?_
     refine ρi cf111 (fun hg => some_fn c.qty) ?_
     refine ρ1 ?_
     refine mv ?_
     refine ρ5 U44 sz42 ?_
     refine ρ4 U42 ?_
     refine ARun.lenSl rfl rfl rfl rfl U42 (Ev.opt rfl (fun h => h)) optS ?_
     refine ρb ?_
     refine ρ1 ?_
     refine mz ?_
     refine AWP.ret (blockA_r (thenA_r ?_))
     refine ρ9 ?_
     (unfold mayP; simp_all)
   simp at h11
   refine sr fun _ => ?_
   refine ρ6 ?_
   refine mz ?_
   refine ρo (fun h12 => ?_) (fun h12 => ?_)
   · simp at h12
     refine sr fun _ => ?_
     refine ρl U44 sz44 ?_
     refine ρf cf110 (fun hg => bare_fn c) ?_
     refine mv ?_
     refine ρ5 U44 sz3 ?_
     refine ρ4 U3 ?_
     refine ρb ?_
     refine ρ1 ?_
     refine mz ?_
     refine AWP.ret (blockA_r (thenA_r ?_))
     refine ρ9 ?_
     (unfold mayP; simp_all)
   simp at h12
   refine AWP.skip (blockA_n (thenA_n (sr fun _ => ?_)))
   refine ρ0 U44 sz3 ?_
   refine ρ2 U3 ?_
   refine ρ6 ?_
   refine mv ?_
   refine ρ5 U44 sz3 ?_
   refine ρ4 U3 ?_
   refine ρb ?_
   refine ρ1 ?_
   refine mv ?_
   refine ρ5 U44 sz3 ?_
   refine ρ4 U3 ?_
   refine ρb ?_
   refine ρ1 ?_
   refine mv ?_
   refine ρ5 U44 sz42 ?_
   refine ρ4 U42 ?_
   refine ρi cf112 (fun hg => lines_fn c.lines hl) ?_
   refine ρ1 ?_
   refine mz ?_
   refine AWP.ret ?_
   refine ρ9 ?_
   (unfold mayP; simp_all)
 simp at h9
 refine AWP.region (fun _ => ?_)
 refine ρ6 ?_
 refine mz ?_
 refine ρo (fun h13 => ?_) (fun h13 => ?_)
 · simp at h13
   refine sr fun _ => ?_
   refine ρl U44 sz44 ?_
   refine ρf cf110 (fun hg => bare_fn c) ?_
   refine mv ?_
   refine ρ5 U44 sz3 ?_
   refine ρ4 U3 ?_
   refine ρi cf111 (fun hg => some_fn c.qty) ?_
   refine ρ1 ?_
   refine mz ?_
   refine AWP.ret (blockA_r (thenA_r ?_))
   refine ρ9 ?_
   (unfold mayP; simp_all)
 simp at h13
 refine sr fun _ => ?_
 refine ρ6 ?_
 refine mz ?_
 refine ρo (fun h14 => ?_) (fun h14 => ?_)
 · simp at h14
   refine sr fun _ => ?_
   refine ρ0 U44 sz3 ?_
   refine ρ2 U3 ?_
   refine ρf cf71 (fun hg => number_fn c.item) ?_
   refine mv ?_
   refine ρ5 U44 sz3 ?_
   refine ρ4 U3 ?_
   refine ρi cf71 (fun hg => number_fn c.to_) ?_
   refine ρ1 ?_
   refine mv ?_
   refine ρ5 U44 sz3 ?_
   refine ρ4 U3 ?_
   refine ρ5 U44 sz3 ?_
   refine ρ4 U3 ?_
   refine ρm ?_
   refine ρ1 ?_
   refine mv ?_
   refine ρ5 U44 sz3 ?_
   refine ρ4 U3 ?_
   refine ρi cf111 (fun hg => some_fn c.qty) ?_
   refine ρ1 ?_
   refine mv ?_
   refine ρ5 U44 sz42 ?_
   refine ρ4 U42 ?_
   refine ARun.lenSl rfl rfl rfl rfl U42 (Ev.opt rfl (fun h => h)) optS ?_
   refine ρb ?_
   refine ρ1 ?_
   refine mz ?_
   refine AWP.ret (blockA_r (thenA_r ?_))
   refine ρ9 ?_
   (unfold mayP; simp_all)
 simp at h14
 refine sr fun _ => ?_
 refine ρ6 ?_
 refine mz ?_
 refine ρo (fun h15 => ?_) (fun h15 => ?_)
 · simp at h15
   refine sr fun _ => ?_
   refine ρl U44 sz44 ?_
   refine ρf cf110 (fun hg => bare_fn c) ?_
   refine mv ?_
   refine ρ5 U44 sz3 ?_
   refine ρ4 U3 ?_
   refine ρb ?_
   refine ρ1 ?_
   refine mz ?_
   refine AWP.ret (blockA_r (thenA_r ?_))
   refine ρ9 ?_
   (unfold mayP; simp_all)
 simp at h15
 refine AWP.skip (blockA_n (thenA_n (sr fun _ => ?_)))
 refine ρ0 U44 sz3 ?_
 refine ρ2 U3 ?_
 refine ρ6 ?_
 refine mv ?_
 refine ρ5 U44 sz3 ?_
 refine ρ4 U3 ?_
 refine ρb ?_
 refine ρ1 ?_
 refine mv ?_
 refine ρ5 U44 sz3 ?_
 refine ρ4 U3 ?_
 refine ρb ?_
 refine ρ1 ?_
 refine mv ?_
 refine ρ5 U44 sz42 ?_
 refine ρ4 U42 ?_
 refine ρi cf112 (fun hg => lines_fn c.lines hl) ?_
 refine ρ1 ?_
 refine mz ?_
 refine AWP.ret ?_
 refine ρ9 ?_
 (unfold mayP; simp_all)
theorem check_fn (c : Cl) (hl : c.lines.length ≤ 100000) : FnP Tryz.prog 37 [aCl c] (aEr (Er.new tCall (checkP c))) := by
 refine FnP.of Tryz.func37 rfl rfl (by simp) (by simp [AV.cells, aIn, aOut, aLn, aCl, aRp]) (fun G hG => ?_)
 have hN : NoH G.length (aEr (Er.new tCall (checkP c))) := (by simp [AV.cells, aIn, aOut, aLn, aCl, aRp])
 refine sr fun _ => ?_
 refine ρt ?_
 refine mz ?_
 refine AWP.seq (AWP.block (sr fun _ => ?_))
 refine ρ0 U44 sz3 ?_
 refine ρ2 U3 ?_
 refine ρ6 ?_
 refine mv ?_
 refine ρ5 U44 sz3 ?_
 refine ρ4 U3 ?_
 refine ρb ?_
 refine ρ3 ?_
 refine mz ?_
 refine ρo (fun h0 => ?_) (fun h0 => ?_)
 · simp at h0
   refine sr fun _ => ?_
   refine ρk cf22 (fun hg => new_fn tCall 30) ?_
   refine mz ?_
   refine AWP.ret (blockA_r (thenA_r ?_))
   refine ρ9 ?_
   rw [checkP, if_pos (by omega)]
 simp at h0
 refine sr fun _ => ?_
 refine ρ0 U44 sz3 ?_
 refine ρ2 U3 ?_
 refine ρf cf71 (fun hg => number_fn c.client) ?_
 refine ARun.not rfl rfl rfl rfl (ep rfl) optN ?_
 refine mv ?_
 refine ρ5 U44 sz3 ?_
 refine ρ4 U3 ?_
 refine ρi cf71 (fun hg => number_fn c.seq) ?_
 refine ARun.not rfl rfl rfl rfl (Ev.opt rfl (fun h => h)) optS ?_
 refine ρ3 ?_
 refine mv ?_
 refine ARun.loadPeA rfl rfl rfl rfl U44 rfl sz44 (ep rfl) rfl optS ?_
 refine ρi cf72 (fun hg => may_fn c hl) ?_
 refine ARun.not rfl rfl rfl rfl (Ev.opt rfl (fun h => h)) optS ?_
 refine ρ3 ?_
 refine mz ?_
 refine ρo (fun h1 => ?_) (fun h1 => ?_)
 · simp at h1
   refine sr fun _ => ?_
   refine ρk cf22 (fun hg => new_fn tCall 2) ?_
   refine mz ?_
   refine AWP.ret (blockA_r (thenA_r ?_))
   refine ρ9 ?_
   rw [checkP, if_neg (by omega), if_neg (by simp; intro q1 q2; rcases h1 with (h1 | h1) | h1 <;> simp_all)]
 simp at h1
 refine AWP.skip (blockA_n (thenA_n (sr fun _ => ?_)))
 refine mz ?_
 refine AWP.ret ?_
 refine ρ9 ?_
 rw [checkP, if_neg (by omega), if_pos (by simp [h1])]; rfl
theorem eqI_fn (a b : List Int) (hl : a.length ≤ 9223372036854775807) : FnP Tryz.prog 98 [.sl (a.map (AV.int .i64)), .sl (b.map (AV.int .i64))] (.bool (decide (a = b))) := by
 refine FnP.of Tryz.func98 rfl rfl (by simp) (by simp [AV.cells, aIn, aOut, aLn, aCl, aRp]) (fun G hG => ?_)
 have hN : NoH G.length (.bool (decide (a = b))) := (by simp [AV.cells, aIn, aOut, aLn, aCl, aRp])
 refine sr fun _ => ?_
 refine mz ?_
 refine AWP.seq (sr fun _ => ?_)
 refine mv ?_
 refine ρq U24 ?_
 refine mv ?_
 refine ρq U24 ?_
 refine ρ6 ?_
 refine ez ?_
 refine ρo (fun h0 => ?_) (fun h0 => ?_)
 · simp [-List.getD_eq_getElem?_getD] at h0
   refine sr fun _ => ?_
   refine mz ?_
   refine AWP.ret (thenA_r ?_)
   refine ρ9 ?_
   rw [decide_eq_false (fun e => absurd (congrArg List.length e) (by omega))]; rfl
 simp [-List.getD_eq_getElem?_getD] at h0
 refine AWP.skip (thenA_n (AWP.seq (sr fun _ => ?_)))
 refine mv ?_
 refine ρq U24 ?_
 refine mv ?_
 refine ez ?_
 refine AWP.block ?_
 refine AWP.rounds (fun k => k ≤ a.length ∧ a.take k = b.take k) (fun k => [(0, .sl (a.map (AV.int .i64))), (1, .sl (b.map (AV.int .i64))), (12, .int .i64 ((a.map (AV.int .i64)).length : Int)), (13, .int .i64 (k : Int))]) (fun k => []) (fun k => a.length - k) 0 0 ⟨by omega, rfl⟩ (by repeat (first | exact .nil | refine .cons rfl ?_)) rfl (fun _ => rfl) (fun _ => ⟨by simp [AV.cells], by simp⟩) (fun k hI => ?_)
 obtain ⟨hk, hs⟩ := hI
 refine sr fun _ => ?_
 refine ρ6 ?_
 refine ez ?_
 refine AWP.seq ?_
 refine ρo (fun h1 => ?_) (fun h1 => ?_)
 · simp [-List.getD_eq_getElem?_getD] at h1
   refine AWP.skip (thenA_n ?_)
   refine AWP.seq (AWP.block (sr fun _ => ?_))
   refine mv ?_
   refine mz ?_
   refine AWP.seq ?_
   refine AWP.draw mixed (by kernel_rfl) (fun _ => ?_)
   refine mv ?_
   refine mv ?_
   first | refine ρa U24 sz3 ?_ | refine ρ7 U24 sz3 ?_
   refine ρ2 U3 ?_
   refine mv ?_
   refine mv ?_
   first | refine ρa U24 sz3 ?_ | refine ρ7 U24 sz3 ?_
   refine ρ2 U3 ?_
   refine ρ6 ?_
   refine ⟨by kernel_rfl, _, _, rfl, hG, ?_⟩
   refine thenA_n ?_
   refine ρo (fun h2 => ?_) (fun h2 => ?_)
   · simp [-List.getD_eq_getElem?_getD] at h2
     refine sr fun _ => ?_
     refine mz ?_
     refine AWP.ret (blockA_r ?_)
     refine thenA_r (thenA_r ?_)
     refine blockA_r (thenA_r ?_)
     refine ρ9 ?_
     rw [decide_eq_false (ne_of_get (k := k) h2)]; rfl
   simp [-List.getD_eq_getElem?_getD] at h2
   refine AWP.skip (blockA_n (thenA_n ?_))
   refine AWP.region (fun _ => ?_)
   first | refine ρd ?_ | refine ρg ?_
   refine mv ?_
   refine ⟨_, _, rfl, hG, ?_⟩
   refine thenA_n ⟨rfl, k + 1, _, ?_, ?_, rfl, ?_⟩
   · exact ⟨by omega, take_eq_go hs h1 (by omega) h2⟩
   · repeat (first | exact .nil | refine .cons rfl ?_)
   omega
 simp [-List.getD_eq_getElem?_getD] at h1
 refine AWP.exit ?_
 refine thenA_x ?_
 refine thenA_x ?_
 refine blockA_h ?_
 refine thenA_n (sr fun _ => ?_)
 refine mz ?_
 refine AWP.ret ?_
 refine ρ9 ?_
 rw [decide_eq_true (by rw [List.take_of_length_le h1, List.take_of_length_le (by omega)] at hs; exact hs)]; rfl
theorem neg_fn (n : Int) : FnP Tryz.prog 38 [.int .i64 n] (.bool (decide (n < 0))) := by
 refine FnP.of Tryz.func38 rfl rfl (by simp) (by simp [AV.cells, aIn, aOut, aLn, aCl, aRp]) (fun G hG => ?_)
 have hN : NoH G.length (.bool (decide (n < 0))) := (by simp [AV.cells, aIn, aOut, aLn, aCl, aRp])
 refine sr fun _ => ?_
 refine mz (sr fun _ => ?_)
 refine mv ?_
 refine ρ6 ?_
 refine mz ?_
 refine AWP.ret ?_
 refine ρ9 ?_
 rfl
theorem indexI (F : Nat) (fs cs : List AV) (p : Int → Bool) (l : List Int) (hl : l.length ≤ 9223372036854775807) (hcf : ∀ (vs : Array Value) (W : World), (callFunc F vs).run Tryz.prog W = .ok (.enter F vs) W) (hn : (∀ x, x ∈ fs → NoH 0 x) ∧ ∀ x, x ∈ cs → NoH 0 x) (hp : ∀ x, x ∈ l → FnP Tryz.prog F (fs ++ [(AV.int .i64) x] ++ cs) (.bool (p x))) : FnP Tryz.prog 73 [.sl (l.map (AV.int .i64)), .fn (.func F) fs cs] (.int .i64 (idxOf p l)) := by
 refine FnP.of Tryz.func73 rfl rfl (by simp) (by simp [AV.cells, aIn, aOut, aLn, aCl, aRp]) (fun G hG => ?_)
 have hN : NoH G.length (.int .i64 (idxOf p l)) := (by simp [AV.cells, aIn, aOut, aLn, aCl, aRp])
 refine sr fun _ => ?_
 refine mz ?_
 refine AWP.seq (sr fun _ => ?_)
 refine mv ?_
 refine ρq U24 ?_
 refine mv ?_
 refine ez ?_
 refine AWP.block ?_
 refine AWP.rounds (fun k => k ≤ l.length ∧ ∀ j, j < k → p (l.getD j default) = false) (fun k => [(0, .sl (l.map (AV.int .i64))), (1, .fn (.func F) fs cs), (7, .int .i64 ((l.map (AV.int .i64)).length : Int)), (8, .int .i64 (k : Int))]) (fun k => []) (fun k => l.length - k) 0 0 ⟨by omega, fun j h => by omega⟩ (by repeat (first | exact .nil | refine .cons rfl ?_)) rfl (fun _ => rfl) (fun _ => ⟨by simp [AV.cells, aIn, aOut, aLn, aCl, aRp]; exact ⟨fun x hx => (hn.1 x hx).mono (by omega), fun x hx => (hn.2 x hx).mono (by omega)⟩, by simp⟩) (fun k hI => ?_)
 obtain ⟨hk, hno⟩ := hI
 refine sr fun _ => ?_
 refine ρ6 ?_
 refine ez ?_
 refine AWP.seq ?_
 refine ρo (fun h0 => ?_) (fun h0 => ?_)
 · try simp [-List.getD_eq_getElem?_getD] at h0
   refine AWP.skip (thenA_n ?_)
   refine AWP.seq (AWP.block (sr fun _ => ?_))
   refine mv ?_
   refine mz (sr fun _ => ?_)
   refine mv ?_
   refine mv ?_
   refine mv ?_
   first | refine ρa U24 sz3 ?_ | refine ρ7 U24 sz3 ?_
   refine ρ2 U3 ?_
   refine ARun.call rfl rfl rfl rfl hcf (ep rfl) (.cons (ep rfl) .nil) rfl (fun hg => hp _ (by rw [List.getD, List.getElem?_eq_getElem h0]; exact List.getElem_mem h0)) optN ?_
   refine ez ?_
   refine ρo (fun h1 => ?_) (fun h1 => ?_)
   · try simp [-List.getD_eq_getElem?_getD] at h1
     refine sr fun _ => ?_
     refine mv ?_
     refine mz ?_
     refine AWP.ret (blockA_r ?_)
     refine thenA_r (thenA_r ?_)
     refine blockA_r (thenA_r ?_)
     refine ρ9 ?_
     rw [idx_hit h0 hno h1]
   try simp [-List.getD_eq_getElem?_getD] at h1
   refine AWP.skip (blockA_n (thenA_n ?_))
   refine AWP.region (fun _ => ?_)
   first | refine ρd ?_ | refine ρg ?_
   refine mv ?_
   refine ⟨_, _, rfl, hG, ?_⟩
   refine thenA_n ⟨rfl, k + 1, _, ?_, ?_, rfl, ?_⟩
   · refine ⟨by omega, fun j hj => ?_⟩
     by_cases e : j = k
     · subst e; exact h1
     exact hno j (by omega)
   · repeat (first | exact .nil | refine .cons rfl ?_)
   omega
 try simp [-List.getD_eq_getElem?_getD] at h0
 refine AWP.exit ?_
 refine thenA_x ?_
 refine thenA_x ?_
 refine blockA_h ?_
 refine thenA_n (sr fun _ => ?_)
 refine mz ?_
 refine AWP.ret ?_
 refine ρ9 ?_
 rw [idx_none (fun j hj => hno j (by omega))]; rfl
theorem containsI (F : Nat) (fs cs : List AV) (p : Int → Bool) (l : List Int) (hl : l.length ≤ 9223372036854775807) (hcf : ∀ (vs : Array Value) (W : World), (callFunc F vs).run Tryz.prog W = .ok (.enter F vs) W) (hn : (∀ x, x ∈ fs → NoH 0 x) ∧ ∀ x, x ∈ cs → NoH 0 x) (hp : ∀ x, x ∈ l → FnP Tryz.prog F (fs ++ [(AV.int .i64) x] ++ cs) (.bool (p x))) : FnP Tryz.prog 39 [.sl (l.map (AV.int .i64)), .fn (.func F) fs cs] (.bool (l.any p)) := by
 refine FnP.of Tryz.func39 rfl rfl (by simp) (by simp [AV.cells, aIn, aOut, aLn, aCl, aRp]) (fun G hG => ?_)
 have hN : NoH G.length (.bool (l.any p)) := (by simp [AV.cells, aIn, aOut, aLn, aCl, aRp])
 refine sr fun _ => ?_
 refine mz (sr fun _ => ?_)
 refine mv ?_
 refine mv ?_
 refine ρk cf73 (fun hg => indexI F fs cs p l hl hcf hn hp) ?_
 refine ρ6 ?_
 refine mz ?_
 refine AWP.ret ?_
 refine ρ9 ?_
 rw [← any_idx]
theorem put_c (c : Cl) (hl : c.lines.length ≤ 100000) : FnP Tryz.prog 11 [aCl c] (.tup [.str (putC c), aEr (Er.new tCall (checkP c))]) := by
 refine FnP.of Tryz.func11 rfl rfl (by simp) (by simp [AV.cells, aIn, aOut, aLn, aCl, aRp]) (fun G hG => ?_)
 have hN : NoH G.length (.tup [.str (putC c), aEr (Er.new tCall (checkP c))]) := (by simp [AV.cells, aIn, aOut, aLn, aCl, aRp])
 refine sr fun _ => ?_
 refine ρt ?_
 refine ma ?_
 refine mz ?_
 refine AWP.seq (sr fun _ => ?_)
 refine ρl U44 sz44 ?_
 refine ρf cf37 (fun hg => check_fn c hl) ?_
 refine mz (sr fun _ => ?_)
 refine mv ?_
 refine ρr U28 ?_
 refine ez ?_
 refine ρo (fun h0 => ?_) (fun h0 => ?_)
 · have hc : checkP c ≠ 0 := by simpa [new_none] using h0
   refine sr fun _ => ?_
   refine mv ?_
   refine ma ?_
   refine mz ?_
   refine AWP.ret (thenA_r ?_)
   refine ρB (rs := [.tmp 2, .tmp 3]) (.cons (.tmp rfl) (.cons (.tmp rfl) .nil)) ?_
   rw [putC, if_neg hc]; rfl
 have hc : checkP c = 0 := by simpa [new_none] using h0
 have hck := check_ok hc
 have hlay := layC_ok hc
 have hwl := wrNums_len (headC c) WrS.new
 have hwl2 : (headC c).length = 6 := rfl
 have hwl3 : WrS.new.s.length = 0 := rfl
 refine AWP.skip (thenA_n (sr fun _ => ?_))
 refine ARun.allocBld (j := 0) (e := 5) hG rfl rfl rfl rfl rfl zv90 rfl rfl rfl optN ?_
 refine ez (sr fun _ => ?_)
 refine ρ0 U44 sz3 ?_
 refine ρ2 U3 ?_
 refine ρ0 U44 sz3 ?_
 refine ρ2 U3 ?_
 refine ρ0 U44 sz3 ?_
 refine ρ2 U3 ?_
 refine ρ0 U44 sz3 ?_
 refine ρ2 U3 ?_
 refine ρ0 U44 sz3 ?_
 refine ρ2 U3 ?_
 refine ρ0 U44 sz3 ?_
 refine ρ2 U3 ?_
 refine ARun.buildSl rfl rfl rfl rfl U24 sz3 zv3 rfl (by decide) (.cons (ep rfl) (.cons (ep rfl) (.cons (ep rfl) (.cons (ep rfl) (.cons (ep rfl) (.cons (ep rfl) .nil)))))) rfl rfl rfl rfl (by decide) rfl rfl optN ?_
 refine ARun.callSet (j := 0) hG rfl rfl rfl rfl cf26 (ep rfl) (.cons (ep rfl) (.cons (ep rfl) .nil)) rfl (nums_w WrS.new (headC c) (by simp [headC]) (by simp [WrS.new]) (fun x hx => by have := head_pos hc x hx; omega) _ _ ((hG.at _ _).trans rfl)) rfl optN ?_
 refine ez (sr fun _ => ?_)
 refine ARun.nilOwn (e := 3) (z := 1) (j := 1) hG rfl ⟨.inl rfl, rfl⟩ (fun _ => rfl) rfl rfl rfl optN ?_
 refine ez ?_
 refine AWP.seq (sr fun _ => ?_)
 refine ρ0 U44 sz42 ?_
 refine ρ2 U42 ?_
 refine ρq U42 ?_
 refine mv ?_
 refine ez ?_
 refine AWP.block ?_
 refine AWP.rounds (fun st => st.1 ≤ c.lines.length) (fun st => [(5, .box (G.length + 0) 0), (6, .own (G.length + 1) st.2), (29, .sl (c.lines.map aLn)), (30, .int .i64 ((c.lines.map aLn).length : Int)), (31, .int .i64 (st.1 : Int))]) (fun st => [.box (aW (wrNums WrS.new (headC c))), .row st.2 3 1 ((flatL (c.lines.take st.1)).map (AV.int .i64))]) (fun st => c.lines.length - st.1) 2 ((0, 0) : Nat × Nat) (Nat.zero_le _) (by repeat (first | exact .nil | refine .cons rfl ?_)) rfl (fun _ => rfl) (fun _ => ⟨by simp [AV.cells, aCl, aLn], by simp [AO.conts, aW, AV.cells]; rintro y a _ rfl; simp⟩) (fun st hI => ?_)
 obtain ⟨k, g⟩ := st
 dsimp only at hI
 show AWP _ _ _ _ _ [(5, .box (G.length + 0) 0), (6, .own (G.length + 1) g), (29, .sl (c.lines.map aLn)), (30, .int .i64 ((c.lines.map aLn).length : Int)), (31, .int .i64 (k : Int))] _ [.box (aW (wrNums WrS.new (headC c))), .row g 3 1 ((flatL (c.lines.take k)).map (AV.int .i64))]
 refine sr fun _ => ?_
 refine ρ6 ?_
 refine ez ?_
 refine AWP.seq ?_
 refine ρo (fun h1 => ?_) (fun h1 => ?_)
 · try simp [-List.getD_eq_getElem?_getD] at h1
   refine AWP.skip (thenA_n ?_)
   refine AWP.seq (AWP.block (sr fun _ => ?_))
   first | refine ρa U42 sz101 ?_ | refine ρ7 U42 sz101 ?_
   refine ρl U101 sz101 ?_
   refine ρp (j := 2) zv101 ?_
   refine ρ8 sz101 ?_
   refine ez ?_
   refine AWP.region (fun _ => ?_)
   refine mv ?_
   refine ρe (fo := 0) U101 sz3 ?_
   refine ARun.loadBox rfl rfl rfl rfl U3 rfl (ep rfl) ((hG.at _ _).trans rfl) rfl optN ?_
   refine ρe (fo := 1) U101 sz3 ?_
   refine ARun.loadBox rfl rfl rfl rfl U3 rfl (ep rfl) ((hG.at _ _).trans rfl) rfl optN ?_
   refine ARun.buildSl rfl rfl rfl rfl U24 sz3 zv3 rfl (by decide) (.cons (ep rfl) (.cons (ep rfl) .nil)) rfl rfl rfl rfl (by decide) rfl rfl optN ?_
   refine ARun.appendL hG rfl rfl rfl rfl U24 ti3 rfl (by decide) (ep rfl) (ep rfl) rfl rfl (by simp [maxLen, flatL_len]; omega) (by simp [flatL_len]; omega) (flat_snoc c.lines k (by simpa using h1)) optN rfl ?_
   refine ma ?_
   refine ⟨_, _, rfl, hG, ?_⟩
   refine blockA_n (thenA_n ?_)
   refine AWP.region (fun _ => ?_)
   first | refine ρd ?_ | refine ρg ?_
   refine mv ?_
   refine ⟨_, _, rfl, hG, ?_⟩
   refine thenA_n ⟨rfl, (k + 1, g + 1), _, ?_, ?_, rfl, ?_⟩
   · dsimp only; omega
   · repeat (first | exact .nil | refine .cons rfl ?_)
   dsimp only; omega
 simp at h1
 obtain rfl : k = c.lines.length := by omega
 rw [List.take_length]
 refine AWP.exit ?_
 refine thenA_x ?_
 refine thenA_x ?_
 refine blockA_h ?_
 refine thenA_n (AWP.seq ?_)
 refine AWP.frzOwn 6 hG rfl rfl (by decide) (by simp [maxLen, flatL_len]; omega) rfl ?_
 refine AWP.region (fun _ => ?_)
 refine mv ?_
 refine ARun.callSet (j := 0) hG rfl rfl rfl rfl cf28 (ep rfl) (.cons (ep rfl) (.cons (ep rfl) .nil)) rfl (row_w (wrNums WrS.new (headC c)) (flatL c.lines) (by rw [flatL_len]; omega) (by omega) (fun x hx => by have := hck.2.2.2.2.2.2.2 x hx; omega) _ _ ((hG.at _ _).trans rfl)) rfl optN ?_
 refine ez (sr fun _ => ?_)
 refine ρv (j := 0) cf29 (done_w (layC c) _ _ ((hG.at _ _).trans rfl)) ?_
 refine ρj ?_
 refine ρj ?_
 refine ma ?_
 refine mz ?_
 refine AWP.ret ?_
 refine ρB (rs := [.tmp 2, .tmp 3]) (.cons (.tmp rfl) (.cons (.tmp rfl) .nil)) ?_
 rw [putC, if_pos hc, hlay, hc]; rfl
theorem putR_c (c : Rp) (hl : c.nums.length ≤ 100000) (hf : ∀ x, x ∈ c.nums → -9223372036854775808 ≤ x ∧ x ≤ 9223372036854775807) : FnP Tryz.prog 13 [aRp c] (.tup [.str (putR c), aEr (Er.new tReply (repE c))]) := by
 refine FnP.of Tryz.func13 rfl rfl (by simp) (by simp [AV.cells, aIn, aOut, aLn, aCl, aRp]) (fun G hG => ?_)
 have hN : NoH G.length (.tup [.str (putR c), aEr (Er.new tReply (repE c))]) := (by simp [AV.cells, aIn, aOut, aLn, aCl, aRp])
 refine sr fun _ => ?_
 refine ρt ?_
 refine ma ?_
 refine mz (sr fun _ => ?_)
 refine mz ?_
 refine AWP.seq (sr fun _ => ?_)
 refine ρ0 U49 sz31 ?_
 refine ρ2 U31 ?_
 refine ρ6 ?_
 refine mv ?_
 refine ρ5 U49 sz31 ?_
 refine ρ4 U31 ?_
 refine ρb ?_
 refine ρ3 ?_
 refine mv ?_
 refine ρ5 U49 sz24 ?_
 refine ρ4 U24 ?_
 refine ARun.lenSl rfl rfl rfl rfl U24 (Ev.opt rfl (fun h => h)) optS ?_
 refine ρb ?_
 refine ρ3 ?_
 refine mv ?_
 refine ρ5 U49 sz24 ?_
 refine ρ4 U24 ?_
 refine ρh ?_
 refine ARun.call rfl rfl rfl rfl cf39 (ep rfl) (.cons (Ev.opt rfl (fun h => h)) (.cons (Ev.opt rfl (fun h => h)) .nil)) rfl (fun hg => containsI 38 [] [] (fun n => decide (n < 0)) c.nums (by omega) cf38 (by simp) (fun x _ => neg_fn x)) optS ?_
 refine ρ3 ?_
 refine ez ?_
 refine ρo (fun h0 => ?_) (fun h0 => ?_)
 · rw [any_neg] at h0
   simp at h0
   refine sr fun _ => ?_
   refine ρk cf22 (fun hg => new_fn tReply 2) ?_
   refine ma ?_
   refine mz ?_
   refine AWP.ret (thenA_r ?_)
   refine ρB (rs := [.tmp 2, .tmp 3]) (.cons (.tmp rfl) (.cons (.tmp rfl) .nil)) ?_
   have he : repE c = 2 := by rw [repE, if_pos (by rcases h0 with ((h0 | h0) | h0) | h0 <;> first | exact .inr (.inr (.inr h0)) | omega)]
   rw [putR, if_neg (by omega), he]; rfl
 rw [any_neg] at h0
 simp at h0
 have he : repE c = 0 := by rw [repE, if_neg (by simp [h0]; omega)]
 have hlay := layR_ok he
 have hwl := wrNums_len [c.code] WrS.new
 have hwl3 : WrS.new.s.length = 0 := rfl
 simp only [List.length_cons, List.length_nil] at hwl
 refine AWP.skip (thenA_n (sr fun _ => ?_))
 refine ARun.allocBld (j := 0) (e := 5) hG rfl rfl rfl rfl rfl zv90 rfl rfl rfl optN ?_
 refine ez (sr fun _ => ?_)
 refine ρ0 U49 sz31 ?_
 refine ρ2 U31 ?_
 refine ρy U24 sz3 zv3 ?_
 refine ARun.callSet (j := 0) hG rfl rfl rfl rfl cf26 (ep rfl) (.cons (ep rfl) (.cons (ep rfl) .nil)) rfl (nums_w WrS.new [c.code] (by simp) (by simp [WrS.new]) (fit_one (by omega)) _ _ ((hG.at _ _).trans rfl)) rfl optN ?_
 refine ez (sr fun _ => ?_)
 refine ρ0 U49 sz24 ?_
 refine ρ2 U24 ?_
 refine ARun.callSet (j := 0) hG rfl rfl rfl rfl cf28 (ep rfl) (.cons (ep rfl) (.cons (ep rfl) .nil)) rfl (row_w (wrNums WrS.new [c.code]) c.nums (by omega) (by omega) hf _ _ ((hG.at _ _).trans rfl)) rfl optN ?_
 refine ez (sr fun _ => ?_)
 refine ρv (j := 0) cf29 (done_w (layR c) _ _ ((hG.at _ _).trans rfl)) ?_
 refine ρj ?_
 refine ρj ?_
 refine ma ?_
 refine mz ?_
 refine AWP.ret ?_
 refine ρB (rs := [.tmp 2, .tmp 3]) (.cons (.tmp rfl) (.cons (.tmp rfl) .nil)) ?_
 rw [putR, if_pos he, hlay, he]; rfl
theorem takeR_c (s : ByteArray) (hs : s.size ≤ 1000000) : FnP Tryz.prog 12 [.str s] (.tup [aRp (takeR s), aEr (takeRErr s)]) := by
 refine FnP.of Tryz.func12 rfl rfl (by simp) (by simp [AV.cells, aIn, aOut, aLn, aCl, aRp]) (fun G hG => ?_)
 have hN : NoH G.length (.tup [aRp (takeR s), aEr (takeRErr s)]) := (by simp [AV.cells, aIn, aOut, aLn, aCl, aRp])
 refine sr fun _ => ?_
 refine ρp (j := 0) zv49 ?_
 refine mz (sr fun _ => ?_)
 refine mv ?_
 refine ARun.callNewB (j := 1) hG rfl rfl rfl rfl rfl cf18 (ep rfl) (.cons (ep rfl) .nil) rfl (newr_fn s) optN ?_
 refine mz (sr fun _ => ?_)
 refine mv ?_
 refine ARun.callSet (j := 1) hG rfl rfl rfl rfl cf30 (ep rfl) (.cons (ep rfl) (.cons (ep rfl) .nil)) rfl (num_r (RdS.new s) 255 (rd_new_ok hs) _ _ ((hG.at _ _).trans rfl)) rfl optN ?_
 refine mv ?_
 refine ARun.callSet (j := 1) hG rfl rfl rfl rfl cf36 (ep rfl) (.cons (ep rfl) (.cons (ep rfl) .nil)) rfl (row_r (rdNum (RdS.new s) 255).1 20 (rdNum_ok (rd_new_ok hs) _) _ _ ((hG.at _ _).trans rfl)) rfl optN ?_
 refine ARun.build rfl rfl rfl rfl so49 (.cons (ep rfl) (.cons (ep rfl) .nil)) rfl rfl optN ?_
 refine ρp (j := 2) zv49 ?_
 refine ρ8 sz49 ?_
 refine ez (sr fun _ => ?_)
 refine mv ?_
 refine ρv (j := 1) cf33 (end_r (rdRow (rdNum (RdS.new s) 255).1 20).1 (rdRow_ok (rdNum_ok (rd_new_ok hs) _) _) _ _ ((hG.at _ _).trans rfl)) ?_
 refine ez ?_
 refine AWP.seq (sr fun _ => ?_)
 refine mv ?_
 refine ARun.callR rfl rfl rfl rfl cf20 (ep rfl) (.cons (ep rfl) .nil) rfl (fun hg => FnM.keep (rdone_fn (rdReply s).1) ((hG.at _ _).trans rfl)) optN ?_
 refine mz (sr fun _ => ?_)
 refine mv ?_
 refine ρr U28 ?_
 refine ez ?_
 refine ρo (fun h0 => ?_) (fun h0 => ?_)
 · have he : (rdReply s).1.e ≠ 0 := by simpa [errOf_none] using h0
   refine sr fun _ => ?_
   refine ARun.build rfl rfl rfl rfl so49 .nil rfl rfl optN ?_
   refine mv ?_
   refine ρk cf21 (fun hg => wrap_fn tTake (errOf tRead (rdReply s).1.p (rdReply s).1.e)) ?_
   refine ρ8 sz49 ?_
   refine mz ?_
   refine AWP.ret (thenA_r ?_)
   refine ρB (rs := [.cell 2 49, .tmp 3]) (.cons (.cellA rfl ((hG.at _ _).trans rfl) U49 rfl sz49 rfl rfl) (.cons (.tmp rfl) .nil)) ?_
   rw [takeR, if_pos he]; rfl
 have he : (rdReply s).1.e = 0 := by simpa [errOf_none] using h0
 refine AWP.skip (thenA_n (sr fun _ => ?_))
 refine ρs U49 sz49 ?_
 refine ρ8 sz49 ?_
 refine mz ?_
 refine AWP.ret ?_
 refine ρB (rs := [.cell 2 49, .tmp 3]) (.cons (.cellA rfl ((hG.at _ _).trans rfl) U49 rfl sz49 rfl rfl) (.cons (.tmp rfl) .nil)) ?_
 rw [takeR, if_neg (by omega), takeRErr, he]; rfl
theorem take_c (s : ByteArray) (hs : s.size ≤ 1000000) : FnP Tryz.prog 10 [.str s] (.tup [aCl (takeC s), aEr (takeErr s)]) := by
 have hrl := rdRow_len (sixR s 6) 10
 refine FnP.of Tryz.func10 rfl rfl (by simp) (by simp [AV.cells, aIn, aOut, aLn, aCl, aRp]) (fun G hG => ?_)
 have hN : NoH G.length (.tup [aCl (takeC s), aEr (takeErr s)]) := (by simp [AV.cells, aIn, aOut, aLn, aCl, aRp])
 refine sr fun _ => ?_
 refine ρp (j := 0) zv44 ?_
 refine mz (sr fun _ => ?_)
 refine mv ?_
 refine ARun.callNewB (j := 1) hG rfl rfl rfl rfl rfl cf18 (ep rfl) (.cons (ep rfl) .nil) rfl (newr_fn s) optN ?_
 refine mz (sr fun _ => ?_)
 refine mv ?_
 refine ARun.makeFunc rfl rfl rfl rfl (.cons (ep rfl) .nil) .nil optN ?_
 refine mz (sr fun _ => ?_)
 refine mv ?_
 refine ρv (j := 1) cf30 (num_r (sixR s 0) 2000000 (sixR_ok hs 0) _ _ ((hG.at _ _).trans rfl)) ?_
 refine mv ?_
 refine ρv (j := 1) cf30 (num_r (sixR s 1) 2000000 (sixR_ok hs 1) _ _ ((hG.at _ _).trans rfl)) ?_
 refine mv ?_
 refine ρv (j := 1) cf30 (num_r (sixR s 2) 2000000 (sixR_ok hs 2) _ _ ((hG.at _ _).trans rfl)) ?_
 refine mv ?_
 refine ρv (j := 1) cf30 (num_r (sixR s 3) 2000000 (sixR_ok hs 3) _ _ ((hG.at _ _).trans rfl)) ?_
 refine mv ?_
 refine ρv (j := 1) cf30 (num_r (sixR s 4) 2000000 (sixR_ok hs 4) _ _ ((hG.at _ _).trans rfl)) ?_
 refine mv ?_
 refine ρv (j := 1) cf30 (num_r (sixR s 5) 2000000 (sixR_ok hs 5) _ _ ((hG.at _ _).trans rfl)) ?_
 refine ARun.buildNil (e := 101) (z := 2) (j := 2) (p := 6) hG rfl rfl rfl rfl rfl so44 rfl (.cons (ep rfl) (.cons (ep rfl) (.cons (ep rfl) (.cons (ep rfl) (.cons (ep rfl) (.cons (ep rfl) .nil)))))) rfl rfl optN ?_
 refine ρp (j := 3) zv44 ?_
 refine ρ8 sz44 ?_
 refine ez (sr fun _ => ?_)
 refine mv ?_
 refine ARun.callSet (j := 1) hG rfl rfl rfl rfl cf36 (ep rfl) (.cons (ep rfl) (.cons (ep rfl) .nil)) rfl (row_r (sixR s 6) 10 (sixR_ok hs 6) _ _ ((hG.at _ _).trans rfl)) rfl optN ?_
 refine mz (sr fun _ => ?_)
 refine mv ?_
 refine ρv (j := 1) cf33 (end_r (rdRow (sixR s 6) 10).1 (rdRow_ok (sixR_ok hs 6) _) _ _ ((hG.at _ _).trans rfl)) ?_
 refine ez ?_
 refine AWP.seq (sr fun _ => ?_)
 refine mv ?_
 refine ARun.callR rfl rfl rfl rfl cf20 (ep rfl) (.cons (ep rfl) .nil) rfl (fun hg => FnM.keep (rdone_fn (rdCall s).1) ((hG.at _ _).trans rfl)) optN ?_
 refine mz (sr fun _ => ?_)
 refine mv ?_
 refine ρr U28 ?_
 refine ez ?_
 refine ρo (fun h0 => ?_) (fun h0 => ?_)
 · have he : (rdCall s).1.e ≠ 0 := by simpa [errOf_none] using h0
   refine sr fun _ => ?_
   refine ARun.build rfl rfl rfl rfl so44 .nil rfl rfl optN ?_
   refine mv ?_
   refine ρk cf21 (fun hg => wrap_fn tTake (errOf tRead (rdCall s).1.p (rdCall s).1.e)) ?_
   refine ρ8 sz44 ?_
   refine mz ?_
   refine AWP.ret (thenA_r ?_)
   refine ρB (rs := [.cell 2 44, .tmp 3]) (.cons (.cellA rfl ((hG.at _ _).trans rfl) U44 rfl sz44 rfl rfl) (.cons (.tmp rfl) .nil)) ?_
   have ht : takeE s ≠ 0 := by rw [takeE, if_pos he]; exact he
   rw [takeC, if_neg ht, takeErr, if_pos he]; rfl
 have he : (rdCall s).1.e = 0 := by simpa [errOf_none] using h0
 refine AWP.skip (thenA_n (AWP.seq (sr fun _ => ?_)))
 refine mv ?_
 refine ρq U24 ?_
 refine ARun.remI rfl rfl rfl rfl (ep rfl) (ep rfl) (fun _ => by decide) optN ?_
 refine ρ6 ?_
 refine ez ?_
 refine ρo (fun h1 => ?_) (fun h1 => ?_)
 · simp at h1
   have h1p : (((rdRow (sixR s 6) 10).2.length % 2 : Nat) : Int) ≠ 0 := h1
   refine sr fun _ => ?_
   refine ARun.build rfl rfl rfl rfl so44 .nil rfl rfl optN ?_
   refine ρk cf22 (fun hg => new_fn tTake 5) ?_
   refine ρ8 sz44 ?_
   refine mz ?_
   refine AWP.ret (thenA_r ?_)
   refine ρB (rs := [.cell 2 44, .tmp 3]) (.cons (.cellA rfl ((hG.at _ _).trans rfl) U44 rfl sz44 rfl rfl) (.cons (.tmp rfl) .nil)) ?_
   have h1q : (rdCall s).2.2.length % 2 = 1 := by show (rdRow (sixR s 6) 10).2.length % 2 = 1; omega
   have ht : takeE s ≠ 0 := by rw [takeE, if_neg (by omega), if_pos h1q]; decide
   rw [takeC, if_neg ht, takeErr, if_neg (by omega), if_pos h1q]; rfl
 simp at h1
 have h1p : (((rdRow (sixR s 6) 10).2.length % 2 : Nat) : Int) = 0 := h1
 refine AWP.skip (thenA_n (AWP.seq (sr fun _ => ?_)))
 refine mz ?_
 refine AWP.block ?_
 refine AWP.rounds (fun st => 2 * st.1 ≤ (rdRow (sixR s 6) 10).2.length) (fun st => [(2, .box (G.length + 0) 0), (6, .box (G.length + 3) 0), (7, .sl ((rdRow (sixR s 6) 10).2.map (AV.int .i64))), (9, .int .i64 ((2 * st.1 : Nat) : Int))]) (fun st => [.box [.int .i64 0, .int .i64 0, .int .i64 0, .int .i64 0, .int .i64 0, .int .i64 0, .sl []], .box (aRd (rdCall s).1), .row st.2 101 2 ((pairsL ((rdRow (sixR s 6) 10).2.take (2 * st.1))).map aLn), .box [.int .i64 (sixN s 0), .int .i64 (sixN s 1), .int .i64 (sixN s 2), .int .i64 (sixN s 3), .int .i64 (sixN s 4), .int .i64 (sixN s 5), .own (G.length + 2) st.2]]) (fun st => (rdRow (sixR s 6) 10).2.length - 2 * st.1) 4 ((0, 0) : Nat × Nat) (Nat.zero_le _) (by repeat (first | exact .nil | refine .cons rfl ?_)) rfl (fun _ => rfl) (fun _ => ⟨by simp [AV.cells], by simp [AO.conts, aRd, aLn, AV.cells]; rintro y a _ (rfl | rfl) <;> simp⟩) (fun st hI => ?_)
 obtain ⟨k, g⟩ := st
 dsimp only at hI
 show AWP _ _ _ _ _ [(2, .box (G.length + 0) 0), (6, .box (G.length + 3) 0), (7, .sl ((rdRow (sixR s 6) 10).2.map (AV.int .i64))), (9, .int .i64 ((2 * k : Nat) : Int))] _ [.box [.int .i64 0, .int .i64 0, .int .i64 0, .int .i64 0, .int .i64 0, .int .i64 0, .sl []], .box (aRd (rdCall s).1), .row g 101 2 ((pairsL ((rdRow (sixR s 6) 10).2.take (2 * k))).map aLn), .box [.int .i64 (sixN s 0), .int .i64 (sixN s 1), .int .i64 (sixN s 2), .int .i64 (sixN s 3), .int .i64 (sixN s 4), .int .i64 (sixN s 5), .own (G.length + 2) g]]
 refine AWP.seq (sr fun _ => ?_)
 refine mv ?_
 refine mv ?_
 refine ρq U24 ?_
 refine ρ6 ?_
 refine ez ?_
 refine ρo (fun h2 => ?_) (fun h2 => ?_)
 · try simp [-List.getD_eq_getElem?_getD] at h2
   refine AWP.skip (thenA_n ?_)
   refine AWP.seq (AWP.block ?_)
   refine AWP.draw mixed (by kernel_rfl) (fun _ => ?_)
   refine ρe (fo := 6) U44 sz42 ?_
   refine ARun.loadBox rfl rfl rfl rfl U42 rfl (ep rfl) ((hG.at _ _).trans rfl) rfl optN ?_
   refine mv ?_
   refine mv ?_
   first | refine ρa U24 sz3 ?_ | refine ρ7 U24 sz3 ?_
   refine ρ2 U3 ?_
   refine mv ?_
   refine mv ?_
   first | refine ρd ?_ | refine ρg ?_
   first | refine ρa U24 sz3 ?_ | refine ρ7 U24 sz3 ?_
   refine ρ2 U3 ?_
   refine ARun.build rfl rfl rfl rfl so101 (.cons (ep rfl) (.cons (ep rfl) .nil)) rfl rfl optN ?_
   refine ρy U42 sz101 zv101 ?_
   refine ARun.appendL hG rfl rfl rfl rfl U42 ti101 rfl (by decide) (ep rfl) (ep rfl) rfl rfl (by have := pairsL_len (((rdRow (sixR s 6) 10).2).take (2 * k)); simp only [List.length_take] at this; simp [maxLen]; omega) (by have := pairsL_len (((rdRow (sixR s 6) 10).2).take (2 * k)); simp only [List.length_take] at this; simp; omega) (pair_snoc (rdRow (sixR s 6) 10).2 k (by omega)) optN rfl ?_
   refine ρe (fo := 6) U44 sz42 ?_
   refine ARun.storeL1 hG rfl rfl rfl sz42 (ep rfl) (ep rfl) rfl (by first | rfl | exact aEr_one _ | exact aFl_one _) (Nat.le_of_ble_eq_true rfl) rfl rfl ?_
   refine ⟨by kernel_rfl, _, _, rfl, hG, ?_⟩
   refine blockA_n (thenA_n ?_)
   refine AWP.region (fun _ => ?_)
   refine mv ?_
   first | refine ρd ?_ | refine ρg ?_
   refine ma ?_
   refine ⟨_, _, rfl, hG, ?_⟩
   refine thenA_n ⟨rfl, (k + 1, g + 1), _, ?_, ?_, rfl, ?_⟩
   · dsimp only; omega
   · repeat (first | exact .nil | refine .cons rfl ?_)
   dsimp only; omega
 simp at h2
 have hk2 : 2 * k = (rdRow (sixR s 6) 10).2.length := by omega
 rw [hk2, List.take_length]
 refine AWP.exit ?_
 refine thenA_x ?_
 refine thenA_x ?_
 refine blockA_h ?_
 refine thenA_n ?_
 refine AWP.seq (AWP.seq ?_)
 refine AWP.frzIn (j := 2) (q := 3) (p := 6) hG rfl (by have := pairsL_len (rdRow (sixR s 6) 10).2; have := rdRow_len (sixR s 6) 10; simp [maxLen]; omega) rfl rfl rfl ?_
 refine AWP.region (fun _ => ?_)
 refine ρs U44 sz44 ?_
 refine ARun.call rfl rfl rfl rfl cf37 (ep rfl) (.cons (ep rfl) .nil) rfl (fun hg => check_fn (mkCall (sixL s) (rdRow (sixR s 6) 10).2) (by have := pairsL_len (rdRow (sixR s 6) 10).2; show (pairsL (rdRow (sixR s 6) 10).2).length ≤ _; omega)) optN ?_
 refine mz (sr fun _ => ?_)
 refine mv ?_
 refine ρr U28 ?_
 refine ez ?_
 refine ρo (fun h3 => ?_) (fun h3 => ?_)
 · simp [new_none] at h3
   refine sr fun _ => ?_
   refine ARun.build rfl rfl rfl rfl so44 .nil rfl rfl optN ?_
   refine mv ?_
   refine ρk cf21 (fun hg => wrap_fn tTake (Er.new tCall (checkP (mkCall (sixL s) (rdRow (sixR s 6) 10).2)))) ?_
   refine ρ8 sz44 ?_
   refine mz ?_
   refine AWP.ret (thenA_r ?_)
   refine ρB (rs := [.cell 2 44, .tmp 3]) (.cons (.cellA rfl ((hG.at _ _).trans rfl) U44 rfl sz44 rfl rfl) (.cons (.tmp rfl) .nil)) ?_
   have h1q : ¬ (rdCall s).2.2.length % 2 = 1 := by show ¬ (rdRow (sixR s 6) 10).2.length % 2 = 1; omega
   have ht : takeE s ≠ 0 := by rw [takeE, if_neg (by omega), if_neg h1q]; exact h3
   rw [takeC, if_neg ht, takeErr, if_neg (by omega), if_neg h1q]; rfl
 simp [new_none] at h3
 refine AWP.skip (thenA_n (sr fun _ => ?_))
 refine ρs U44 sz44 ?_
 refine ρ8 sz44 ?_
 refine mz ?_
 refine AWP.ret ?_
 refine ρB (rs := [.cell 2 44, .tmp 3]) (.cons (.cellA rfl ((hG.at _ _).trans rfl) U44 rfl sz44 rfl rfl) (.cons (.tmp rfl) .nil)) ?_
 have h1q : ¬ (rdCall s).2.2.length % 2 = 1 := by show ¬ (rdRow (sixR s 6) 10).2.length % 2 = 1; omega
 have ht : takeE s = 0 := by rw [takeE, if_neg (by omega), if_neg h1q]; exact h3
 rw [takeC, if_pos ht, takeErr, if_neg (by omega), if_neg h1q, show checkP (mkCall (rdCall s).2.1 (rdCall s).2.2) = 0 from h3]; rfl
end Go.Proofs.YtnlpojjfkgnhhaaGreatDoor
namespace Go.Proofs.YtnlpojjfkgnhhaaGreatDoor
open Go.RowKit
theorem eq58 : EqOk Tryz.prog 58 [.int, .int] := ⟨_, U58, by kernel_rfl, by kernel_rfl, by kernel_rfl, by kernel_rfl⟩
theorem cf19 : ∀ (vs : Array Value) (W : World), (callFunc 19 vs).run Tryz.prog W = .ok (.enter 19 vs) W := fun _ _ => by rfl
theorem cf23 : ∀ (vs : Array Value) (W : World), (callFunc 23 vs).run Tryz.prog W = .ok (.enter 23 vs) W := fun _ _ => by rfl
theorem cf25 : ∀ (vs : Array Value) (W : World), (callFunc 25 vs).run Tryz.prog W = .ok (.enter 25 vs) W := fun _ _ => by rfl
theorem cf27 : ∀ (vs : Array Value) (W : World), (callFunc 27 vs).run Tryz.prog W = .ok (.enter 27 vs) W := fun _ _ => by rfl
theorem cf31 : ∀ (vs : Array Value) (W : World), (callFunc 31 vs).run Tryz.prog W = .ok (.enter 31 vs) W := fun _ _ => by rfl
theorem cf52 : ∀ (vs : Array Value) (W : World), (callFunc 52 vs).run Tryz.prog W = .ok (.enter 52 vs) W := fun _ _ => by rfl
theorem cf53 : ∀ (vs : Array Value) (W : World), (callFunc 53 vs).run Tryz.prog W = .ok (.enter 53 vs) W := fun _ _ => by rfl
theorem cf54 : ∀ (vs : Array Value) (W : World), (callFunc 54 vs).run Tryz.prog W = .ok (.enter 54 vs) W := fun _ _ => by rfl
theorem cf55 : ∀ (vs : Array Value) (W : World), (callFunc 55 vs).run Tryz.prog W = .ok (.enter 55 vs) W := fun _ _ => by rfl
theorem cf56 : ∀ (vs : Array Value) (W : World), (callFunc 56 vs).run Tryz.prog W = .ok (.enter 56 vs) W := fun _ _ => by rfl
theorem cf97 : ∀ (vs : Array Value) (W : World), (callFunc 97 vs).run Tryz.prog W = .ok (.enter 97 vs) W := fun _ _ => by rfl
theorem cf98 : ∀ (vs : Array Value) (W : World), (callFunc 98 vs).run Tryz.prog W = .ok (.enter 98 vs) W := fun _ _ => by rfl
theorem cf99 : ∀ (vs : Array Value) (W : World), (callFunc 99 vs).run Tryz.prog W = .ok (.enter 99 vs) W := fun _ _ => by rfl
theorem cf102 : ∀ (vs : Array Value) (W : World), (callFunc 102 vs).run Tryz.prog W = .ok (.enter 102 vs) W := fun _ _ => by rfl
theorem cf103 : ∀ (vs : Array Value) (W : World), (callFunc 103 vs).run Tryz.prog W = .ok (.enter 103 vs) W := fun _ _ => by rfl
theorem cf104 : ∀ (vs : Array Value) (W : World), (callFunc 104 vs).run Tryz.prog W = .ok (.enter 104 vs) W := fun _ _ => by rfl
theorem cf131 : ∀ (vs : Array Value) (W : World), (callFunc 131 vs).run Tryz.prog W = .ok (.enter 131 vs) W := fun _ _ => by rfl
theorem cf132 : ∀ (vs : Array Value) (W : World), (callFunc 132 vs).run Tryz.prog W = .ok (.enter 132 vs) W := fun _ _ => by rfl
theorem cf133 : ∀ (vs : Array Value) (W : World), (callFunc 133 vs).run Tryz.prog W = .ok (.enter 133 vs) W := fun _ _ => by rfl
theorem so58 : StOk Tryz.prog 58 (.agg #[.int .i64 0, .int .i64 0]) [(0, 1), (1, 1)] := ⟨_, U58, zv58, by kernel_rfl, by kernel_rfl⟩
end Go.Proofs.YtnlpojjfkgnhhaaGreatDoor
namespace Go.Proofs.YtnlpojjfkgnhhaaGreatDoor
open Go.RowKit
open NumP
def smallM (m : Mg) : Prop := m.atts.length ≤ 1000 ∧ m.marks.length ≤ 1000 ∧ m.payload.size ≤ 100000
theorem bare_small {m : Mg} (h : smallM m) : smallM (bareM m) := by
 obtain ⟨h1, h2, h3⟩ := h
 have z1 : Mg.zero.atts.length ≤ 1000 := Nat.zero_le _
 have z2 : Mg.zero.marks.length ≤ 1000 := Nat.zero_le _
 have z3 : Mg.zero.payload.size ≤ 100000 := Nat.zero_le _
 unfold bareM smallM
 dsimp only
 repeat' split
 all_goals exact ⟨by first | exact h1 | exact z1, by first | exact h2 | exact z2, by first | exact h3 | exact z3⟩
theorem mg_ne {a b : Mg} (h : (!decide (a.kind = b.kind) || !decide (a.from_ = b.from_) || !decide (a.id = b.id) || !decide (a.t = b.t) || !decide (a.bal = b.bal) || !decide (a.abal = b.abal) || !decide (a.phase = b.phase) || !decide (a.quorum = b.quorum) || !decide (a.payload = b.payload)) = true) : decide (a = b) = false := by
 refine decide_eq_false fun e => ?_
 subst e; simp at h
theorem mg_eq {a b : Mg} (h : (!decide (a.kind = b.kind) || !decide (a.from_ = b.from_) || !decide (a.id = b.id) || !decide (a.t = b.t) || !decide (a.bal = b.bal) || !decide (a.abal = b.abal) || !decide (a.phase = b.phase) || !decide (a.quorum = b.quorum) || !decide (a.payload = b.payload)) = false) :
   decide (a = b) = (decide (a.lo = b.lo) && decide (a.hi = b.hi) && decide (a.done = b.done) && decide (a.atts = b.atts) && decide (a.marks = b.marks)) := by
 simp only [Bool.or_eq_false_iff, Bool.not_eq_false', decide_eq_true_eq] at h
 obtain ⟨⟨⟨⟨⟨⟨⟨⟨k1, k2⟩, k3⟩, k4⟩, k5⟩, k6⟩, k7⟩, k8⟩, k9⟩ := h
 rw [← Bool.decide_and, ← Bool.decide_and, ← Bool.decide_and, ← Bool.decide_and]
 refine decide_eq_decide.2 ⟨fun e => by subst e; simp, fun e => ?_⟩
 obtain ⟨⟨⟨⟨e1, e2⟩, e3⟩, e4⟩, e5⟩ := e
 obtain ⟨a1, a2, a3, a4, a5, a6, a7, a8, a9, a10, a11, a12, a13, a14⟩ := a
 obtain ⟨b1, b2, b3, b4, b5, b6, b7, b8, b9, b10, b11, b12, b13, b14⟩ := b
 dsimp only at *
 subst k1 k2 k3 k4 k5 k6 k7 k8 k9 e1 e2 e3 e4 e5; rfl
theorem eqAt_fn (a b : List At) (hl : a.length ≤ 9223372036854775807) : FnP Tryz.prog 97 [.sl (a.map aAt), .sl (b.map aAt)] (.bool (decide (a = b))) := by
 refine FnP.of Tryz.func97 rfl rfl (by simp) (by simp [AV.cells, aIn, aOut, aAt, aMg]) (fun G hG => ?_)
 have hN : NoH G.length (.bool (decide (a = b))) := (by simp [AV.cells, aIn, aOut, aAt, aMg])
 refine sr fun _ => ?_
 refine mz ?_
 refine AWP.seq (sr fun _ => ?_)
 refine mv ?_
 refine ρq U23 ?_
 refine mv ?_
 refine ρq U23 ?_
 refine ρ6 ?_
 refine ez ?_
 refine ρo (fun h0 => ?_) (fun h0 => ?_)
 · simp [-List.getD_eq_getElem?_getD] at h0
   refine sr fun _ => ?_
   refine mz ?_
   refine AWP.ret (thenA_r ?_)
   refine ρ9 ?_
   rw [decide_eq_false (fun e => absurd (congrArg List.length e) (by omega))]; rfl
 simp [-List.getD_eq_getElem?_getD] at h0
 refine AWP.skip (thenA_n (AWP.seq (sr fun _ => ?_)))
 refine mv ?_
 refine ρq U23 ?_
 refine mv ?_
 refine ez ?_
 refine AWP.block ?_
 refine AWP.rounds (fun k => k ≤ a.length ∧ a.take k = b.take k) (fun k => [(0, .sl (a.map aAt)), (1, .sl (b.map aAt)), (12, .int .i64 ((a.map aAt).length : Int)), (13, .int .i64 (k : Int))]) (fun k => []) (fun k => a.length - k) 0 0 ⟨by omega, rfl⟩ (by repeat (first | exact .nil | refine .cons rfl ?_)) rfl (fun _ => rfl) (fun _ => (by simp [AO.conts, AV.cells, aIn, aOut, aAt, aMg])) (fun k hI => ?_)
 obtain ⟨hk, hs⟩ := hI
 refine sr fun _ => ?_
 refine ρ6 ?_
 refine ez ?_
 refine AWP.seq ?_
 refine ρo (fun h1 => ?_) (fun h1 => ?_)
 · simp [-List.getD_eq_getElem?_getD] at h1
   refine AWP.skip (thenA_n ?_)
   refine AWP.seq (AWP.block (sr fun _ => ?_))
   refine mv ?_
   refine mz ?_
   refine AWP.seq ?_
   refine AWP.draw mixed (by kernel_rfl) (fun _ => ?_)
   refine mv ?_
   refine mv ?_
   first | refine ρa U23 sz58 ?_ | refine ρ7 U23 sz58 ?_
   refine ρl U58 sz58 ?_
   refine mv ?_
   refine mv ?_
   first | refine ρa U23 sz58 ?_ | refine ρ7 U23 sz58 ?_
   refine ρl U58 sz58 ?_
   refine ARun.eqAgg rfl rfl rfl rfl eq58 (ep rfl) (ep rfl) rfl (.inr ⟨rfl, rfl⟩) optN ?_
   refine ⟨by kernel_rfl, _, _, rfl, hG, ?_⟩
   refine thenA_n ?_
   refine ρo (fun h2 => ?_) (fun h2 => ?_)
   · simp [-List.getD_eq_getElem?_getD] at h2
     refine sr fun _ => ?_
     refine mz ?_
     refine AWP.ret (blockA_r ?_)
     refine thenA_r (thenA_r ?_)
     refine blockA_r (thenA_r ?_)
     refine ρ9 ?_
     rw [decide_eq_false (ne_of_get (k := k) (aAt_ne h2))]; rfl
   simp [-List.getD_eq_getElem?_getD] at h2
   refine AWP.skip (blockA_n (thenA_n ?_))
   refine AWP.region (fun _ => ?_)
   first | refine ρd ?_ | refine ρg ?_
   refine mv ?_
   refine ⟨_, _, rfl, hG, ?_⟩
   refine thenA_n ⟨rfl, k + 1, _, ?_, ?_, rfl, ?_⟩
   · exact ⟨by omega, take_eq_go hs h1 (by omega) (aAt_ext h2)⟩
   · repeat (first | exact .nil | refine .cons rfl ?_)
   omega
 simp [-List.getD_eq_getElem?_getD] at h1
 refine AWP.exit ?_
 refine thenA_x ?_
 refine thenA_x ?_
 refine blockA_h ?_
 refine thenA_n (sr fun _ => ?_)
 refine mz ?_
 refine AWP.ret ?_
 refine ρ9 ?_
 rw [decide_eq_true (by rw [List.take_of_length_le h1, List.take_of_length_le (by omega)] at hs; exact hs)]; rfl
theorem noneM_fn (x : Int) : FnP Tryz.prog 132 [.int .i64 x] (.bool (!markM x)) := by
 refine FnP.of Tryz.func132 rfl rfl (by simp) (by simp [AV.cells, aIn, aOut, aAt, aMg]) (fun G hG => ?_)
 have hN : NoH G.length (.bool (!markM x)) := (by simp [AV.cells, aIn, aOut, aAt, aMg])
 refine sr fun _ => ?_
 refine mz (sr fun _ => ?_)
 refine mv ?_
 refine ρf cf131 (fun hg => markM_fn x) ?_
 refine ARun.not rfl rfl rfl rfl (ep rfl) optN ?_
 refine mz ?_
 refine AWP.ret ?_
 refine ρ9 ?_
 rfl
theorem prom_fn (m : Mg) (hm : smallM m) : FnP Tryz.prog 99 [aMg m] (.bool (promM m)) := by
 obtain ⟨hm1, hm2, hm3⟩ := hm
 refine FnP.of Tryz.func99 rfl rfl (by simp) (by simp [AV.cells, aIn, aOut, aAt, aMg]) (fun G hG => ?_)
 have hN : NoH G.length (.bool (promM m)) := (by simp [AV.cells, aIn, aOut, aAt, aMg])
 refine sr fun _ => ?_
 refine ρt ?_
 refine mz ?_
 refine AWP.seq (sr fun _ => ?_)
 refine ρ0 U26 sz3 ?_
 refine ρ2 U3 ?_
 refine ρf cf131 (fun hg => markM_fn m.lo) ?_
 refine ARun.not rfl rfl rfl rfl (ep rfl) optN ?_
 refine mv ?_
 refine ρ5 U26 sz3 ?_
 refine ρ4 U3 ?_
 refine ρi cf131 (fun hg => markM_fn m.hi) ?_
 refine ARun.not rfl rfl rfl rfl (Ev.opt rfl (fun h => h)) optS ?_
 refine ρ3 ?_
 refine mv ?_
 refine ρ5 U26 sz3 ?_
 refine ρ4 U3 ?_
 refine ρ5 U26 sz3 ?_
 refine ρ4 U3 ?_
 refine ρm ?_
 refine ρ3 ?_
 refine mv ?_
 refine ρ5 U26 sz3 ?_
 refine ρ4 U3 ?_
 refine ρi cf131 (fun hg => markM_fn m.done) ?_
 refine ARun.not rfl rfl rfl rfl (Ev.opt rfl (fun h => h)) optS ?_
 refine ρ3 ?_
 refine mv ?_
 refine ρ5 U26 sz24 ?_
 refine ρ4 U24 ?_
 refine ARun.lenSl rfl rfl rfl rfl U24 (Ev.opt rfl (fun h => h)) optS ?_
 refine ρb ?_
 refine ρ3 ?_
 refine ez ?_
 refine ρo (fun h0 => ?_) (fun h0 => ?_)
 · rw [List.length_map] at h0
   refine sr fun _ => ?_
   refine mz ?_
   refine AWP.ret (thenA_r ?_)
   refine ρ9 ?_
   rw [promM, if_pos h0]; rfl
 rw [List.length_map] at h0
 refine AWP.skip (thenA_n (sr fun _ => ?_))
 refine mz (sr fun _ => ?_)
 refine ρ0 U26 sz23 ?_
 refine ρ2 U23 ?_
 refine ρ0 U26 sz3 ?_
 refine ρ2 U3 ?_
 refine ρ0 U26 sz3 ?_
 refine ρ2 U3 ?_
 refine ARun.call rfl rfl rfl rfl cf133 (ep rfl) (.cons (ep rfl) (.cons (ep rfl) (.cons (ep rfl) .nil))) rfl (fun hg => attached_fn m.atts m.lo m.hi (by omega)) optN ?_
 refine mv ?_
 refine ρ5 U26 sz24 ?_
 refine ρ4 U24 ?_
 refine ρh ?_
 refine ARun.call rfl rfl rfl rfl cf39 (ep rfl) (.cons (Ev.opt rfl (fun h => h)) (.cons (Ev.opt rfl (fun h => h)) .nil)) rfl (fun hg => containsI 132 [] [] (fun x => !markM x) m.marks (by omega) cf132 (by simp) (fun x _ => noneM_fn x)) optS ?_
 refine ARun.not rfl rfl rfl rfl (Ev.opt rfl (fun h => h)) optS ?_
 refine ρ1 ?_
 refine mz ?_
 refine AWP.ret ?_
 refine ρ9 ?_
 rw [promM, if_neg (by rw [h0]; decide)]
theorem may_fnM (m : Mg) (hm : smallM m) : FnP Tryz.prog 56 [aMg m] (.bool (mayM m)) := by
 refine FnP.of Tryz.func56 rfl rfl (by simp) (by simp [AV.cells, aIn, aOut, aAt, aMg]) (fun G hG => ?_)
 have hN : NoH G.length (.bool (mayM m)) := (by simp [AV.cells, aIn, aOut, aAt, aMg])
 refine sr fun _ => ?_
 refine ρt ?_
 refine mz ?_
 refine AWP.seq (sr fun _ => ?_)
 refine ρ0 U26 sz3 ?_
 refine ρ2 U3 ?_
 refine ρ6 ?_
 refine ez ?_
 refine ρo (fun h0 => ?_) (fun h0 => ?_)
 · simp only [decide_eq_true_eq, decide_eq_false_iff_not, Bool.not_eq_true', Bool.not_eq_false'] at h0
   refine sr fun _ => ?_
   refine ρl U26 sz26 ?_
   refine ρf cf99 (fun hg => prom_fn m hm) ?_
   refine mz ?_
   refine AWP.ret (thenA_r ?_)
   refine ρ9 ?_
   rw [mayM, if_pos h0]
 simp only [decide_eq_true_eq, decide_eq_false_iff_not, Bool.not_eq_true', Bool.not_eq_false'] at h0
 refine AWP.skip (thenA_n (AWP.seq (sr fun _ => ?_)))
 refine ρ0 U26 sz3 ?_
 refine ρ2 U3 ?_
 refine ρf cf100 (fun hg => ident_fn m.id) ?_
 refine ρ6 ?_
 refine ez ?_
 refine ρo (fun h1 => ?_) (fun h1 => ?_)
 · simp only [decide_eq_true_eq, decide_eq_false_iff_not, Bool.not_eq_true', Bool.not_eq_false'] at h1
   refine sr fun _ => ?_
   refine mz ?_
   refine AWP.ret (thenA_r ?_)
   refine ρ9 ?_
   rw [mayM, if_neg h0, if_pos h1]; rfl
 simp only [decide_eq_true_eq, decide_eq_false_iff_not, Bool.not_eq_true', Bool.not_eq_false'] at h1
 refine AWP.skip (thenA_n (AWP.seq (sr fun _ => ?_)))
 refine ρ0 U26 sz3 ?_
 refine ρ2 U3 ?_
 refine ez ?_
 refine AWP.block (AWP.seq ?_)
 refine sr fun _ => ?_
 refine ρ6 ?_
 refine mz ?_
 refine ρo (fun h2 => ?_) (fun h2 => ?_)
 · simp only [decide_eq_true_eq, decide_eq_false_iff_not, Bool.not_eq_true', Bool.not_eq_false'] at h2
   refine AWP.skip (thenA_n ?_)
   refine ρo (fun h3 => ?_) (fun h3 => ?_)
   · simp only [decide_eq_true_eq, decide_eq_false_iff_not, Bool.not_eq_true', Bool.not_eq_false'] at h3
     refine sr fun _ => ?_
     refine ρ0 U26 sz3 ?_
     refine ρ2 U3 ?_
     refine ρf cf101 (fun hg => timeM_fn m.t) ?_
     refine mv ?_
     refine ARun.loadPeA rfl rfl rfl rfl U26 rfl sz26 (ep rfl) rfl optS ?_
     refine ρi cf102 (fun hg => carried_fn m) ?_
     refine ρ1 ?_
     refine mz ?_
     refine AWP.ret (blockA_r (thenA_r ?_))
     refine ρ9 ?_
     have h1N : ¬ identE m.id ≠ 0 := fun e => e h1
     rw [mayM, if_neg h0, if_neg h1N, if_pos (.inl h2)]
   rw [decide_eq_false_iff_not] at h3; exact absurd h2 h3
 simp only [decide_eq_true_eq, decide_eq_false_iff_not, Bool.not_eq_true', Bool.not_eq_false'] at h2
 refine AWP.region (fun _ => ?_)
 refine ρ6 ?_
 refine mz ?_
 refine ρo (fun h4 => ?_) (fun h4 => ?_)
 · simp only [decide_eq_true_eq, decide_eq_false_iff_not, Bool.not_eq_true', Bool.not_eq_false'] at h4
   refine sr fun _ => ?_
   refine ρ0 U26 sz3 ?_
   refine ρ2 U3 ?_
   refine ρf cf101 (fun hg => timeM_fn m.t) ?_
   refine mv ?_
   refine ARun.loadPeA rfl rfl rfl rfl U26 rfl sz26 (ep rfl) rfl optS ?_
   refine ρi cf102 (fun hg => carried_fn m) ?_
   refine ρ1 ?_
   refine mz ?_
   refine AWP.ret (blockA_r (thenA_r ?_))
   refine ρ9 ?_
   have h1N : ¬ identE m.id ≠ 0 := fun e => e h1
   rw [mayM, if_neg h0, if_neg h1N, if_pos (.inr h4)]
 simp only [decide_eq_true_eq, decide_eq_false_iff_not, Bool.not_eq_true', Bool.not_eq_false'] at h4
 refine sr fun _ => ?_
 refine ρ6 ?_
 refine mz ?_
 refine ρo (fun h5 => ?_) (fun h5 => ?_)
 · simp only [decide_eq_true_eq, decide_eq_false_iff_not, Bool.not_eq_true', Bool.not_eq_false'] at h5
   refine sr fun _ => ?_
   refine ρ0 U26 sz3 ?_
   refine ρ2 U3 ?_
   refine ρf cf101 (fun hg => timeM_fn m.t) ?_
   refine mv ?_
   refine ρ5 U26 sz3 ?_
   refine ρ4 U3 ?_
   refine ρi cf103 (fun hg => balM_fn m.bal) ?_
   refine ρ1 ?_
   refine mv ?_
   refine ARun.loadPeA rfl rfl rfl rfl U26 rfl sz26 (ep rfl) rfl optS ?_
   refine ρi cf102 (fun hg => carried_fn m) ?_
   refine ρ1 ?_
   refine mz ?_
   refine AWP.ret (blockA_r (thenA_r ?_))
   refine ρ9 ?_
   have h1N : ¬ identE m.id ≠ 0 := fun e => e h1
   have hn : ¬ (m.kind = 1 ∨ m.kind = 5) := by omega
   rw [mayM, if_neg h0, if_neg h1N, if_neg hn, if_pos h5]
 simp only [decide_eq_true_eq, decide_eq_false_iff_not, Bool.not_eq_true', Bool.not_eq_false'] at h5
 refine sr fun _ => ?_
 refine ρ6 ?_
 refine mz ?_
 refine ρo (fun h6 => ?_) (fun h6 => ?_)
 · simp only [decide_eq_true_eq, decide_eq_false_iff_not, Bool.not_eq_true', Bool.not_eq_false'] at h6
   refine sr fun _ => ?_
   refine ρ0 U26 sz3 ?_
   refine ρ2 U3 ?_
   refine ρf cf103 (fun hg => balM_fn m.bal) ?_
   refine mv ?_
   refine ARun.loadPeA rfl rfl rfl rfl U26 rfl sz26 (ep rfl) rfl optS ?_
   refine ρi cf102 (fun hg => carried_fn m) ?_
   refine ρ1 ?_
   refine mz ?_
   refine AWP.ret (blockA_r (thenA_r ?_))
   refine ρ9 ?_
   have h1N : ¬ identE m.id ≠ 0 := fun e => e h1
   have hn : ¬ (m.kind = 1 ∨ m.kind = 5) := by omega
   rw [mayM, if_neg h0, if_neg h1N, if_neg hn, if_neg h5, if_pos h6]
 simp only [decide_eq_true_eq, decide_eq_false_iff_not, Bool.not_eq_true', Bool.not_eq_false'] at h6
 refine sr fun _ => ?_
 refine ρ6 ?_
 refine mz ?_
 refine ρo (fun h7 => ?_) (fun h7 => ?_)
 · simp only [decide_eq_true_eq, decide_eq_false_iff_not, Bool.not_eq_true', Bool.not_eq_false'] at h7
   refine sr fun _ => ?_
   refine ρl U26 sz26 ?_
   refine ρf cf102 (fun hg => carried_fn m) ?_
   refine mz ?_
   refine AWP.ret (blockA_r (thenA_r ?_))
   refine ρ9 ?_
   have h1N : ¬ identE m.id ≠ 0 := fun e => e h1
   have hn : ¬ (m.kind = 1 ∨ m.kind = 5) := by omega
   rw [mayM, if_neg h0, if_neg h1N, if_neg hn, if_neg h5, if_neg h6, if_pos h7]
 simp only [decide_eq_true_eq, decide_eq_false_iff_not, Bool.not_eq_true', Bool.not_eq_false'] at h7
 refine sr fun _ => ?_
 refine ρ6 ?_
 refine mz ?_
 refine ρo (fun h8 => ?_) (fun h8 => ?_)
 · simp only [decide_eq_true_eq, decide_eq_false_iff_not, Bool.not_eq_true', Bool.not_eq_false'] at h8
   refine sr fun _ => ?_
   refine ρ0 U26 sz3 ?_
   refine ρ2 U3 ?_
   refine ρf cf101 (fun hg => timeM_fn m.t) ?_
   refine mz ?_
   refine AWP.ret (blockA_r (thenA_r ?_))
   refine ρ9 ?_
   have h1N : ¬ identE m.id ≠ 0 := fun e => e h1
   have hn : ¬ (m.kind = 1 ∨ m.kind = 5) := by omega
   rw [mayM, if_neg h0, if_neg h1N, if_neg hn, if_neg h5, if_neg h6, if_neg h7, if_pos h8]
 simp only [decide_eq_true_eq, decide_eq_false_iff_not, Bool.not_eq_true', Bool.not_eq_false'] at h8
 refine sr fun _ => ?_
 refine ρ6 ?_
 refine mz ?_
 refine ρo (fun h9 => ?_) (fun h9 => ?_)
 · simp only [decide_eq_true_eq, decide_eq_false_iff_not, Bool.not_eq_true', Bool.not_eq_false'] at h9
   refine sr fun _ => ?_
   refine ρ0 U26 sz3 ?_
   refine ρ2 U3 ?_
   refine ρf cf103 (fun hg => balM_fn m.bal) ?_
   refine mv ?_
   refine ARun.loadPeA rfl rfl rfl rfl U26 rfl sz26 (ep rfl) rfl optS ?_
   refine ρi cf104 (fun hg => told_fnM m) ?_
   refine ρ1 ?_
   refine mz ?_
   refine AWP.ret (blockA_r (thenA_r ?_))
   refine ρ9 ?_
   have h1N : ¬ identE m.id ≠ 0 := fun e => e h1
   have hn : ¬ (m.kind = 1 ∨ m.kind = 5) := by omega
   rw [mayM, if_neg h0, if_neg h1N, if_neg hn, if_neg h5, if_neg h6, if_neg h7, if_neg h8, if_pos h9]
 simp only [decide_eq_true_eq, decide_eq_false_iff_not, Bool.not_eq_true', Bool.not_eq_false'] at h9
 refine AWP.skip (blockA_n (thenA_n (sr fun _ => ?_)))
 refine ρ0 U26 sz3 ?_
 refine ρ2 U3 ?_
 refine ρf cf103 (fun hg => balM_fn m.bal) ?_
 refine mz ?_
 refine AWP.ret ?_
 refine ρ9 ?_
 have h1N : ¬ identE m.id ≠ 0 := fun e => e h1
 have hn : ¬ (m.kind = 1 ∨ m.kind = 5) := by omega
 rw [mayM, if_neg h0, if_neg h1N, if_neg hn, if_neg h5, if_neg h6, if_neg h7, if_neg h8, if_neg h9]
theorem sameM_fn (a b : Mg) (h1 : a.atts.length ≤ 1000000) (h2 : a.marks.length ≤ 1000000) : FnP Tryz.prog 54 [aMg a, aMg b] (.bool (decide (a = b))) := by
 refine FnP.of Tryz.func54 rfl rfl (by simp) (by simp [AV.cells, aIn, aOut, aAt, aMg]) (fun G hG => ?_)
 have hN : NoH G.length (.bool (decide (a = b))) := (by simp [AV.cells, aIn, aOut, aAt, aMg])
 refine sr fun _ => ?_
 refine ρt ?_
 refine ρt ?_
 refine mz ?_
 refine AWP.seq (sr fun _ => ?_)
 refine ρ0 U26 sz3 ?_
 refine ρ2 U3 ?_
 refine ρ0 U26 sz3 ?_
 refine ρ2 U3 ?_
 refine ρ6 ?_
 refine mv ?_
 refine ρ5 U26 sz3 ?_
 refine ρ4 U3 ?_
 refine ρ5 U26 sz3 ?_
 refine ρ4 U3 ?_
 refine ρm ?_
 refine ρ3 ?_
 refine mv ?_
 refine ρ5 U26 sz3 ?_
 refine ρ4 U3 ?_
 refine ρ5 U26 sz3 ?_
 refine ρ4 U3 ?_
 refine ρm ?_
 refine ρ3 ?_
 refine mv ?_
 refine ρ5 U26 sz3 ?_
 refine ρ4 U3 ?_
 refine ρ5 U26 sz3 ?_
 refine ρ4 U3 ?_
 refine ρm ?_
 refine ρ3 ?_
 refine mv ?_
 refine ρ5 U26 sz3 ?_
 refine ρ4 U3 ?_
 refine ρ5 U26 sz3 ?_
 refine ρ4 U3 ?_
 refine ρm ?_
 refine ρ3 ?_
 refine mv ?_
 refine ρ5 U26 sz3 ?_
 refine ρ4 U3 ?_
 refine ρ5 U26 sz3 ?_
 refine ρ4 U3 ?_
 refine ρm ?_
 refine ρ3 ?_
 refine mv ?_
 refine ρ5 U26 sz3 ?_
 refine ρ4 U3 ?_
 refine ρ5 U26 sz3 ?_
 refine ρ4 U3 ?_
 refine ρm ?_
 refine ρ3 ?_
 refine mv ?_
 refine ρ5 U26 sz3 ?_
 refine ρ4 U3 ?_
 refine ρ5 U26 sz3 ?_
 refine ρ4 U3 ?_
 refine ρm ?_
 refine ρ3 ?_
 refine mv ?_
 refine ρ5 U26 sz9 ?_
 refine ρ4 U9 ?_
 refine ρ5 U26 sz9 ?_
 refine ρ4 U9 ?_
 refine ARun.cmpS rfl rfl rfl rfl (Ev.opt rfl (fun h => h)) (Ev.opt rfl (fun h => h)) rfl optS ?_
 refine ρ3 ?_
 refine ez ?_
 refine ρo (fun h0 => ?_) (fun h0 => ?_)
 · refine sr fun _ => ?_
   refine mz ?_
   refine AWP.ret (thenA_r ?_)
   refine ρ9 ?_
   rw [mg_ne h0]; rfl
 refine AWP.skip (thenA_n (sr fun _ => ?_))
 refine ρ0 U26 sz3 ?_
 refine ρ2 U3 ?_
 refine ρ0 U26 sz3 ?_
 refine ρ2 U3 ?_
 refine ρ6 ?_
 refine mv ?_
 refine ρ5 U26 sz3 ?_
 refine ρ4 U3 ?_
 refine ρ5 U26 sz3 ?_
 refine ρ4 U3 ?_
 refine ρm ?_
 refine ρ1 ?_
 refine mv ?_
 refine ρ5 U26 sz3 ?_
 refine ρ4 U3 ?_
 refine ρ5 U26 sz3 ?_
 refine ρ4 U3 ?_
 refine ρm ?_
 refine ρ1 ?_
 refine mv ?_
 refine ρ5 U26 sz23 ?_
 refine ρ4 U23 ?_
 refine ρ5 U26 sz23 ?_
 refine ρ4 U23 ?_
 refine ARun.call rfl rfl rfl rfl cf97 (ep rfl) (.cons (Ev.opt rfl (fun h => h)) (.cons (Ev.opt rfl (fun h => h)) .nil)) rfl (fun hg => eqAt_fn a.atts b.atts (by omega)) optS ?_
 refine ρ1 ?_
 refine mv ?_
 refine ρ5 U26 sz24 ?_
 refine ρ4 U24 ?_
 refine ρ5 U26 sz24 ?_
 refine ρ4 U24 ?_
 refine ARun.call rfl rfl rfl rfl cf98 (ep rfl) (.cons (Ev.opt rfl (fun h => h)) (.cons (Ev.opt rfl (fun h => h)) .nil)) rfl (fun hg => eqI_fn a.marks b.marks (by omega)) optS ?_
 refine ρ1 ?_
 refine mz ?_
 refine AWP.ret ?_
 refine ρ9 ?_
 rw [mg_eq h0]
theorem chk_kind {m : Mg} (h : (decide (nameM m.kind = ⟨#[]⟩)) = true) : checkM m = 30 := by
 rw [decide_eq_true_eq, nameM_iff] at h
 unfold checkM; rw [if_pos h]
theorem chk_rest {m : Mg} (h : (decide (nameM m.kind = ⟨#[]⟩)) = false) : checkM m = if (decide (m.from_ < 1) || decide (9 < m.from_) || !decide (bareM m = m) || !mayM m) = true then 2 else 0 := by
 rw [decide_eq_false_iff_not, nameM_iff] at h
 unfold checkM; rw [if_neg h]
theorem checkM_fn (m : Mg) (hm : smallM m) : FnP Tryz.prog 23 [aMg m] (aEr (Er.new tMsg (checkM m))) := by
 refine FnP.of Tryz.func23 rfl rfl (by simp) (by simp [AV.cells, aIn, aOut, aAt, aMg]) (fun G hG => ?_)
 have hN : NoH G.length (aEr (Er.new tMsg (checkM m))) := (by simp [AV.cells, aIn, aOut, aAt, aMg])
 refine sr fun _ => ?_
 refine ρt ?_
 refine mz ?_
 refine AWP.seq (sr fun _ => ?_)
 refine ρ0 U26 sz3 ?_
 refine ρ2 U3 ?_
 refine ρf cf53 (fun hg => name_fnM m.kind) ?_
 refine ARun.cmpS rfl rfl rfl rfl (ep rfl) (ep rfl) rfl optN ?_
 refine ez ?_
 refine ρo (fun h0 => ?_) (fun h0 => ?_)
 · refine sr fun _ => ?_
   refine ρk cf22 (fun hg => new_fn tMsg 30) ?_
   refine mz ?_
   refine AWP.ret (thenA_r ?_)
   refine ρ9 ?_
   rw [chk_kind h0]
 refine AWP.skip (thenA_n ?_)
 refine AWP.seq (AWP.seq ?_)
 refine AWP.draw mixed (by kernel_rfl) (fun _ => ?_)
 refine ρ0 U26 sz3 ?_
 refine ρ2 U3 ?_
 refine ρ6 ?_
 refine mv ?_
 refine ρ5 U26 sz3 ?_
 refine ρ4 U3 ?_
 refine ρb ?_
 refine ρ3 ?_
 refine mv ?_
 refine ARun.loadPeA rfl rfl rfl rfl U26 rfl sz26 (ep rfl) rfl optS ?_
 refine ρi cf55 (fun hg => bare_fnM m) ?_
 refine ARun.loadPeA rfl rfl rfl rfl U26 rfl sz26 (ep rfl) rfl optS ?_
 refine ARun.call rfl rfl rfl rfl cf54 (ep rfl) (.cons (Ev.opt rfl (fun h => h)) (.cons (Ev.opt rfl (fun h => h)) .nil)) rfl (fun hg => sameM_fn (bareM m) m (by have := (bare_small hm).1; omega) (by have := (bare_small hm).2.1; omega)) optS ?_
 refine ARun.not rfl rfl rfl rfl (Ev.opt rfl (fun h => h)) optS ?_
 refine ρ3 ?_
 refine mv ?_
 refine ARun.loadPeA rfl rfl rfl rfl U26 rfl sz26 (ep rfl) rfl optS ?_
 refine ρi cf56 (fun hg => may_fnM m hm) ?_
 refine ARun.not rfl rfl rfl rfl (Ev.opt rfl (fun h => h)) optS ?_
 refine ρ3 ?_
 refine ⟨by kernel_rfl, _, _, rfl, hG, ?_⟩
 refine thenA_n ?_
 refine ρo (fun h1 => ?_) (fun h1 => ?_)
 · refine sr fun _ => ?_
   refine ρk cf22 (fun hg => new_fn tMsg 2) ?_
   refine mz ?_
   refine AWP.ret (thenA_r ?_)
   refine ρ9 ?_
   rw [chk_rest h0, if_pos h1]
 refine AWP.skip (thenA_n (sr fun _ => ?_))
 refine mz ?_
 refine AWP.ret ?_
 refine ρ9 ?_
 rw [chk_rest h0, if_neg (by rw [h1]; decide)]; rfl
def isAny (e : Er) (c : Int) : Bool := !e.isNone && decide (e.found = some c)
theorem isAny_new (p : ByteArray) (k c : Int) (hc : c ≠ 0) : isAny (Er.new p k) c = decide (k = c) := by
 unfold isAny Er.new
 by_cases h : k = 0
 · subst h; rw [if_pos rfl]; simp [Er.isNone]; exact fun e => hc e.symm
 rw [if_neg h]; show (true && decide (some k = some c)) = decide (k = c); simp
theorem eqIn_nilL (P : Program) (W : World) {t : TypeId} {ms : Array (String × TypeId)} (hu : P.underlying t = some (.interface ms)) (q : TypeId) (u : Value) (d : Nat) : (Op.equalIn (d + 1) t .nilIface (.iface q u)).run P W = .ok false W := by
 simp [Op.equalIn, run_underlying hu]
theorem run_nilL (P : Program) (W : World) {t : TypeId} {ms : Array (String × TypeId)} (hu : P.underlying t = some (.interface ms)) (q : TypeId) (u : Value) : (binOp .eql t .nilIface (.iface q u)).run P W = .ok (.bool false) W := by
 have h1 := eqIn_nilL P W hu q u 9999
 simp only [binOp]
 simp [Op.equal, Op.maxDepth, h1]
theorem eq_nil (c : Int) (x y : Operand) (W : World) (β : List Hd) (u v : Value) (hu : VRep β W u (.raw .nilIface)) (hv : VRep β W v (aEr (.no c))) :
   (eqGuard .eql 28 x y u v).run Tryz.prog W = .ok () W ∧ ∃ r, (binOp .eql 28 u v).run Tryz.prog W = .ok r W ∧ VRep β W r (.bool false) := by
 cases hu
 obtain ⟨q, rfl, hq⟩ := VRep.ifc_inv hv
 refine ⟨by simp [eqGuard], ?_⟩
 exact ⟨.bool false, run_nilL Tryz.prog W U28 _ _, .bool _⟩
theorem IsNil_fn (c : Int) : FnP Tryz.prog 25 [.raw .nilIface, aEr (.no c)] (.bool false) := by
 refine FnP.of Tryz.func25 rfl rfl (by simp) (by simp [AV.cells, aIn, aOut, aAt, aMg]) (fun G hG => ?_)
 have hN : NoH G.length (.bool false) := (by simp [AV.cells, aIn, aOut, aAt, aMg])
 refine sr fun _ => ?_
 refine mz ?_
 refine AWP.seq (sr fun _ => ?_)
 refine mv ?_
 refine ARun.isNil rfl rfl rfl rfl U28 (ep rfl) (fun hg => rfl) (.inl ⟨rfl, rfl⟩) optN ?_
 refine mv ?_
 refine ρh ?_
 refine ARun.isNil rfl rfl rfl rfl U28 (Ev.opt rfl (fun h => h)) (fun hg => nilA_aEr (.no c)) (.inl ⟨rfl, rfl⟩) optS ?_
 refine ρ3 ?_
 refine ez ?_
 refine ρo (fun h0 => ?_) (fun h0 => ?_)
 · refine sr fun _ => ?_
   refine mv ?_
   refine mv ?_
   refine ARun.binV rfl rfl rfl rfl (ep rfl) (ep rfl) (fun hg W β u v hu hv => eq_nil c _ _ W β u v hu hv) optN ?_
   refine mz ?_
   refine AWP.ret (thenA_r ?_)
   refine ρ9 ?_
   rfl
 simp at h0
theorem IsAny_fn (e : Er) (c : Int) : FnP Tryz.prog 25 [aEr e, aEr (.no c)] (.bool (isAny e c)) := by
 unfold isAny
 cases h : e.isNone with
 | true =>
   have : e = .none := by cases e <;> first | rfl | cases h
   subst this; exact IsNil_fn c
 | false => exact Is_fn e c h
structure FitM (m : Mg) : Prop where
 head : ∀ x, x ∈ headM m → -9223372036854775808 ≤ x ∧ x ≤ 9223372036854775807
 tail : ∀ x, x ∈ [m.lo, m.hi, m.done] → -9223372036854775808 ≤ x ∧ x ≤ 9223372036854775807
 atts : ∀ x, x ∈ flatT m.atts → -9223372036854775808 ≤ x ∧ x ≤ 9223372036854775807
 marks : ∀ x, x ∈ m.marks → -9223372036854775808 ≤ x ∧ x ≤ 9223372036854775807
theorem att_snoc (l : List At) (k : Nat) (h : k < l.length) : (flatT (l.take k)).map (AV.int .i64) ++ [AV.int .i64 (l.getD k default).t, AV.int .i64 (l.getD k default).id] = (flatT (l.take (k + 1))).map (AV.int .i64) := by rw [flatT_take l k h]; simp
theorem pairT_snoc (l : List Int) (k : Nat) (h : 2 * k + 1 < l.length) : (pairsT (l.take (2 * k))).map aAt ++ [AV.agg [AV.int .i64 (l.getD (2 * k) default), AV.int .i64 (l.getD (2 * k + 1) default)]] = (pairsT (l.take (2 * (k + 1)))).map aAt := by rw [pairsT_take l k h]; simp [aAt]
theorem putM_no {m : Mg} (h : (isAny (Er.new tMsg (checkM m)) 30 || isAny (Er.new tMsg (checkM m)) 2) = true) : checkM m ≠ 0 := by
 rw [isAny_new _ _ _ (by decide), isAny_new _ _ _ (by decide)] at h
 intro e; rw [e] at h; cases h
theorem putM_yes {m : Mg} (h : (isAny (Er.new tMsg (checkM m)) 30 || isAny (Er.new tMsg (checkM m)) 2) = false) : checkM m = 0 := by
 rw [isAny_new _ _ _ (by decide), isAny_new _ _ _ (by decide)] at h
 simp only [Bool.or_eq_false_iff, decide_eq_false_iff_not] at h
 unfold checkM at h ⊢
 split
 · rename_i h1; rw [if_pos h1] at h; exact absurd rfl h.1
 rename_i h1
 rw [if_neg h1] at h
 split
 · rename_i h2; rw [if_pos h2] at h; exact absurd rfl h.2
 rfl
theorem putM_fn (m : Mg) (hm : smallM m) (hf : FitM m) : FnP Tryz.prog 7 [aMg m] (.tup [.str (putM m), aEr (putMErr m)]) := by
 obtain ⟨hm1, hm2, hm3⟩ := hm
 have hm := (show smallM m from ⟨hm1, hm2, hm3⟩)
 have hw1 := wrNums_len (headM m) WrS.new
 have hw1h : (headM m).length = 8 := rfl
 have hw0 : WrS.new.s.length = 0 := rfl
 have hw2 := wrText_len (wrNums WrS.new (headM m)) m.payload
 have hw3 := wrNums_len [m.lo, m.hi, m.done] (wrText (wrNums WrS.new (headM m)) m.payload)
 have hw3h : [m.lo, m.hi, m.done].length = 3 := rfl
 have hw4 := wrRow_len (wrNums (wrText (wrNums WrS.new (headM m)) m.payload) [m.lo, m.hi, m.done]) (flatT m.atts)
 have hfl := flatT_len m.atts
 refine FnP.of Tryz.func7 rfl rfl (by simp) (by simp [AV.cells, aIn, aOut, aAt, aMg]) (fun G hG => ?_)
 have hN : NoH G.length (.tup [.str (putM m), aEr (putMErr m)]) := (by simp [AV.cells, aIn, aOut, aAt, aMg])
 refine sr fun _ => ?_
 refine ρt ?_
 refine ma ?_
 refine mz (sr fun _ => ?_)
 refine ρl U26 sz26 ?_
 refine ρf cf23 (fun hg => checkM_fn m hm) ?_
 refine mz ?_
 refine AWP.seq (sr fun _ => ?_)
 refine mv ?_
 refine ARun.iface rfl rfl rfl rfl (by kernel_rfl) (ep rfl) optN ?_
 refine ρk cf25 (fun hg => IsAny_fn (Er.new tMsg (checkM m)) 30) ?_
 refine mv ?_
 refine ρh ?_
 refine ARun.iface rfl rfl rfl rfl (by kernel_rfl) (ep rfl) optS ?_
 refine ARun.call rfl rfl rfl rfl cf25 (ep rfl) (.cons (Ev.opt rfl (fun h => h)) (.cons (Ev.opt rfl (fun h => h)) .nil)) rfl (fun hg => IsAny_fn (Er.new tMsg (checkM m)) 2) optS ?_
 refine ρ3 ?_
 refine ez ?_
 refine ρo (fun h0 => ?_) (fun h0 => ?_)
 · have hc := putM_no h0
   refine sr fun _ => ?_
   refine mv ?_
   refine ma ?_
   refine mz ?_
   refine AWP.ret (thenA_r ?_)
   refine ρB (rs := [.tmp 2, .tmp 3]) (.cons (.tmp rfl) (.cons (.tmp rfl) .nil)) ?_
   rw [putM, if_neg hc, putMErr, if_neg hc]; rfl
 have hc := putM_yes h0
 refine AWP.skip (thenA_n (sr fun _ => ?_))
 refine ARun.allocBld (j := 0) (e := 5) hG rfl rfl rfl rfl rfl zv90 rfl rfl rfl optN ?_
 refine ez (sr fun _ => ?_)
 refine ρ0 U26 sz3 ?_
 refine ρ2 U3 ?_
 refine ρ0 U26 sz3 ?_
 refine ρ2 U3 ?_
 refine ρ0 U26 sz3 ?_
 refine ρ2 U3 ?_
 refine ρ0 U26 sz3 ?_
 refine ρ2 U3 ?_
 refine ρ0 U26 sz3 ?_
 refine ρ2 U3 ?_
 refine ρ0 U26 sz3 ?_
 refine ρ2 U3 ?_
 refine ρ0 U26 sz3 ?_
 refine ρ2 U3 ?_
 refine ρ0 U26 sz3 ?_
 refine ρ2 U3 ?_
 refine ARun.buildSl rfl rfl rfl rfl U24 sz3 zv3 rfl (by decide) (.cons (ep rfl) (.cons (ep rfl) (.cons (ep rfl) (.cons (ep rfl) (.cons (ep rfl) (.cons (ep rfl) (.cons (ep rfl) (.cons (ep rfl) .nil)))))))) rfl rfl rfl rfl (by decide) rfl rfl optN ?_
 refine ARun.callSet (j := 0) hG rfl rfl rfl rfl cf26 (ep rfl) (.cons (ep rfl) (.cons (ep rfl) .nil)) rfl (nums_w WrS.new (headM m) (by omega) (by omega) hf.head _ _ ((hG.at _ _).trans rfl)) rfl optN ?_
 refine ez (sr fun _ => ?_)
 refine ρ0 U26 sz9 ?_
 refine ρ2 U9 ?_
 refine ARun.callSet (j := 0) hG rfl rfl rfl rfl cf27 (ep rfl) (.cons (ep rfl) (.cons (ep rfl) .nil)) rfl (text_w (wrNums WrS.new (headM m)) m.payload (by omega) (by omega) _ _ ((hG.at _ _).trans rfl)) rfl optN ?_
 refine ez (sr fun _ => ?_)
 refine ρ0 U26 sz3 ?_
 refine ρ2 U3 ?_
 refine ρ0 U26 sz3 ?_
 refine ρ2 U3 ?_
 refine ρ0 U26 sz3 ?_
 refine ρ2 U3 ?_
 refine ARun.buildSl rfl rfl rfl rfl U24 sz3 zv3 rfl (by decide) (.cons (ep rfl) (.cons (ep rfl) (.cons (ep rfl) .nil))) rfl rfl rfl rfl (by decide) rfl rfl optN ?_
 refine ARun.callSet (j := 0) hG rfl rfl rfl rfl cf26 (ep rfl) (.cons (ep rfl) (.cons (ep rfl) .nil)) rfl (nums_w (wrText (wrNums WrS.new (headM m)) m.payload) [m.lo, m.hi, m.done] (by omega) (by omega) hf.tail _ _ ((hG.at _ _).trans rfl)) rfl optN ?_
 refine ez (sr fun _ => ?_)
 refine ARun.nilOwn (e := 3) (z := 1) (j := 1) hG rfl ⟨.inl rfl, rfl⟩ (fun _ => rfl) rfl rfl rfl optN ?_
 refine ez ?_
 refine AWP.seq (sr fun _ => ?_)
 refine ρ0 U26 sz23 ?_
 refine ρ2 U23 ?_
 refine ρq U23 ?_
 refine mv ?_
 refine ez ?_
 refine AWP.block ?_
 refine AWP.rounds (fun st => st.1 ≤ m.atts.length) (fun st => [(1, .pe (aMg m).cells), (5, .box (G.length + 0) 0), (6, .own (G.length + 1) st.2), (50, .sl (m.atts.map aAt)), (51, .int .i64 ((m.atts.map aAt).length : Int)), (52, .int .i64 (st.1 : Int))]) (fun st => [.box (aW (wrNums (wrText (wrNums WrS.new (headM m)) m.payload) [m.lo, m.hi, m.done])), .row st.2 3 1 ((flatT (m.atts.take st.1)).map (AV.int .i64))]) (fun st => m.atts.length - st.1) 2 ((0, 0) : Nat × Nat) (Nat.zero_le _) (by repeat (first | exact .nil | refine .cons rfl ?_)) rfl (fun _ => rfl) (fun _ => ⟨by simp [AV.cells, aMg, aAt], by simp [AO.conts, aW, AV.cells]; rintro y a _ rfl; simp⟩) (fun st hI => ?_)
 obtain ⟨k, g⟩ := st
 dsimp only at hI
 show AWP _ _ _ _ _ [(1, .pe (aMg m).cells), (5, .box (G.length + 0) 0), (6, .own (G.length + 1) g), (50, .sl (m.atts.map aAt)), (51, .int .i64 ((m.atts.map aAt).length : Int)), (52, .int .i64 (k : Int))] _ [.box (aW (wrNums (wrText (wrNums WrS.new (headM m)) m.payload) [m.lo, m.hi, m.done])), .row g 3 1 ((flatT (m.atts.take k)).map (AV.int .i64))]
 refine sr fun _ => ?_
 refine ρ6 ?_
 refine ez ?_
 refine AWP.seq ?_
 refine ρo (fun h1 => ?_) (fun h1 => ?_)
 · try simp [-List.getD_eq_getElem?_getD] at h1
   refine AWP.skip (thenA_n ?_)
   refine AWP.seq (AWP.block (sr fun _ => ?_))
   first | refine ρa U23 sz58 ?_ | refine ρ7 U23 sz58 ?_
   refine ρl U58 sz58 ?_
   refine ρp (j := 2) zv58 ?_
   refine ρ8 sz58 ?_
   refine ez ?_
   refine AWP.frzBox 8 hG rfl rfl rfl ?_
   refine AWP.region (fun _ => ?_)
   refine mv ?_
   refine ρ0 U58 sz3 ?_
   refine ρ2 U3 ?_
   refine ρ0 U58 sz3 ?_
   refine ρ2 U3 ?_
   refine ARun.buildSl rfl rfl rfl rfl U24 sz3 zv3 rfl (by decide) (.cons (ep rfl) (.cons (ep rfl) .nil)) rfl rfl rfl rfl (by decide) rfl rfl optN ?_
   refine ARun.appendL hG rfl rfl rfl rfl U24 ti3 rfl (by decide) (ep rfl) (ep rfl) rfl rfl (by simp [maxLen, flatT_len]; omega) (by simp [flatT_len]; omega) (att_snoc m.atts k (by simpa using h1)) optN rfl ?_
   refine ma ?_
   refine ⟨_, _, rfl, hG, ?_⟩
   refine blockA_n (thenA_n ?_)
   refine AWP.region (fun _ => ?_)
   first | refine ρd ?_ | refine ρg ?_
   refine mv ?_
   refine ⟨_, _, rfl, hG, ?_⟩
   refine thenA_n ⟨rfl, (k + 1, g + 1), _, ?_, ?_, rfl, ?_⟩
   · dsimp only; omega
   · repeat (first | exact .nil | refine .cons rfl ?_)
   dsimp only; omega
 simp at h1
 obtain rfl : k = m.atts.length := by omega
 rw [List.take_length]
 refine AWP.exit ?_
 refine thenA_x ?_
 refine thenA_x ?_
 refine blockA_h ?_
 refine thenA_n (AWP.seq ?_)
 refine AWP.frzOwn 6 hG rfl rfl (by decide) (by simp [maxLen, flatT_len]; omega) rfl ?_
 refine AWP.region (fun _ => ?_)
 refine mv ?_
 refine ARun.callSet (j := 0) hG rfl rfl rfl rfl cf28 (ep rfl) (.cons (ep rfl) (.cons (ep rfl) .nil)) rfl (row_w (wrNums (wrText (wrNums WrS.new (headM m)) m.payload) [m.lo, m.hi, m.done]) (flatT m.atts) (by omega) (by omega) hf.atts _ _ ((hG.at _ _).trans rfl)) rfl optN ?_
 refine ez (sr fun _ => ?_)
 refine ρ0 U26 sz24 ?_
 refine ρ2 U24 ?_
 refine ARun.callSet (j := 0) hG rfl rfl rfl rfl cf28 (ep rfl) (.cons (ep rfl) (.cons (ep rfl) .nil)) rfl (row_w (wrRow (wrNums (wrText (wrNums WrS.new (headM m)) m.payload) [m.lo, m.hi, m.done]) (flatT m.atts)) m.marks (by omega) (by omega) hf.marks _ _ ((hG.at _ _).trans rfl)) rfl optN ?_
 refine ez (sr fun _ => ?_)
 refine ρv (j := 0) cf29 (done_w (layM m) _ _ ((hG.at _ _).trans rfl)) ?_
 refine ρj ?_
 refine ρj ?_
 refine ma ?_
 refine mz ?_
 refine AWP.ret ?_
 refine ρB (rs := [.tmp 2, .tmp 3]) (.cons (.tmp rfl) (.cons (.tmp rfl) .nil)) ?_
 rw [putM, if_pos hc, putMErr, if_pos hc]
end Go.Proofs.YtnlpojjfkgnhhaaGreatDoor
namespace Go.Proofs.YtnlpojjfkgnhhaaGreatDoor
open Go.RowKit
open NumP
theorem readF_fn (r : RdS) (h : r.ok) : FnM Tryz.prog 52 (fun i => [.pe [.box i 0]]) (aRd r) (.int .i64 (rdNum r 2000000).2) (aRd (rdNum r 2000000).1) := by
 refine FnM.of Tryz.func52 rfl rfl (fun i => by simp) (fun H i m hHm hi hG => ?_)
 have hN : NoH H.length (.int .i64 (rdNum r 2000000).2) := (by simp [AV.cells, aIn, aOut, aAt, aMg])
 refine sr fun _ => ?_
 refine mz (sr fun _ => ?_)
 refine ρ2 U74 ?_
 refine ARun.callO hi hG rfl rfl rfl rfl cf30 (ep rfl) (.cons (ep rfl) (.cons (ep rfl) .nil)) rfl (num_r r 2000000 h _ _ (atO hi)) (by first | exact noH_aRd _ _ | (simp; done) | (simp [cAV]; done)) optN (fun hG => ?_)
 refine mz ?_
 refine AWP.ret ?_
 refine endF.toG (congrArg (fun c => H.set i (AO.box c)) rfl) ?_
 refine ρC ?_ (hn := by rw [List.length_set]; exact hN)
 rfl
theorem pairT_snoc2 (l : List Int) (k : Nat) (h : 2 * k + 1 < l.length) : (pairsT (l.take (2 * k))).map aAt ++ [AV.agg [AV.int .i64 (l.getD (((2 * k + 1 : Nat) : Int) - 1).toNat default), AV.int .i64 (l.getD (2 * k + 1) default)]] = (pairsT (l.take (2 * (k + 1)))).map aAt := by
 rw [show (((2 * k + 1 : Nat) : Int) - 1).toNat = 2 * k by omega]; exact pairT_snoc l k h
theorem readK (r : RdS) (h : r.ok) (k : Nat) : FnM Tryz.prog 52 (fun i => [.pe [.box i 0]]) (aRd (numsR r k)) (.int .i64 (numsN r k)) (aRd (numsR r (k + 1))) := readF_fn (numsR r k) (numsR_ok h k)
theorem payK (r : RdS) (h : r.ok) : FnM Tryz.prog 31 (fun i => [.box i 0, .int .i64 300]) (aRd (numsR r 8)) (.str (payR r).2) (aRd (payR r).1) := text_r (numsR r 8) 300 (numsR_ok h 8)
theorem attK (r : RdS) (h : r.ok) : FnM Tryz.prog 36 (fun i => [.box i 0, .int .i64 400]) (aRd (numsR (payR r).1 3)) (.sl ((attR r).2.map (AV.int .i64))) (aRd (attR r).1) := row_r (lohR r 3) 400 (numsR_ok (rdText_ok (numsR_ok h 8) 300) 3)
theorem marK (r : RdS) (h : r.ok) : FnM Tryz.prog 36 (fun i => [.box i 0, .int .i64 9]) (aRd (attR r).1) (.sl ((marR r).2.map (AV.int .i64))) (aRd (marR r).1) := row_r (attR r).1 9 (attR_ok h)
theorem endK (r : RdS) (h : r.ok) : FnM Tryz.prog 33 (fun i => [.box i 0]) (aRd (marR r).1) (.tup []) (aRd (rdMsg r)) := end_r (marR r).1 (rdRow_ok (attR_ok h) 9)
set_option maxHeartbeats 4000000 in
theorem read_fn (r : RdS) (h : r.ok) : FnM Tryz.prog 19 (fun i => [.box i 0]) (aRd r) (.tup [aMg (msgOf r), .bool (decide (((attR r).2.length : Int).tmod 2 = 0))]) (aRd (rdMsg r)) := by
 have hp := rdText_ok (numsR_ok h 8) 300
 have hl := numsR_ok hp 3
 have ha := rdRow_ok hl 400
 have hrl : (attR r).2.length ≤ 1000 := rdRow_len _ _
 refine FnM.of Tryz.func19 rfl rfl (fun i => by simp) (fun H i m hHm hi hG => ?_)
 have hN : NoH H.length (.tup [aMg (msgOf r), .bool (decide (((attR r).2.length : Int).tmod 2 = 0))]) := (by simp [AV.cells, aIn, aOut, aAt, aMg])
 refine sr fun _ => ?_
 refine ARun.boxPe1 rfl rfl rfl rfl (ep rfl) (by first | rfl | exact aEr_one _ | exact aFl_one _) optN ?_
 refine ρp (j := 0) zv26 ?_
 refine mz (sr fun _ => ?_)
 refine ARun.makeFunc rfl rfl rfl rfl .nil (.cons (ep rfl) .nil) optN ?_
 refine mz (sr fun _ => ?_)
 refine mv ?_
 refine ARun.callO hi hG rfl rfl rfl rfl cf52 (ep rfl) .nil rfl (readK r h 0 _ _ (atO hi)) (by first | exact noH_aRd _ _ | (simp; done) | (simp [cAV]; done)) optN (fun hG => ?_)
 refine mv ?_
 refine ARun.callO hi hG rfl rfl rfl rfl cf52 (ep rfl) .nil rfl (readK r h 1 _ _ (atO hi)) (by first | exact noH_aRd _ _ | (simp; done) | (simp [cAV]; done)) optN (fun hG => ?_)
 refine mv ?_
 refine ARun.callO hi hG rfl rfl rfl rfl cf52 (ep rfl) .nil rfl (readK r h 2 _ _ (atO hi)) (by first | exact noH_aRd _ _ | (simp; done) | (simp [cAV]; done)) optN (fun hG => ?_)
 refine mv ?_
 refine ARun.callO hi hG rfl rfl rfl rfl cf52 (ep rfl) .nil rfl (readK r h 3 _ _ (atO hi)) (by first | exact noH_aRd _ _ | (simp; done) | (simp [cAV]; done)) optN (fun hG => ?_)
 refine mv ?_
 refine ARun.callO hi hG rfl rfl rfl rfl cf52 (ep rfl) .nil rfl (readK r h 4 _ _ (atO hi)) (by first | exact noH_aRd _ _ | (simp; done) | (simp [cAV]; done)) optN (fun hG => ?_)
 refine mv ?_
 refine ARun.callO hi hG rfl rfl rfl rfl cf52 (ep rfl) .nil rfl (readK r h 5 _ _ (atO hi)) (by first | exact noH_aRd _ _ | (simp; done) | (simp [cAV]; done)) optN (fun hG => ?_)
 refine mv ?_
 refine ARun.callO hi hG rfl rfl rfl rfl cf52 (ep rfl) .nil rfl (readK r h 6 _ _ (atO hi)) (by first | exact noH_aRd _ _ | (simp; done) | (simp [cAV]; done)) optN (fun hG => ?_)
 refine mv ?_
 refine ARun.callO hi hG rfl rfl rfl rfl cf52 (ep rfl) .nil rfl (readK r h 7 _ _ (atO hi)) (by first | exact noH_aRd _ _ | (simp; done) | (simp [cAV]; done)) optN (fun hG => ?_)
 refine ARun.buildNil (e := 58) (z := 2) (j := 1) (p := 11) hG rfl rfl rfl rfl rfl so26 rfl (.cons (ep rfl) (.cons (ep rfl) (.cons (ep rfl) (.cons (ep rfl) (.cons (ep rfl) (.cons (ep rfl) (.cons (ep rfl) (.cons (ep rfl) .nil)))))))) rfl (show _ = some [.int .i64 (numsN r 0), .int .i64 (numsN r 1), .int .i64 (numsN r 2), .int .i64 (numsN r 3), .int .i64 (numsN r 4), .int .i64 (numsN r 5), .int .i64 (numsN r 6), .int .i64 (numsN r 7), .str ⟨#[]⟩, .int .i64 0, .int .i64 0, .own (m + 1) 0, .sl [], .int .i64 0] from by kernel_rfl) optN ?_
 refine ρp (j := 2) zv26 ?_
 refine ρ8 sz26 ?_
 refine ez (sr fun _ => ?_)
 refine ρ2 U74 ?_
 refine ARun.callO hi hG rfl rfl rfl rfl cf31 (ep rfl) (.cons (ep rfl) (.cons (ep rfl) .nil)) rfl (payK r h _ _ (atO hi)) (by first | exact noH_aRd _ _ | (simp; done) | (simp [cAV]; done)) optN (fun hG => ?_)
 refine ρe (fo := 8) U26 sz9 ?_
 refine ρc sz9 (show _ = [.int .i64 (numsN r 0), .int .i64 (numsN r 1), .int .i64 (numsN r 2), .int .i64 (numsN r 3), .int .i64 (numsN r 4), .int .i64 (numsN r 5), .int .i64 (numsN r 6), .int .i64 (numsN r 7), .str (payR r).2, .int .i64 0, .int .i64 0, .own (m + 1) 0, .sl [], .int .i64 0] from rfl) ?_
 refine ez (sr fun _ => ?_)
 refine mv ?_
 refine ARun.callO hi hG rfl rfl rfl rfl cf52 (ep rfl) .nil rfl (readK (payR r).1 hp 0 _ _ (atO hi)) (by first | exact noH_aRd _ _ | (simp; done) | (simp [cAV]; done)) optN (fun hG => ?_)
 refine mv ?_
 refine ARun.callO hi hG rfl rfl rfl rfl cf52 (ep rfl) .nil rfl (readK (payR r).1 hp 1 _ _ (atO hi)) (by first | exact noH_aRd _ _ | (simp; done) | (simp [cAV]; done)) optN (fun hG => ?_)
 refine mv ?_
 refine ARun.callO hi hG rfl rfl rfl rfl cf52 (ep rfl) .nil rfl (readK (payR r).1 hp 2 _ _ (atO hi)) (by first | exact noH_aRd _ _ | (simp; done) | (simp [cAV]; done)) optN (fun hG => ?_)
 refine ρe (fo := 9) U26 sz3 ?_
 refine ρc sz3 (show _ = [.int .i64 (numsN r 0), .int .i64 (numsN r 1), .int .i64 (numsN r 2), .int .i64 (numsN r 3), .int .i64 (numsN r 4), .int .i64 (numsN r 5), .int .i64 (numsN r 6), .int .i64 (numsN r 7), .str (payR r).2, .int .i64 (numsN (payR r).1 0), .int .i64 0, .own (m + 1) 0, .sl [], .int .i64 0] from rfl) ?_
 refine ρe (fo := 10) U26 sz3 ?_
 refine ρc sz3 (show _ = [.int .i64 (numsN r 0), .int .i64 (numsN r 1), .int .i64 (numsN r 2), .int .i64 (numsN r 3), .int .i64 (numsN r 4), .int .i64 (numsN r 5), .int .i64 (numsN r 6), .int .i64 (numsN r 7), .str (payR r).2, .int .i64 (numsN (payR r).1 0), .int .i64 (numsN (payR r).1 1), .own (m + 1) 0, .sl [], .int .i64 0] from rfl) ?_
 refine ρe (fo := 13) U26 sz3 ?_
 refine ρc sz3 (show _ = [.int .i64 (numsN r 0), .int .i64 (numsN r 1), .int .i64 (numsN r 2), .int .i64 (numsN r 3), .int .i64 (numsN r 4), .int .i64 (numsN r 5), .int .i64 (numsN r 6), .int .i64 (numsN r 7), .str (payR r).2, .int .i64 (numsN (payR r).1 0), .int .i64 (numsN (payR r).1 1), .own (m + 1) 0, .sl [], .int .i64 (numsN (payR r).1 2)] from rfl) ?_
 refine ez (sr fun _ => ?_)
 refine ρ2 U74 ?_
 refine ARun.callO hi hG rfl rfl rfl rfl cf36 (ep rfl) (.cons (ep rfl) (.cons (ep rfl) .nil)) rfl (attK r h _ _ (atO hi)) (by first | exact noH_aRd _ _ | (simp; done) | (simp [cAV]; done)) optN (fun hG => ?_)
 refine mz (sr fun _ => ?_)
 refine ρ2 U74 ?_
 refine ARun.callO hi hG rfl rfl rfl rfl cf36 (ep rfl) (.cons (ep rfl) (.cons (ep rfl) .nil)) rfl (marK r h _ _ (atO hi)) (by first | exact noH_aRd _ _ | (simp; done) | (simp [cAV]; done)) optN (fun hG => ?_)
 refine ρe (fo := 12) U26 sz24 ?_
 refine ρc sz24 (show _ = [.int .i64 (numsN r 0), .int .i64 (numsN r 1), .int .i64 (numsN r 2), .int .i64 (numsN r 3), .int .i64 (numsN r 4), .int .i64 (numsN r 5), .int .i64 (numsN r 6), .int .i64 (numsN r 7), .str (payR r).2, .int .i64 (numsN (payR r).1 0), .int .i64 (numsN (payR r).1 1), .own (m + 1) 0, .sl ((marR r).2.map (AV.int .i64)), .int .i64 (numsN (payR r).1 2)] from rfl) ?_
 refine ez (sr fun _ => ?_)
 refine ρ2 U74 ?_
 refine ARun.callO hi hG rfl rfl rfl rfl cf33 (ep rfl) (.cons (ep rfl) .nil) rfl (endK r h _ _ (atO hi)) (by first | exact noH_aRd _ _ | (simp; done) | (simp [cAV]; done)) optN (fun hG => ?_)
 refine ez ?_
 refine AWP.seq (sr fun _ => ?_)
 refine mz ?_
 refine AWP.block ?_
 refine AWP.roundsO (fun st => 2 * st.1 ≤ (attR r).2.length + 1) (fun st => [(2, .box (m + 0) 0), (5, .box (m + 2) 0), (6, .sl ((attR r).2.map (AV.int .i64))), (7, .int .i64 ((2 * st.1 + 1 : Nat) : Int))]) (fun st => H.set i (.box (aRd (rdMsg r)))) (fun st => [.box [.int .i64 0, .int .i64 0, .int .i64 0, .int .i64 0, .int .i64 0, .int .i64 0, .int .i64 0, .int .i64 0, .str ⟨#[]⟩, .int .i64 0, .int .i64 0, .sl [], .sl [], .int .i64 0], .row st.2 58 2 ((pairsT ((attR r).2.take (2 * st.1))).map aAt), .box [.int .i64 (numsN r 0), .int .i64 (numsN r 1), .int .i64 (numsN r 2), .int .i64 (numsN r 3), .int .i64 (numsN r 4), .int .i64 (numsN r 5), .int .i64 (numsN r 6), .int .i64 (numsN r 7), .str (payR r).2, .int .i64 (numsN (payR r).1 0), .int .i64 (numsN (payR r).1 1), (.own (m + 1) st.2), .sl ((marR r).2.map (AV.int .i64)), .int .i64 (numsN (payR r).1 2)]]) (fun st => (attR r).2.length + 1 - 2 * st.1) 3 ((0, 0) : Nat × Nat) (by omega) (by repeat (first | exact .nil | refine .cons rfl ?_)) rfl rfl (fun _ => rfl) (fun _ => ⟨by simp [AV.cells], by simp [AO.conts, aAt, AV.cells]; rintro y a _ (rfl | rfl) <;> simp⟩) (fun st hI hG => ?_)
 obtain ⟨k, g⟩ := st
 dsimp only at hI
 show AWP _ _ _ _ _ [(2, .box (m + 0) 0), (5, .box (m + 2) 0), (6, .sl ((attR r).2.map (AV.int .i64))), (7, .int .i64 ((2 * k + 1 : Nat) : Int))] (H.set i (.box (aRd (rdMsg r)))) [.box [.int .i64 0, .int .i64 0, .int .i64 0, .int .i64 0, .int .i64 0, .int .i64 0, .int .i64 0, .int .i64 0, .str ⟨#[]⟩, .int .i64 0, .int .i64 0, .sl [], .sl [], .int .i64 0], .row g 58 2 ((pairsT ((attR r).2.take (2 * k))).map aAt), .box [.int .i64 (numsN r 0), .int .i64 (numsN r 1), .int .i64 (numsN r 2), .int .i64 (numsN r 3), .int .i64 (numsN r 4), .int .i64 (numsN r 5), .int .i64 (numsN r 6), .int .i64 (numsN r 7), .str (payR r).2, .int .i64 (numsN (payR r).1 0), .int .i64 (numsN (payR r).1 1), (.own (m + 1) g), .sl ((marR r).2.map (AV.int .i64)), .int .i64 (numsN (payR r).1 2)]]
 replace hG : GOK _ (H.set i (.box (aRd (rdMsg r)))) := hG
 refine AWP.seq (sr fun _ => ?_)
 refine mv ?_
 refine mv ?_
 refine ρq U24 ?_
 refine ρ6 ?_
 refine ez ?_
 refine ρo (fun h0 => ?_) (fun h0 => ?_)
 · simp at h0
   refine AWP.skip (thenA_n ?_)
   refine AWP.seq (AWP.block ?_)
   refine AWP.draw mixed (by kernel_rfl) (fun _ => ?_)
   refine ρe (fo := 11) U26 sz23 ?_
   refine ARun.loadBox rfl rfl rfl rfl U23 rfl (ep rfl) ((hG.at _ _).trans rfl) rfl optN ?_
   refine mv ?_
   refine mv ?_
   first | refine ρd ?_ | refine ρg ?_
   first | refine ρa U24 sz3 ?_ | refine ρ7 U24 sz3 ?_
   refine ρ2 U3 ?_
   refine mv ?_
   refine mv ?_
   first | refine ρa U24 sz3 ?_ | refine ρ7 U24 sz3 ?_
   refine ρ2 U3 ?_
   refine ARun.build rfl rfl rfl rfl so58 (.cons (ep rfl) (.cons (ep rfl) .nil)) rfl rfl optN ?_
   refine ρy U23 sz58 zv58 ?_
   refine ARun.appendL hG rfl rfl rfl rfl U23 ti58 rfl (by decide) (ep rfl) (ep rfl) rfl rfl (by have := pairsT_len (((attR r).2).take (2 * k)); simp only [List.length_take] at this; simp [maxLen]; omega) (by have := pairsT_len (((attR r).2).take (2 * k)); simp only [List.length_take] at this; simp; omega) (pairT_snoc2 (attR r).2 k (by omega)) optN rfl ?_
   refine ρe (fo := 11) U26 sz23 ?_
   refine ARun.storeL1 hG rfl rfl rfl sz23 (ep rfl) (ep rfl) rfl (by first | rfl | exact aEr_one _ | exact aFl_one _) (Nat.le_of_ble_eq_true rfl) rfl rfl ?_
   refine ⟨by kernel_rfl, _, _, rfl, hG, ?_⟩
   refine blockA_n (thenA_n ?_)
   refine AWP.region (fun _ => ?_)
   refine mv ?_
   first | refine ρd ?_ | refine ρg ?_
   refine ma ?_
   refine ⟨_, _, rfl, hG, ?_⟩
   refine thenA_n ⟨(k + 1, g + 1), _, ?_, ?_, ?_, rfl, ?_⟩
   · rfl
   · dsimp only; omega
   · repeat (first | exact .nil | refine .cons rfl ?_)
   dsimp only; omega
 simp at h0
 have hk2 : pairsT ((attR r).2.take (2 * k)) = pairsT (attR r).2 := pairsT_all (attR r).2 k (by omega)
 refine AWP.exit ?_
 refine thenA_x ?_
 refine thenA_x ?_
 refine blockA_h ?_
 refine thenA_n (AWP.seq ?_)
 refine AWP.frzIn (j := 1) (q := 2) (p := 11) hG rfl (by rw [hk2]; have := pairsT_len (attR r).2; simp [maxLen]; omega) rfl rfl rfl ?_
 refine AWP.region (fun _ => ?_)
 refine ρs U26 sz26 ?_
 refine mv ?_
 refine ρq U24 ?_
 refine ARun.remI rfl rfl rfl rfl (ep rfl) (ep rfl) (fun _ => by decide) optN ?_
 refine ρ6 ?_
 refine ρ8 sz26 ?_
 refine mz ?_
 refine AWP.ret ?_
 refine endF.toG (congrArg (fun c => H.set i (AO.box c)) rfl) ?_
 refine endF.many (.inr rfl) (rs := [.cell 2 26, .tmp 3]) rfl (.cons (.cellA rfl ((hG.at _ _).trans rfl) U26 rfl sz26 rfl rfl) (.cons (.tmp rfl) .nil)) (by simp) ?_ (by rw [List.length_set]; exact hN)
 rw [hk2, List.length_map]; rfl
end Go.Proofs.YtnlpojjfkgnhhaaGreatDoor
namespace Go.Proofs.YtnlpojjfkgnhhaaGreatDoor
open Go.RowKit
open NumP
theorem takeMErr_none (s : ByteArray) : (takeMErr s).isNone = decide (takeME s = 0) := by
 unfold takeMErr takeME
 split
 · rw [wrap_none, errOf_none]
 split
 · rw [new_none]
 rw [wrap_none, new_none]
theorem msgOf_small {r : RdS} (h : r.ok) (hs : r.s.size ≤ 100000) : smallM (msgOf r) := by
 have h1 := pairsT_len (attR r).2
 have h2 : (attR r).2.length ≤ 1000 := rdRow_len _ _
 have h3 : (marR r).2.length ≤ 1000 := rdRow_len _ _
 have h4 := rdText_len (r := numsR r 8) 300
 rw [numsR_s] at h4
 exact ⟨by show (pairsT _).length ≤ _; omega, h3, by show (rdText (numsR r 8) 300).2.size ≤ _; omega⟩
theorem takeM_small {s : ByteArray} (hs : s.size ≤ 100000) : smallM (takeM s) := by
 unfold takeM
 split
 · exact msgOf_small (rd_new_ok (by omega)) hs
 exact ⟨Nat.zero_le _, Nat.zero_le _, Nat.zero_le _⟩
set_option maxHeartbeats 4000000 in
theorem takeM_fn (s : ByteArray) (hs : s.size ≤ 100000) : FnP Tryz.prog 5 [.str s] (.tup [aMg (takeM s), aEr (takeMErr s)]) := by
 have hok := rd_new_ok (s := s) (by omega)
 have hsm := msgOf_small hok hs
 refine FnP.of Tryz.func5 rfl rfl (by simp) (by simp [AV.cells, aIn, aOut, aAt, aMg]) (fun G hG => ?_)
 have hN : NoH G.length (.tup [aMg (takeM s), aEr (takeMErr s)]) := (by simp [AV.cells, aIn, aOut, aAt, aMg])
 refine sr fun _ => ?_
 refine ρp (j := 0) zv26 ?_
 refine mz (sr fun _ => ?_)
 refine mv ?_
 refine ARun.callNewB (j := 1) hG rfl rfl rfl rfl rfl cf18 (ep rfl) (.cons (ep rfl) .nil) rfl (newr_fn s) optN ?_
 refine mz (sr fun _ => ?_)
 refine mv ?_
 refine ρv (j := 1) cf19 (read_fn (RdS.new s) hok _ _ ((hG.at _ _).trans rfl)) ?_
 refine mv ?_
 refine ρj ?_
 refine ρj ?_
 refine ρp (j := 2) zv26 ?_
 refine ρ8 sz26 ?_
 refine mz ?_
 refine AWP.seq (AWP.seq ?_)
 refine AWP.frzBox 5 hG rfl rfl rfl ?_
 refine AWP.region (fun _ => ?_)
 refine mv ?_
 refine ARun.callR rfl rfl rfl rfl cf20 (ep rfl) (.cons (ep rfl) .nil) rfl (fun hg => FnM.keep (rdone_fn (rdMsg (RdS.new s))) ((hG.at _ _).trans rfl)) optN ?_
 refine mz (sr fun _ => ?_)
 refine mv ?_
 refine ρr U28 ?_
 refine ez ?_
 refine ρo (fun h0 => ?_) (fun h0 => ?_)
 · have he : (rdMsg (RdS.new s)).e ≠ 0 := by simpa [errOf_none] using h0
   refine sr fun _ => ?_
   refine ARun.build rfl rfl rfl rfl so26 .nil rfl rfl optN ?_
   refine mv ?_
   refine ρk cf21 (fun hg => wrap_fn tTake (errOf tRead (rdMsg (RdS.new s)).p (rdMsg (RdS.new s)).e)) ?_
   refine ρ8 sz26 ?_
   refine mz ?_
   refine AWP.ret (thenA_r ?_)
   refine ρB (rs := [.cell 2 26, .tmp 3]) (.cons (.cellA rfl ((hG.at _ _).trans rfl) U26 rfl sz26 rfl rfl) (.cons (.tmp rfl) .nil)) ?_
   have ht : takeME s ≠ 0 := by rw [takeME, if_pos he]; exact he
   rw [takeM, if_neg ht, takeMErr, if_pos he]; rfl
 have he : (rdMsg (RdS.new s)).e = 0 := by simpa [errOf_none] using h0
 refine AWP.skip (thenA_n (AWP.seq (sr fun _ => ?_)))
 refine mv ?_
 refine ARun.not rfl rfl rfl rfl (ep rfl) optN ?_
 refine ez ?_
 refine ρo (fun h1 => ?_) (fun h1 => ?_)
 · simp at h1
   have h1p : (((attR (RdS.new s)).2.length % 2 : Nat) : Int) ≠ 0 := h1
   have h1q : (attR (RdS.new s)).2.length % 2 = 1 := by omega
   refine sr fun _ => ?_
   refine ARun.build rfl rfl rfl rfl so26 .nil rfl rfl optN ?_
   refine ρk cf22 (fun hg => new_fn tTake 5) ?_
   refine ρ8 sz26 ?_
   refine mz ?_
   refine AWP.ret (thenA_r ?_)
   refine ρB (rs := [.cell 2 26, .tmp 3]) (.cons (.cellA rfl ((hG.at _ _).trans rfl) U26 rfl sz26 rfl rfl) (.cons (.tmp rfl) .nil)) ?_
   have ht : takeME s ≠ 0 := by rw [takeME, if_neg (by omega), if_pos h1q]; decide
   rw [takeM, if_neg ht, takeMErr, if_neg (by omega), if_pos h1q]; rfl
 simp at h1
 have h1p : (((attR (RdS.new s)).2.length % 2 : Nat) : Int) = 0 := h1
 have h1q : ¬ (attR (RdS.new s)).2.length % 2 = 1 := by omega
 refine AWP.skip (thenA_n (AWP.seq (sr fun _ => ?_)))
 refine ρl U26 sz26 ?_
 refine ρf cf23 (fun hg => checkM_fn (msgOf (RdS.new s)) hsm) ?_
 refine mz (sr fun _ => ?_)
 refine mv ?_
 refine ρr U28 ?_
 refine ez ?_
 refine ρo (fun h2 => ?_) (fun h2 => ?_)
 · simp [new_none] at h2
   refine sr fun _ => ?_
   refine ARun.build rfl rfl rfl rfl so26 .nil rfl rfl optN ?_
   refine mv ?_
   refine ρk cf21 (fun hg => wrap_fn tTake (Er.new tMsg (checkM (msgOf (RdS.new s))))) ?_
   refine ρ8 sz26 ?_
   refine mz ?_
   refine AWP.ret (thenA_r ?_)
   refine ρB (rs := [.cell 2 26, .tmp 3]) (.cons (.cellA rfl ((hG.at _ _).trans rfl) U26 rfl sz26 rfl rfl) (.cons (.tmp rfl) .nil)) ?_
   have ht : takeME s ≠ 0 := by rw [takeME, if_neg (by omega), if_neg h1q]; exact h2
   rw [takeM, if_neg ht, takeMErr, if_neg (by omega), if_neg h1q]; rfl
 simp [new_none] at h2
 refine AWP.skip (thenA_n (sr fun _ => ?_))
 refine ρl U26 sz26 ?_
 refine ρ8 sz26 ?_
 refine mz ?_
 refine AWP.ret ?_
 refine ρB (rs := [.cell 2 26, .tmp 3]) (.cons (.cellA rfl ((hG.at _ _).trans rfl) U26 rfl sz26 rfl rfl) (.cons (.tmp rfl) .nil)) ?_
 have ht : takeME s = 0 := by rw [takeME, if_neg (by omega), if_neg h1q]; exact h2
 rw [takeM, if_pos ht, takeMErr, if_neg (by omega), if_neg h1q, show checkM (msgOf (RdS.new s)) = 0 from h2]; rfl
end Go.Proofs.YtnlpojjfkgnhhaaGreatDoor
namespace Go.Proofs.YtnlpojjfkgnhhaaGreatDoor
open NumP
structure Rc where
 epoch : Int
 seq : Int
 snap : Bool
 kind : Int
 data : ByteArray
 state : ByteArray
def Rc.zero : Rc := ⟨0, 0, false, 0, ⟨#[]⟩, ⟨#[]⟩⟩
def tEvent : ByteArray := ⟨#[101, 118, 101, 110, 116]⟩
def tRecord : ByteArray := ⟨#[114, 101, 99, 111, 114, 100]⟩
def eventP (k : Int) (d : ByteArray) : Int :=
 if k = 1 then (if (d.size : Int) ≤ 300 then 0 else 2) else if k = 2 then (if takeME d = 0 then 0 else 2) else if k = 3 then (if d = ⟨#[]⟩ then 0 else 2) else 30
def recB (x : Rc) : Bool := decide (1 ≤ x.epoch) && decide (x.epoch ≤ 1000000) && decide (0 ≤ x.seq) && decide (x.seq ≤ 1000000) && (x.snap == decide (x.seq = 0))
def recOk (x : Rc) : Bool :=
 if x.snap = true then recB x && (decide (x.kind = 0) && decide (x.data = ⟨#[]⟩)) && decide ((x.state.size : Int) ≤ 18000) else recB x && decide (eventP x.kind x.data = 0) && decide (x.state = ⟨#[]⟩)
def checkRec (x : Rc) : Int := if recOk x = true then 0 else 2
def headRec (x : Rc) : WrS := wrFlag (wrNums WrS.new [x.epoch, x.seq]) x.snap
def layRec (x : Rc) : WrS := if x.snap = true then wrText (headRec x) x.state else wrText (wrNums (headRec x) [x.kind]) x.data
def putRec (x : Rc) : ByteArray := if checkRec x = 0 then (layRec x).out else ⟨#[]⟩
def putRecErr (x : Rc) : Er := if checkRec x = 0 then errOf tWrite (layRec x).p (layRec x).e else Er.new tRecord (checkRec x)
def rcE (s : ByteArray) : RdS × Int := rdNum (RdS.new s) 1000000
def rcS (s : ByteArray) : RdS × Int := rdNum (rcE s).1 1000000
def rcF (s : ByteArray) : RdS × Bool := rdFlag (rcS s).1
def rcT (s : ByteArray) : RdS × ByteArray := rdText (rcF s).1 18000
def rcK (s : ByteArray) : RdS × Int := rdNum (rcF s).1 9
def rcD (s : ByteArray) : RdS × ByteArray := rdText (rcK s).1 5000
def rcR (s : ByteArray) : RdS := rdEnd (if (rcF s).2 = true then (rcT s).1 else (rcD s).1)
def rcOf (s : ByteArray) : Rc := if (rcF s).2 = true then ⟨(rcE s).2, (rcS s).2, (rcF s).2, 0, ⟨#[]⟩, (rcT s).2⟩ else ⟨(rcE s).2, (rcS s).2, (rcF s).2, (rcK s).2, (rcD s).2, ⟨#[]⟩⟩
def takeRE (s : ByteArray) : Int := if (rcR s).e ≠ 0 then (rcR s).e else checkRec (rcOf s)
def takeRec (s : ByteArray) : Rc := if takeRE s = 0 then rcOf s else Rc.zero
def takeRecErr (s : ByteArray) : Er := if (rcR s).e ≠ 0 then Er.wrap tTake (errOf tRead (rcR s).p (rcR s).e) else Er.wrap tTake (Er.new tRecord (checkRec (rcOf s)))
theorem takeRecErr_code (s : ByteArray) : (takeRecErr s).code = takeRE s := by
 unfold takeRecErr takeRE
 split
 · rw [wrap_code, errOf_code]
 · rw [wrap_code, new_code]
theorem rcF_ok {s : ByteArray} (hs : s.size ≤ 1000000) : (rcF s).1.ok := rdFlag_ok (rdNum_ok (rdNum_ok (rd_new_ok hs) _) _)
theorem rec_only {s : ByteArray} (hs : s.size ≤ 1000000) (h : takeRE s = 0) : checkRec (takeRec s) = 0 ∧ putRec (takeRec s) = s ∧ (layRec (takeRec s)).e = 0 := by
 have h4 : takeRec s = rcOf s := if_pos h
 have h1 : (rcR s).e = 0 := by
   unfold takeRE at h
   split at h
   · rename_i e; exact absurd h e
   · omega
 have h3 : checkRec (rcOf s) = 0 := by
   unfold takeRE at h
   rwa [if_neg (by omega)] at h
 have hr := rd_new_ok hs
 have u1 := first_num hr WrS.new 1000000 (upto_new s)
 have o1 := rdNum_ok hr 1000000
 have u2 := first_num o1 _ 1000000 u1
 have o2 := rdNum_ok o1 1000000
 have u3 := first_flag o2 _ u2
 have o3 := rcF_ok hs
 have es : (rcF s).1.s = s := by unfold rcF rcS rcE; rw [rdFlag_s, rdNum_s, rdNum_s]; rfl
 rw [h4]
 unfold putRec
 rw [if_pos h3]
 refine ⟨h3, ?_⟩
 by_cases hf : (rcF s).2 = true
 · have u4 := first_text o3 _ 18000 u3
   have o4 := rdText_ok o3 18000
   have h1' : (rdEnd (rdText (rcF s).1 18000).1).e = 0 := by unfold rcR at h1; rw [if_pos hf] at h1; exact h1
   obtain ⟨e1, e2⟩ := upto_end o4 u4 h1'
   have e3 : layRec (rcOf s) = wrText (wrFlag (wrNum (wrNum WrS.new (rcE s).2) (rcS s).2) (rcF s).2) (rcT s).2 := by
     unfold rcOf; rw [if_pos hf]; unfold layRec; rw [if_pos hf]; rfl
   rw [e3]
   exact ⟨e1.trans ((rdText_s _ _).trans es), e2⟩
 · have u4 := first_num o3 _ 9 u3
   have o4 := rdNum_ok o3 9
   have u5 := first_text o4 _ 5000 u4
   have o5 := rdText_ok o4 5000
   have h1' : (rdEnd (rdText (rdNum (rcF s).1 9).1 5000).1).e = 0 := by unfold rcR at h1; rw [if_neg hf] at h1; exact h1
   obtain ⟨e1, e2⟩ := upto_end o5 u5 h1'
   have e3 : layRec (rcOf s) = wrText (wrNum (wrFlag (wrNum (wrNum WrS.new (rcE s).2) (rcS s).2) (rcF s).2) (rcK s).2) (rcD s).2 := by
     unfold rcOf; rw [if_neg hf]; unfold layRec; rw [if_neg hf]; rfl
   rw [e3]
   exact ⟨e1.trans (((rdText_s _ _).trans (rdNum_s _ _)).trans es), e2⟩
end Go.Proofs.YtnlpojjfkgnhhaaGreatDoor
namespace Go.Proofs.YtnlpojjfkgnhhaaGreatDoor
open Go.RowKit
theorem ti36 : Ti Tryz.prog 36 (.agg #[.int .i64 0, .string ⟨#[]⟩]) 2 24 := by unfold Ti; kernel_rfl
theorem sz36 : Sz Tryz.prog 36 2 := ti36.sz
theorem zv36 : Zv Tryz.prog 36 (.agg #[.int .i64 0, .string ⟨#[]⟩]) := ti36.zv
theorem ti38 : Ti Tryz.prog 38 (.agg #[.int .i64 0, .int .i64 0, .bool false, .int .i64 0, .string ⟨#[]⟩, .string ⟨#[]⟩]) 6 64 := by unfold Ti; kernel_rfl
theorem sz38 : Sz Tryz.prog 38 6 := ti38.sz
theorem zv38 : Zv Tryz.prog 38 (.agg #[.int .i64 0, .int .i64 0, .bool false, .int .i64 0, .string ⟨#[]⟩, .string ⟨#[]⟩]) := ti38.zv
theorem eq36 : EqOk Tryz.prog 36 [.int, .str] := ⟨_, U36, by kernel_rfl, by kernel_rfl, by kernel_rfl, by kernel_rfl⟩
theorem cf5 : ∀ (vs : Array Value) (W : World), (callFunc 5 vs).run Tryz.prog W = .ok (.enter 5 vs) W := fun _ _ => by rfl
theorem cf32 : ∀ (vs : Array Value) (W : World), (callFunc 32 vs).run Tryz.prog W = .ok (.enter 32 vs) W := fun _ _ => by rfl
theorem cf34 : ∀ (vs : Array Value) (W : World), (callFunc 34 vs).run Tryz.prog W = .ok (.enter 34 vs) W := fun _ _ => by rfl
theorem cf35 : ∀ (vs : Array Value) (W : World), (callFunc 35 vs).run Tryz.prog W = .ok (.enter 35 vs) W := fun _ _ => by rfl
theorem cf69 : ∀ (vs : Array Value) (W : World), (callFunc 69 vs).run Tryz.prog W = .ok (.enter 69 vs) W := fun _ _ => by rfl
theorem so36 : StOk Tryz.prog 36 (.agg #[.int .i64 0, .string ⟨#[]⟩]) [(0, 1), (1, 1)] := ⟨_, U36, zv36, by kernel_rfl, by kernel_rfl⟩
theorem so38 : StOk Tryz.prog 38 (.agg #[.int .i64 0, .int .i64 0, .bool false, .int .i64 0, .string ⟨#[]⟩, .string ⟨#[]⟩]) [(0, 1), (1, 1), (2, 1), (3, 2), (5, 1)] := ⟨_, U38, zv38, by kernel_rfl, by kernel_rfl⟩
end Go.Proofs.YtnlpojjfkgnhhaaGreatDoor
namespace Go.Proofs.YtnlpojjfkgnhhaaGreatDoor
open Go.RowKit
open NumP
def aRc (x : Rc) : AV := .agg [.int .i64 x.epoch, .int .i64 x.seq, .bool x.snap, .int .i64 x.kind, .str x.data, .str x.state]
def aEv (k : Int) (d : ByteArray) : AV := .agg [.int .i64 k, .str d]
theorem noE (k : Int) (d : ByteArray) : (!isAny (Er.new tEvent (eventP k d)) 30 && !isAny (Er.new tEvent (eventP k d)) 2) = decide (eventP k d = 0) := by
 rw [isAny_new _ _ _ (by decide), isAny_new _ _ _ (by decide)]
 have : eventP k d = 0 ∨ eventP k d = 2 ∨ eventP k d = 30 := by
   unfold eventP
   repeat' split
   all_goals simp
 rcases this with h | h | h <;> rw [h] <;> rfl
theorem event_fn (k : Int) (d : ByteArray) (hd : d.size ≤ 100000) : FnP Tryz.prog 69 [aEv k d] (aEr (Er.new tEvent (eventP k d))) := by
 refine FnP.of Tryz.func69 rfl rfl (by simp) (by simp [AV.cells, aIn, aOut, aAt, aMg, aEv, aRc]) (fun G hG => ?_)
 have hN : NoH G.length (aEr (Er.new tEvent (eventP k d))) := (by simp [AV.cells, aIn, aOut, aAt, aMg, aEv, aRc])
 refine sr fun _ => ?_
 refine ρt ?_
 refine mz (sr fun _ => ?_)
 refine mz ?_
 refine AWP.seq (sr fun _ => ?_)
 refine ρ0 U36 sz3 ?_
 refine ρ2 U3 ?_
 refine ez ?_
 refine AWP.block (sr fun _ => ?_)
 refine ρ6 ?_
 refine mz ?_
 refine ρo (fun h0 => ?_) (fun h0 => ?_)
 · simp only [decide_eq_true_eq, decide_eq_false_iff_not, takeMErr_none, Bool.not_eq_true', Bool.not_eq_false'] at h0
   refine AWP.region (fun _ => ?_)
   refine ρ0 U36 sz9 ?_
   refine ρ2 U9 ?_
   refine ARun.lenStr rfl rfl rfl rfl U9 (ep rfl) optN ?_
   refine ρ6 ?_
   refine ma ?_
   refine ⟨_, _, rfl, hG, ?_⟩
   refine blockA_n (thenA_n (AWP.seq ?_))
   refine sr fun _ => ?_
   refine mv ?_
   refine ARun.not rfl rfl rfl rfl (ep rfl) optN ?_
   refine ez ?_
   refine ρo (fun h1 => ?_) (fun h1 => ?_)
   · simp only [decide_eq_true_eq, decide_eq_false_iff_not, takeMErr_none, Bool.not_eq_true', Bool.not_eq_false'] at h1
     refine sr fun _ => ?_
     refine ρk cf22 (fun hg => new_fn tEvent 2) ?_
     refine mz ?_
     refine AWP.ret (thenA_r ?_)
     refine ρ9 ?_
     rw [eventP, if_pos h0, if_neg h1]
   simp only [decide_eq_true_eq, decide_eq_false_iff_not, takeMErr_none, Bool.not_eq_true', Bool.not_eq_false'] at h1
   refine AWP.skip (thenA_n (sr fun _ => ?_))
   refine mz ?_
   refine AWP.ret ?_
   refine ρ9 ?_
   rw [eventP, if_pos h0, if_pos h1]; rfl
 simp only [decide_eq_true_eq, decide_eq_false_iff_not, takeMErr_none, Bool.not_eq_true', Bool.not_eq_false'] at h0
 refine sr fun _ => ?_
 refine ρ6 ?_
 refine mz ?_
 refine ρo (fun h2 => ?_) (fun h2 => ?_)
 · simp only [decide_eq_true_eq, decide_eq_false_iff_not, takeMErr_none, Bool.not_eq_true', Bool.not_eq_false'] at h2
   refine sr fun _ => ?_
   refine ρ0 U36 sz9 ?_
   refine ρ2 U9 ?_
   refine ρf cf5 (fun hg => takeM_fn d hd) ?_
   refine mv ?_
   refine ρj ?_
   refine ρj ?_
   refine ρp (j := 0) zv26 ?_
   refine ρ8 sz26 ?_
   refine mz ?_
   refine AWP.region (fun _ => ?_)
   refine mv ?_
   refine ARun.isNil rfl rfl rfl rfl U28 (ep rfl) (fun hg => by first | rfl | exact nilA_aEr _) (.inl ⟨rfl, rfl⟩) optN ?_
   refine ma ?_
   refine ⟨_, _, rfl, hG, ?_⟩
   refine blockA_n (thenA_n (AWP.seq ?_))
   refine sr fun _ => ?_
   refine mv ?_
   refine ARun.not rfl rfl rfl rfl (ep rfl) optN ?_
   refine ez ?_
   refine ρo (fun h3 => ?_) (fun h3 => ?_)
   · simp only [decide_eq_true_eq, decide_eq_false_iff_not, takeMErr_none, Bool.not_eq_true', Bool.not_eq_false'] at h3
     refine sr fun _ => ?_
     refine ρk cf22 (fun hg => new_fn tEvent 2) ?_
     refine mz ?_
     refine AWP.ret (thenA_r ?_)
     refine ρ9 ?_
     rw [eventP, if_neg h0, if_pos h2, if_neg h3]
   simp only [decide_eq_true_eq, decide_eq_false_iff_not, takeMErr_none, Bool.not_eq_true', Bool.not_eq_false'] at h3
   refine AWP.skip (thenA_n (sr fun _ => ?_))
   refine mz ?_
   refine AWP.ret ?_
   refine ρ9 ?_
   rw [eventP, if_neg h0, if_pos h2, if_pos h3]; rfl
 simp only [decide_eq_true_eq, decide_eq_false_iff_not, takeMErr_none, Bool.not_eq_true', Bool.not_eq_false'] at h2
 refine sr fun _ => ?_
 refine ρ6 ?_
 refine mz ?_
 refine ρo (fun h4 => ?_) (fun h4 => ?_)
 · simp only [decide_eq_true_eq, decide_eq_false_iff_not, takeMErr_none, Bool.not_eq_true', Bool.not_eq_false'] at h4
   refine AWP.region (fun _ => ?_)
   refine ρ0 U36 sz9 ?_
   refine ρ2 U9 ?_
   refine ARun.cmpS rfl rfl rfl rfl (ep rfl) (ep rfl) rfl optN ?_
   refine ma ?_
   refine ⟨_, _, rfl, hG, ?_⟩
   refine blockA_n (thenA_n (AWP.seq ?_))
   refine sr fun _ => ?_
   refine mv ?_
   refine ARun.not rfl rfl rfl rfl (ep rfl) optN ?_
   refine ez ?_
   refine ρo (fun h5 => ?_) (fun h5 => ?_)
   · simp only [decide_eq_true_eq, decide_eq_false_iff_not, takeMErr_none, Bool.not_eq_true', Bool.not_eq_false'] at h5
     refine sr fun _ => ?_
     refine ρk cf22 (fun hg => new_fn tEvent 2) ?_
     refine mz ?_
     refine AWP.ret (thenA_r ?_)
     refine ρ9 ?_
     rw [eventP, if_neg h0, if_neg h2, if_pos h4, if_neg h5]
   simp only [decide_eq_true_eq, decide_eq_false_iff_not, takeMErr_none, Bool.not_eq_true', Bool.not_eq_false'] at h5
   refine AWP.skip (thenA_n (sr fun _ => ?_))
   refine mz ?_
   refine AWP.ret ?_
   refine ρ9 ?_
   rw [eventP, if_neg h0, if_neg h2, if_pos h4, if_pos h5]; rfl
 simp only [decide_eq_true_eq, decide_eq_false_iff_not, takeMErr_none, Bool.not_eq_true', Bool.not_eq_false'] at h4
 refine sr fun _ => ?_
 refine ρk cf22 (fun hg => new_fn tEvent 30) ?_
 refine mz ?_
 refine AWP.ret (blockA_r (thenA_r ?_))
 refine ρ9 ?_
 rw [eventP, if_neg h0, if_neg h2, if_neg h4]
theorem recOk_t {x : Rc} {b : Bool} (h0 : x.snap = true) (h : (!(recB x && (decide (x.kind = 0) && (decide (x.data = ⟨#[]⟩) && true)) && decide ((x.state.size : Int) ≤ 18000))) = b) : recOk x = !b := by
 rw [← h, recOk, if_pos h0, Bool.not_not, Bool.and_true]
theorem recOk_f {x : Rc} {b : Bool} (h0 : x.snap = false) (h : (!(recB x && !isAny (Er.new tEvent (eventP x.kind x.data)) 30 && !isAny (Er.new tEvent (eventP x.kind x.data)) 2 && decide (x.state = ⟨#[]⟩))) = b) : recOk x = !b := by
 rw [← h, recOk, if_neg (by rw [h0]; decide), Bool.not_not, ← noE]
 simp only [Bool.and_assoc]
theorem chkRec_no {x : Rc} (h : recOk x = !true) : checkRec x = 2 := by rw [checkRec, h]; rfl
theorem chkRec_yes {x : Rc} (h : recOk x = !false) : checkRec x = 0 := by rw [checkRec, h]; rfl
theorem eventP_kind {k : Int} {d : ByteArray} (h : eventP k d = 0) : 1 ≤ k ∧ k ≤ 3 := by
 unfold eventP at h
 split at h
 · omega
 split at h
 · omega
 split at h
 · omega
 cases h
theorem recB_rng {x : Rc} (h : checkRec x = 0) : (0 ≤ x.epoch ∧ x.epoch ≤ 1000000) ∧ (0 ≤ x.seq ∧ x.seq ≤ 1000000) ∧ (x.snap = false → 1 ≤ x.kind ∧ x.kind ≤ 3) := by
 unfold checkRec at h
 split at h
 · rename_i h1
   unfold recOk at h1
   have hb : recB x = true := by
     split at h1 <;> simp only [Bool.and_eq_true] at h1
     · exact h1.1.1
     exact h1.1.1
   have hb' := hb
   unfold recB at hb
   simp only [Bool.and_eq_true, decide_eq_true_eq] at hb
   refine ⟨⟨by omega, by omega⟩, ⟨by omega, by omega⟩, fun hs => ?_⟩
   rw [if_neg (by rw [hs]; decide)] at h1
   simp only [Bool.and_eq_true, decide_eq_true_eq] at h1
   exact eventP_kind h1.1.2
 cases h
theorem checkRec_fn (x : Rc) (hd : x.data.size ≤ 100000) : FnP Tryz.prog 34 [aRc x] (aEr (Er.new tRecord (checkRec x))) := by
 refine FnP.of Tryz.func34 rfl rfl (by simp) (by simp [AV.cells, aIn, aOut, aAt, aMg, aEv, aRc]) (fun G hG => ?_)
 have hN : NoH G.length (aEr (Er.new tRecord (checkRec x))) := (by simp [AV.cells, aIn, aOut, aAt, aMg, aEv, aRc])
 refine sr fun _ => ?_
 refine ρt ?_
 refine mz (sr fun _ => ?_)
 refine ρ0 U38 sz3 ?_
 refine ρ2 U3 ?_
 refine ρ6 ?_
 refine mv ?_
 refine ρ5 U38 sz3 ?_
 refine ρ4 U3 ?_
 refine ρb ?_
 refine ρ1 ?_
 refine mv ?_
 refine ρ5 U38 sz3 ?_
 refine ρ4 U3 ?_
 refine ρb ?_
 refine ρ1 ?_
 refine mv ?_
 refine ρ5 U38 sz3 ?_
 refine ρ4 U3 ?_
 refine ρb ?_
 refine ρ1 ?_
 refine mv ?_
 refine ρ5 U38 sz4 ?_
 refine ρ4 U4 ?_
 refine ρ5 U38 sz3 ?_
 refine ρ4 U3 ?_
 refine ρb ?_
 refine ARun.cmpB rfl rfl rfl rfl U4 (Ev.opt rfl (fun h => h)) (Ev.opt rfl (fun h => h)) rfl optS ?_
 refine ρ1 ?_
 refine mz ?_
 refine AWP.seq (sr fun _ => ?_)
 refine ρ0 U38 sz4 ?_
 refine ρ2 U4 ?_
 refine ez ?_
 refine ρo (fun h0 => ?_) (fun h0 => ?_)
 · refine AWP.region (fun _ => ?_)
   refine mv ?_
   refine mv ?_
   refine ρ5 U38 sz36 ?_
   refine ARun.loadPeA rfl rfl rfl rfl U36 rfl sz36 (Ev.opt rfl (fun h => h)) rfl optS ?_
   refine ARun.build rfl rfl rfl rfl so36 .nil rfl rfl optS ?_
   refine ARun.eqAgg rfl rfl rfl rfl eq36 (Ev.opt rfl (fun h => h)) (Ev.opt rfl (fun h => h)) rfl (.inl ⟨rfl, rfl⟩) optS ?_
   refine ρ1 ?_
   refine mv ?_
   refine ρ5 U38 sz9 ?_
   refine ρ4 U9 ?_
   refine ARun.lenStr rfl rfl rfl rfl U9 (Ev.opt rfl (fun h => h)) optS ?_
   refine ρb ?_
   refine ρ1 ?_
   refine mz ?_
   refine AWP.seq (sr fun _ => ?_)
   refine mv ?_
   refine ARun.not rfl rfl rfl rfl (ep rfl) optN ?_
   refine ez ?_
   refine ρo (fun h1 => ?_) (fun h1 => ?_)
   · refine sr fun _ => ?_
     refine ρk cf22 (fun hg => new_fn tRecord 2) ?_
     refine mz ?_
     refine AWP.ret (thenA_r ?_)
     refine ρ9 ?_
     rw [chkRec_no (recOk_t h0 h1)]
   refine AWP.skip (thenA_n (sr fun _ => ?_))
   refine mz ?_
   refine AWP.ret ?_
   refine ρ9 ?_
   rw [chkRec_yes (recOk_t h0 h1)]; rfl
 refine sr fun _ => ?_
 refine ρ0 U38 sz36 ?_
 refine ρl U36 sz36 ?_
 refine ρf cf69 (fun hg => event_fn x.kind x.data hd) ?_
 refine mz ?_
 refine AWP.region (fun _ => ?_)
 refine mv ?_
 refine mv ?_
 refine ρh ?_
 refine ARun.iface rfl rfl rfl rfl (by kernel_rfl) (ep rfl) optS ?_
 refine ARun.call rfl rfl rfl rfl cf25 (ep rfl) (.cons (Ev.opt rfl (fun h => h)) (.cons (Ev.opt rfl (fun h => h)) .nil)) rfl (fun hg => IsAny_fn (Er.new tEvent (eventP x.kind x.data)) 30) optS ?_
 refine ARun.not rfl rfl rfl rfl (Ev.opt rfl (fun h => h)) optS ?_
 refine ρ1 ?_
 refine mv ?_
 refine ρh ?_
 refine ARun.iface rfl rfl rfl rfl (by kernel_rfl) (ep rfl) optS ?_
 refine ARun.call rfl rfl rfl rfl cf25 (ep rfl) (.cons (Ev.opt rfl (fun h => h)) (.cons (Ev.opt rfl (fun h => h)) .nil)) rfl (fun hg => IsAny_fn (Er.new tEvent (eventP x.kind x.data)) 2) optS ?_
 refine ARun.not rfl rfl rfl rfl (Ev.opt rfl (fun h => h)) optS ?_
 refine ρ1 ?_
 refine mv ?_
 refine ρ5 U38 sz9 ?_
 refine ρ4 U9 ?_
 refine ARun.cmpS rfl rfl rfl rfl (Ev.opt rfl (fun h => h)) (ep rfl) rfl optS ?_
 refine ρ1 ?_
 refine mz ?_
 refine AWP.seq (sr fun _ => ?_)
 refine mv ?_
 refine ARun.not rfl rfl rfl rfl (ep rfl) optN ?_
 refine ez ?_
 refine ρo (fun h2 => ?_) (fun h2 => ?_)
 · refine sr fun _ => ?_
   refine ρk cf22 (fun hg => new_fn tRecord 2) ?_
   refine mz ?_
   refine AWP.ret (thenA_r ?_)
   refine ρ9 ?_
   rw [chkRec_no (recOk_f h0 h2)]
 refine AWP.skip (thenA_n (sr fun _ => ?_))
 refine mz ?_
 refine AWP.ret ?_
 refine ρ9 ?_
 rw [chkRec_yes (recOk_f h0 h2)]; rfl
theorem fit_two {a b : Int} (h1 : -9223372036854775808 ≤ a ∧ a ≤ 9223372036854775807) (h2 : -9223372036854775808 ≤ b ∧ b ≤ 9223372036854775807) : ∀ x, x ∈ [a, b] → -9223372036854775808 ≤ x ∧ x ≤ 9223372036854775807 := by
 intro x hx
 simp only [List.mem_cons, List.not_mem_nil, or_false] at hx
 rcases hx with rfl | rfl
 · exact h1
 exact h2
theorem wrFlag_len1 (w : WrS) (b : Bool) : (wrFlag w b).s.length ≤ w.s.length + 1 := by
 have := wrPut_len w tFlag (bl (flagB b)) 0
 have h2 : (bl (flagB b)).length = 1 := by cases b <;> rfl
 unfold wrFlag; omega
theorem putRec_fn (x : Rc) (hd : x.data.size ≤ 100000) (hst : x.state.size ≤ 100000) : FnP Tryz.prog 9 [aRc x] (.tup [.str (putRec x), aEr (putRecErr x)]) := by
 have hw1 := wrNums_len [x.epoch, x.seq] WrS.new
 have hw1h : [x.epoch, x.seq].length = 2 := rfl
 have hw0 : WrS.new.s.length = 0 := rfl
 have hw2 : (headRec x).s.length ≤ (wrNums WrS.new [x.epoch, x.seq]).s.length + 1 := wrFlag_len1 _ _
 have hw3 := wrNums_len [x.kind] (headRec x)
 have hw3h : [x.kind].length = 1 := rfl
 refine FnP.of Tryz.func9 rfl rfl (by simp) (by simp [AV.cells, aIn, aOut, aAt, aMg, aEv, aRc]) (fun G hG => ?_)
 have hN : NoH G.length (.tup [.str (putRec x), aEr (putRecErr x)]) := (by simp [AV.cells, aIn, aOut, aAt, aMg, aEv, aRc])
 refine sr fun _ => ?_
 refine ρt ?_
 refine ma ?_
 refine mz ?_
 refine AWP.seq (sr fun _ => ?_)
 refine ρl U38 sz38 ?_
 refine ρf cf34 (fun hg => checkRec_fn x hd) ?_
 refine mz (sr fun _ => ?_)
 refine mv ?_
 refine ρr U28 ?_
 refine ez ?_
 refine ρo (fun h0 => ?_) (fun h0 => ?_)
 · have hc : checkRec x ≠ 0 := by simpa [new_none] using h0
   refine sr fun _ => ?_
   refine mv ?_
   refine ma ?_
   refine mz ?_
   refine AWP.ret (thenA_r ?_)
   refine ρB (rs := [.tmp 2, .tmp 3]) (.cons (.tmp rfl) (.cons (.tmp rfl) .nil)) ?_
   rw [putRec, if_neg hc, putRecErr, if_neg hc]; rfl
 have hc : checkRec x = 0 := by simpa [new_none] using h0
 obtain ⟨hb1, hb2, hb3⟩ := recB_rng hc
 refine AWP.skip (thenA_n (sr fun _ => ?_))
 refine ARun.allocBld (j := 0) (e := 5) hG rfl rfl rfl rfl rfl zv90 rfl rfl rfl optN ?_
 refine ez (sr fun _ => ?_)
 refine ρ0 U38 sz3 ?_
 refine ρ2 U3 ?_
 refine ρ0 U38 sz3 ?_
 refine ρ2 U3 ?_
 refine ARun.buildSl rfl rfl rfl rfl U24 sz3 zv3 rfl (by decide) (.cons (ep rfl) (.cons (ep rfl) .nil)) rfl rfl rfl rfl (by decide) rfl rfl optN ?_
 refine ARun.callSet (j := 0) hG rfl rfl rfl rfl cf26 (ep rfl) (.cons (ep rfl) (.cons (ep rfl) .nil)) rfl (nums_w WrS.new [x.epoch, x.seq] (by omega) (by omega) (fit_two (by omega) (by omega)) _ _ ((hG.at _ _).trans rfl)) rfl optN ?_
 refine ez (sr fun _ => ?_)
 refine ρ0 U38 sz4 ?_
 refine ρ2 U4 ?_
 refine ARun.callSet (j := 0) hG rfl rfl rfl rfl cf35 (ep rfl) (.cons (ep rfl) (.cons (ep rfl) .nil)) rfl (flag_w (wrNums WrS.new [x.epoch, x.seq]) x.snap (by omega) _ _ ((hG.at _ _).trans rfl)) rfl optN ?_
 refine ez ?_
 refine AWP.seq (sr fun _ => ?_)
 refine ρ0 U38 sz4 ?_
 refine ρ2 U4 ?_
 refine ez ?_
 refine ρo (fun h1 => ?_) (fun h1 => ?_)
 · refine AWP.region (fun _ => ?_)
   refine ρ0 U38 sz9 ?_
   refine ρ2 U9 ?_
   refine ARun.callSet (j := 0) hG rfl rfl rfl rfl cf27 (ep rfl) (.cons (ep rfl) (.cons (ep rfl) .nil)) rfl (text_w (headRec x) x.state (by omega) (by omega) _ _ ((hG.at _ _).trans rfl)) rfl optN ?_
   refine ez (sr fun _ => ?_)
   refine ρv (j := 0) cf29 (done_w (wrText (headRec x) x.state) _ _ ((hG.at _ _).trans rfl)) ?_
   refine ρj ?_
   refine ρj ?_
   refine ma ?_
   refine mz ?_
   refine AWP.ret ?_
   refine ρB (rs := [.tmp 2, .tmp 3]) (.cons (.tmp rfl) (.cons (.tmp rfl) .nil)) ?_
   rw [putRec, if_pos hc, putRecErr, if_pos hc, layRec, if_pos h1]
 refine sr fun _ => ?_
 refine ρ0 U38 sz36 ?_
 refine ρ0 U36 sz3 ?_
 refine ρ2 U3 ?_
 refine ρy U24 sz3 zv3 ?_
 refine ARun.callSet (j := 0) hG rfl rfl rfl rfl cf26 (ep rfl) (.cons (ep rfl) (.cons (ep rfl) .nil)) rfl (nums_w (headRec x) [x.kind] (by omega) (by omega) (fit_one (by have := hb3 h1; omega)) _ _ ((hG.at _ _).trans rfl)) rfl optN ?_
 refine ez ?_
 refine AWP.region (fun _ => ?_)
 refine ρ0 U38 sz36 ?_
 refine ρ0 U36 sz9 ?_
 refine ρ2 U9 ?_
 refine ARun.callSet (j := 0) hG rfl rfl rfl rfl cf27 (ep rfl) (.cons (ep rfl) (.cons (ep rfl) .nil)) rfl (text_w (wrNums (headRec x) [x.kind]) x.data (by omega) (by omega) _ _ ((hG.at _ _).trans rfl)) rfl optN ?_
 refine ez (sr fun _ => ?_)
 refine ρv (j := 0) cf29 (done_w (wrText (wrNums (headRec x) [x.kind]) x.data) _ _ ((hG.at _ _).trans rfl)) ?_
 refine ρj ?_
 refine ρj ?_
 refine ma ?_
 refine mz ?_
 refine AWP.ret ?_
 refine ρB (rs := [.tmp 2, .tmp 3]) (.cons (.tmp rfl) (.cons (.tmp rfl) .nil)) ?_
 rw [putRec, if_pos hc, putRecErr, if_pos hc, layRec, if_neg (by rw [h1]; decide)]
theorem endTr {s : ByteArray} (hs : s.size ≤ 1000000) (hf : (rcF s).2 = true) : FnM Tryz.prog 33 (fun i => [.box i 0]) (aRd (rcT s).1) (.tup []) (aRd (rcR s)) := by
 have h := end_r (rcT s).1 (rdText_ok (rcF_ok hs) 18000)
 unfold rcR; rw [if_pos hf]; exact h
theorem endDr {s : ByteArray} (hs : s.size ≤ 1000000) (hf : (rcF s).2 = false) : FnM Tryz.prog 33 (fun i => [.box i 0]) (aRd (rcD s).1) (.tup []) (aRd (rcR s)) := by
 have h := end_r (rcD s).1 (rdText_ok (rdNum_ok (rcF_ok hs) 9) 5000)
 unfold rcR; rw [if_neg (by rw [hf]; decide)]; exact h
theorem rcOf_small {s : ByteArray} (hs : s.size ≤ 100000) : (rcOf s).data.size ≤ 100000 ∧ (rcOf s).state.size ≤ 100000 := by
 have h1 := rdText_len (r := (rcF s).1) 18000
 have h2 := rdText_len (r := (rcK s).1) 5000
 have e1 : (rcF s).1.s = s := by unfold rcF rcS rcE; rw [rdFlag_s, rdNum_s, rdNum_s]; rfl
 have e2 : (rcK s).1.s = s := by unfold rcK; rw [rdNum_s, e1]
 rw [e1] at h1; rw [e2] at h2
 unfold rcOf
 split
 · exact ⟨Nat.zero_le _, by show (rdText (rcF s).1 18000).2.size ≤ _; omega⟩
 exact ⟨by show (rdText (rcK s).1 5000).2.size ≤ _; omega, Nat.zero_le _⟩
theorem checkRec_at {x : Rc} {v : AV} (hd : x.data.size ≤ 100000) (hT : aRc x = v) : FnP Tryz.prog 34 [v] (aEr (Er.new tRecord (checkRec x))) := hT ▸ checkRec_fn x hd
theorem takeRec_small {s : ByteArray} (hs : s.size ≤ 100000) : (takeRec s).data.size ≤ 100000 ∧ (takeRec s).state.size ≤ 100000 := by
 unfold takeRec
 split
 · exact rcOf_small hs
 exact ⟨Nat.zero_le _, Nat.zero_le _⟩
set_option maxHeartbeats 4000000 in
theorem takeRec_fn (s : ByteArray) (hs : s.size ≤ 100000) : FnP Tryz.prog 8 [.str s] (.tup [aRc (takeRec s), aEr (takeRecErr s)]) := by
 have hs6 : s.size ≤ 1000000 := by omega
 have hr := rd_new_ok hs6
 have o1 := rdNum_ok hr 1000000
 have o2 := rdNum_ok o1 1000000
 have o3 := rcF_ok hs6
 have hsm := rcOf_small hs
 refine FnP.of Tryz.func8 rfl rfl (by simp) (by simp [AV.cells, aIn, aOut, aAt, aMg, aEv, aRc]) (fun G hG => ?_)
 have hN : NoH G.length (.tup [aRc (takeRec s), aEr (takeRecErr s)]) := (by simp [AV.cells, aIn, aOut, aAt, aMg, aEv, aRc])
 refine sr fun _ => ?_
 refine ρp (j := 0) zv38 ?_
 refine mz (sr fun _ => ?_)
 refine mv ?_
 refine ARun.callNewB (j := 1) hG rfl rfl rfl rfl rfl cf18 (ep rfl) (.cons (ep rfl) .nil) rfl (newr_fn s) optN ?_
 refine mz (sr fun _ => ?_)
 refine mv ?_
 refine ARun.makeFunc rfl rfl rfl rfl (.cons (ep rfl) .nil) .nil optN ?_
 refine mv ?_
 refine ARun.makeFunc rfl rfl rfl rfl (.cons (ep rfl) .nil) .nil optN ?_
 refine ma ?_
 refine mz (sr fun _ => ?_)
 refine mv ?_
 refine ρv (j := 1) cf30 (num_r (RdS.new s) 1000000 hr _ _ ((hG.at _ _).trans rfl)) ?_
 refine mv ?_
 refine ρv (j := 1) cf30 (num_r (rcE s).1 1000000 o1 _ _ ((hG.at _ _).trans rfl)) ?_
 refine mv ?_
 refine ρv (j := 1) cf32 (flag_r (rcS s).1 o2 _ _ ((hG.at _ _).trans rfl)) ?_
 refine ARun.build rfl rfl rfl rfl so38 (.cons (ep rfl) (.cons (ep rfl) (.cons (ep rfl) .nil))) rfl rfl optN ?_
 refine ρp (j := 2) zv38 ?_
 refine ρ8 sz38 ?_
 refine ez ?_
 refine AWP.seq (sr fun _ => ?_)
 refine ρe (fo := 2) U38 sz4 ?_
 refine ARun.loadBox rfl rfl rfl rfl U4 rfl (ep rfl) ((hG.at _ _).trans rfl) rfl optN ?_
 refine ez ?_
 refine ρo (fun h0 => ?_) (fun h0 => ?_)
 · replace h0 : (rcF s).2 = true := h0
   have hT : aRc (rcOf s) = .agg [.int .i64 (rcE s).2, .int .i64 (rcS s).2, .bool (rcF s).2, .int .i64 0, .str ⟨#[]⟩, .str (rcT s).2] := by rw [rcOf, if_pos h0]; rfl
   show AWP _ _ _ _ _ _ _ [.box [.int .i64 0, .int .i64 0, .bool false, .int .i64 0, .str ⟨#[]⟩, .str ⟨#[]⟩], .box (aRd (rcF s).1), .box [.int .i64 (rcE s).2, .int .i64 (rcS s).2, .bool (rcF s).2, .int .i64 0, .str ⟨#[]⟩, .str ⟨#[]⟩]]
   refine AWP.region (fun _ => ?_)
   refine mv ?_
   refine ρv (j := 1) cf31 (text_r (rcF s).1 18000 o3 _ _ ((hG.at _ _).trans rfl)) ?_
   refine ρe (fo := 5) U38 sz9 ?_
   refine ρc sz9 (show _ = [.int .i64 (rcE s).2, .int .i64 (rcS s).2, .bool (rcF s).2, .int .i64 0, .str ⟨#[]⟩, .str (rcT s).2] from rfl) ?_
   refine ez (sr fun _ => ?_)
   refine mv ?_
   refine ρv (j := 1) cf33 (endTr hs6 h0 _ _ ((hG.at _ _).trans rfl)) ?_
   refine ez ?_
   refine AWP.seq (sr fun _ => ?_)
   refine mv ?_
   refine ARun.callR rfl rfl rfl rfl cf20 (ep rfl) (.cons (ep rfl) .nil) rfl (fun hg => FnM.keep (rdone_fn (rcR s)) ((hG.at _ _).trans rfl)) optN ?_
   refine mz (sr fun _ => ?_)
   refine mv ?_
   refine ρr U28 ?_
   refine ez ?_
   refine ρo (fun h1 => ?_) (fun h1 => ?_)
   · have he : (rcR s).e ≠ 0 := by simpa [errOf_none] using h1
     refine sr fun _ => ?_
     refine ARun.build rfl rfl rfl rfl so38 .nil rfl rfl optN ?_
     refine mv ?_
     refine ρk cf21 (fun hg => wrap_fn tTake (errOf tRead (rcR s).p (rcR s).e)) ?_
     refine ρ8 sz38 ?_
     refine mz ?_
     refine AWP.ret (thenA_r ?_)
     refine ρB (rs := [.cell 2 38, .tmp 3]) (.cons (.cellA rfl ((hG.at _ _).trans rfl) U38 rfl sz38 rfl rfl) (.cons (.tmp rfl) .nil)) ?_
     have ht : takeRE s ≠ 0 := by rw [takeRE, if_pos he]; exact he
     rw [takeRec, if_neg ht, takeRecErr, if_pos he]; rfl
   have he : (rcR s).e = 0 := by simpa [errOf_none] using h1
   refine AWP.skip (thenA_n (AWP.seq (sr fun _ => ?_)))
   refine ρs U38 sz38 ?_
   refine ρf cf34 (fun hg => checkRec_at hsm.1 hT) ?_
   refine mz (sr fun _ => ?_)
   refine mv ?_
   refine ρr U28 ?_
   refine ez ?_
   refine ρo (fun h2 => ?_) (fun h2 => ?_)
   · simp [new_none] at h2
     refine sr fun _ => ?_
     refine ARun.build rfl rfl rfl rfl so38 .nil rfl rfl optN ?_
     refine mv ?_
     refine ρk cf21 (fun hg => wrap_fn tTake (Er.new tRecord (checkRec (rcOf s)))) ?_
     refine ρ8 sz38 ?_
     refine mz ?_
     refine AWP.ret (thenA_r ?_)
     refine ρB (rs := [.cell 2 38, .tmp 3]) (.cons (.cellA rfl ((hG.at _ _).trans rfl) U38 rfl sz38 rfl rfl) (.cons (.tmp rfl) .nil)) ?_
     have ht : takeRE s ≠ 0 := by rw [takeRE, if_neg (by omega)]; exact h2
     rw [takeRec, if_neg ht, takeRecErr, if_neg (by omega)]; rfl
   simp [new_none] at h2
   refine AWP.skip (thenA_n (sr fun _ => ?_))
   refine ρs U38 sz38 ?_
   refine ρ8 sz38 ?_
   refine mz ?_
   refine AWP.ret ?_
   refine ρB (rs := [.cell 2 38, .tmp 3]) (.cons (.cellA rfl ((hG.at _ _).trans rfl) U38 rfl sz38 rfl rfl) (.cons (.tmp rfl) .nil)) ?_
   have ht : takeRE s = 0 := by rw [takeRE, if_neg (by omega)]; exact h2
   rw [takeRec, if_pos ht, takeRecErr, if_neg (by omega), show checkRec (rcOf s) = 0 from h2]
   rw [rcOf, if_pos h0]; rfl
 replace h0 : (rcF s).2 = false := h0
 have hT : aRc (rcOf s) = .agg [.int .i64 (rcE s).2, .int .i64 (rcS s).2, .bool (rcF s).2, .int .i64 (rcK s).2, .str (rcD s).2, .str ⟨#[]⟩] := by rw [rcOf, if_neg (by rw [h0]; decide)]; rfl
 show AWP _ _ _ _ _ _ _ [.box [.int .i64 0, .int .i64 0, .bool false, .int .i64 0, .str ⟨#[]⟩, .str ⟨#[]⟩], .box (aRd (rcF s).1), .box [.int .i64 (rcE s).2, .int .i64 (rcS s).2, .bool (rcF s).2, .int .i64 0, .str ⟨#[]⟩, .str ⟨#[]⟩]]
 refine AWP.region (fun _ => ?_)
 refine mv ?_
 refine ρv (j := 1) cf30 (num_r (rcF s).1 9 o3 _ _ ((hG.at _ _).trans rfl)) ?_
 refine mv ?_
 refine ρv (j := 1) cf31 (text_r (rcK s).1 5000 (rdNum_ok o3 9) _ _ ((hG.at _ _).trans rfl)) ?_
 refine ARun.build rfl rfl rfl rfl so36 (.cons (ep rfl) (.cons (ep rfl) .nil)) rfl rfl optN ?_
 refine ρe (fo := 3) U38 sz36 ?_
 refine ρ8 sz36 ?_
 refine ez (sr fun _ => ?_)
 refine mv ?_
 refine ρv (j := 1) cf33 (endDr hs6 h0 _ _ ((hG.at _ _).trans rfl)) ?_
 refine ez ?_
 refine AWP.seq (sr fun _ => ?_)
 refine mv ?_
 refine ARun.callR rfl rfl rfl rfl cf20 (ep rfl) (.cons (ep rfl) .nil) rfl (fun hg => FnM.keep (rdone_fn (rcR s)) ((hG.at _ _).trans rfl)) optN ?_
 refine mz (sr fun _ => ?_)
 refine mv ?_
 refine ρr U28 ?_
 refine ez ?_
 refine ρo (fun h3 => ?_) (fun h3 => ?_)
 · have he : (rcR s).e ≠ 0 := by simpa [errOf_none] using h3
   refine sr fun _ => ?_
   refine ARun.build rfl rfl rfl rfl so38 .nil rfl rfl optN ?_
   refine mv ?_
   refine ρk cf21 (fun hg => wrap_fn tTake (errOf tRead (rcR s).p (rcR s).e)) ?_
   refine ρ8 sz38 ?_
   refine mz ?_
   refine AWP.ret (thenA_r ?_)
   refine ρB (rs := [.cell 2 38, .tmp 3]) (.cons (.cellA rfl ((hG.at _ _).trans rfl) U38 rfl sz38 rfl rfl) (.cons (.tmp rfl) .nil)) ?_
   have ht : takeRE s ≠ 0 := by rw [takeRE, if_pos he]; exact he
   rw [takeRec, if_neg ht, takeRecErr, if_pos he]; rfl
 have he : (rcR s).e = 0 := by simpa [errOf_none] using h3
 refine AWP.skip (thenA_n (AWP.seq (sr fun _ => ?_)))
 refine ρs U38 sz38 ?_
 refine ρf cf34 (fun hg => checkRec_at hsm.1 hT) ?_
 refine mz (sr fun _ => ?_)
 refine mv ?_
 refine ρr U28 ?_
 refine ez ?_
 refine ρo (fun h4 => ?_) (fun h4 => ?_)
 · simp [new_none] at h4
   refine sr fun _ => ?_
   refine ARun.build rfl rfl rfl rfl so38 .nil rfl rfl optN ?_
   refine mv ?_
   refine ρk cf21 (fun hg => wrap_fn tTake (Er.new tRecord (checkRec (rcOf s)))) ?_
   refine ρ8 sz38 ?_
   refine mz ?_
   refine AWP.ret (thenA_r ?_)
   refine ρB (rs := [.cell 2 38, .tmp 3]) (.cons (.cellA rfl ((hG.at _ _).trans rfl) U38 rfl sz38 rfl rfl) (.cons (.tmp rfl) .nil)) ?_
   have ht : takeRE s ≠ 0 := by rw [takeRE, if_neg (by omega)]; exact h4
   rw [takeRec, if_neg ht, takeRecErr, if_neg (by omega)]; rfl
 simp [new_none] at h4
 refine AWP.skip (thenA_n (sr fun _ => ?_))
 refine ρs U38 sz38 ?_
 refine ρ8 sz38 ?_
 refine mz ?_
 refine AWP.ret ?_
 refine ρB (rs := [.cell 2 38, .tmp 3]) (.cons (.cellA rfl ((hG.at _ _).trans rfl) U38 rfl sz38 rfl rfl) (.cons (.tmp rfl) .nil)) ?_
 have ht : takeRE s = 0 := by rw [takeRE, if_neg (by omega)]; exact h4
 rw [takeRec, if_pos ht, takeRecErr, if_neg (by omega), show checkRec (rcOf s) = 0 from h4]
 rw [rcOf, if_neg (by rw [h0]; decide)]; rfl
end Go.Proofs.YtnlpojjfkgnhhaaGreatDoor
namespace Go.Proofs.YtnlpojjfkgnhhaaGreatDoor
open NumP
theorem any_hit {n k : Nat} {p : Nat → Bool} (hk : k < n) (h : p k = true) : (List.range n).any p = true := List.any_eq_true.2 ⟨k, List.mem_range.2 hk, h⟩
theorem any_none {n : Nat} {p : Nat → Bool} (h : ∀ j, j < n → p j = false) : (List.range n).any p = false := List.any_eq_false.2 fun j hj => by rw [h j (List.mem_range.1 hj)]; decide
structure Rn where
 lo : Int
 hi : Int
deriving DecidableEq
instance : Inhabited Rn := ⟨⟨0, 0⟩⟩
structure Kn where
 base : Int
 ranges : List Rn
 atts : List At
instance : Inhabited Kn := ⟨⟨0, [], []⟩⟩
structure Ak where
 kind : Int
 from_ : Int
 bal : Int
 t : Int
 abal : Int
 phase : Int
deriving DecidableEq
instance : Inhabited Ak := ⟨⟨0, 0, 0, 0, 0, 0⟩⟩
structure En where
 id : Int
 phase : Int
 quorum : Int
 t : Int
 bal : Int
 abal : Int
 seen : Int
 age : Int
 payload : ByteArray
 acks : List Ak
instance : Inhabited En := ⟨⟨0, 0, 0, 0, 0, 0, 0, 0, ⟨#[]⟩, []⟩⟩
/-! ### ranges -/
def lastR (l : List Rn) (k : Nat) : Int := if k = 0 then -1 else (l.getD (k - 1) default).hi
def rngBad (l : List Rn) (k : Nat) : Bool := decide ((l.getD k default).lo < 1) || decide ((l.getD k default).hi < (l.getD k default).lo) || decide (1000000 < (l.getD k default).hi) || decide ((l.getD k default).lo ≤ lastR l k + 1)
def rangesE (l : List Rn) : Int := if (decide (1000 < (l.length : Int))) = true then 2 else if ((List.range l.length).any (rngBad l)) = true then 2 else 0
theorem lastR_rng {l : List Rn} {k : Nat} (h : ∀ j, j < k → rngBad l j = false) : -1 ≤ lastR l k ∧ lastR l k ≤ 1000000 := by
 unfold lastR
 split
 · omega
 · have := h (k - 1) (by omega)
   unfold rngBad at this
   simp only [Bool.or_eq_false_iff, decide_eq_false_iff_not] at this
   omega
def hasR (l : List Rn) (n : Int) : Bool := decide (rangesE l = 0) && l.any fun r => decide (r.lo ≤ n) && decide (n ≤ r.hi)
/-! ### known -/
def riseOk (l : List At) (lo hi : Int) : Bool := attsOk l lo hi
def knBad (k : Kn) : Bool := decide (k.base < 0) || decide (1000000 < k.base) || !decide (rangesE k.ranges = 0) || decide (400 < (k.atts.length : Int)) || !riseOk k.atts k.base 1000000
def knNear (k : Kn) : Bool := decide (0 < (k.ranges.length : Int)) && decide ((k.ranges.getD 0 default).lo ≤ k.base + 1)
def knownE (k : Kn) : Int := if knBad k = true then 2 else if knNear k = true then 2 else if (k.atts.any fun a => hasR k.ranges a.t) = true then 2 else 0
/-! ### stable, sweep -/
def mostP (n : Int) : Int := if (!(decide (3 ≤ n) && decide (n ≤ 9))) = true then 0 else n.tdiv 2 + 1
def markBad (t : Int) : Bool := decide (t < 0) || decide (1000000 < t)
def stableE (l : List Int) (n : Int) : Int := if (decide (mostP n = 0) || !decide ((l.length : Int) = n)) = true then 2 else if (l.any markBad) = true then 2 else 0
def sweepBad (m : List (List Int)) (n : Int) (k : Nat) : Bool := !decide (stableE (m.getD k default) n = 0)
def sweepE (m : List (List Int)) (n : Int) : Int := if (decide (mostP n = 0) || !decide ((m.length : Int) = n)) = true then 2 else if ((List.range m.length).any (sweepBad m n)) = true then 2 else 0
theorem stable_two (l : List Int) (n : Int) : stableE l n = 0 ∨ stableE l n = 2 := by
 unfold stableE
 repeat' split
 all_goals simp
/-! ### phases, commands -/
def phaseE (p : Int) : Int := if (decide (p < 0) || decide (6 < p)) = true then 2 else 0
def openPh (p : Int) : Bool := decide (1 ≤ p) && decide (p ≤ 4)
def propPh (p : Int) : Bool := decide (2 ≤ p) && decide (p ≤ 4)
def setlPh (p : Int) : Bool := decide (p = 5) || decide (p = 6)
def within (n top : Int) : Bool := decide (0 ≤ n) && decide (n ≤ top)
def answerP (a : Ak) : Bool := decide (1 ≤ a.kind) && decide (a.kind ≤ 3) && decide (1 ≤ a.from_) && decide (a.from_ ≤ 9) && within a.t 1000000 && within a.bal 1000000 && within a.abal 1000000 && decide (phaseE a.phase = 0)
def askedP (q a : Ak) : Bool := decide (a.kind = q.kind) && (decide (a.from_ = q.from_) && (decide (a.bal = q.bal) && true))
def ackBad (l : List Ak) (k : Nat) : Bool := !answerP (l.getD k default) || (l.take k).any fun a => askedP (l.getD k default) a
def acksP (l : List Ak) : Bool := if ((List.range l.length).any (ackBad l)) = true then false else decide ((l.length : Int) ≤ 27)
def numbersP (e : En) : Bool := within e.t 1000000 && within e.bal 1000000 && within e.abal e.bal && within e.seen 1000000 && within e.age 1000000
def toldE (e : En) : Bool :=
 if ((propPh e.phase || setlPh e.phase || decide (0 < e.abal)) != decide (0 < e.t)) = true then false else if (decide (0 < e.abal) || setlPh e.phase) = true then true else
 decide (0 < e.bal) == (decide (e.phase = 3) || decide (e.phase = 4))
def entryE (e : En) : Int :=
 if (!decide (identE e.id = 0) || !(openPh e.phase || setlPh e.phase) || decide (countP e.quorum = 0) || decide (300 < (e.payload.size : Int))) = true then 2 else
 if (!numbersP e || !toldE e || !acksP e.acks || setlPh e.phase && decide (0 < (e.acks.length : Int))) = true then 2 else 0
def tabBad (l : List En) (k : Nat) : Bool := !decide (entryE (l.getD k default) = 0) || decide (0 < (k : Int)) && decide ((l.getD k default).id ≤ (l.getD (k - 1) default).id)
def tableE (l : List En) : Int := if (decide (40 < (l.length : Int))) = true then 2 else if ((List.range l.length).any (tabBad l)) = true then 2 else 0
end Go.Proofs.YtnlpojjfkgnhhaaGreatDoor
namespace Go.Proofs.YtnlpojjfkgnhhaaGreatDoor
open Go.RowKit
theorem ti162 : Ti Tryz.prog 162 (.slice none 0 0) 1 24 := by unfold Ti; kernel_rfl
theorem sz162 : Sz Tryz.prog 162 1 := ti162.sz
theorem zv162 : Zv Tryz.prog 162 (.slice none 0 0) := ti162.zv
theorem ti167 : Ti Tryz.prog 167 (.agg #[.int .i64 0, .int .i64 0]) 2 16 := by unfold Ti; kernel_rfl
theorem sz167 : Sz Tryz.prog 167 2 := ti167.sz
theorem zv167 : Zv Tryz.prog 167 (.agg #[.int .i64 0, .int .i64 0]) := ti167.zv
theorem ti176 : Ti Tryz.prog 176 (.slice none 0 0) 1 24 := by unfold Ti; kernel_rfl
theorem sz176 : Sz Tryz.prog 176 1 := ti176.sz
theorem ti178 : Ti Tryz.prog 178 (.agg #[.int .i64 0, .int .i64 0, .int .i64 0, .int .i64 0, .int .i64 0, .int .i64 0, .int .i64 0, .int .i64 0, .string ⟨#[]⟩, .slice none 0 0]) 10 104 := by unfold Ti; kernel_rfl
theorem sz178 : Sz Tryz.prog 178 10 := ti178.sz
theorem zv178 : Zv Tryz.prog 178 (.agg #[.int .i64 0, .int .i64 0, .int .i64 0, .int .i64 0, .int .i64 0, .int .i64 0, .int .i64 0, .int .i64 0, .string ⟨#[]⟩, .slice none 0 0]) := ti178.zv
theorem ti181 : Ti Tryz.prog 181 (.agg #[.int .i64 0, .int .i64 0, .int .i64 0, .int .i64 0, .int .i64 0, .int .i64 0]) 6 48 := by unfold Ti; kernel_rfl
theorem sz181 : Sz Tryz.prog 181 6 := ti181.sz
theorem zv181 : Zv Tryz.prog 181 (.agg #[.int .i64 0, .int .i64 0, .int .i64 0, .int .i64 0, .int .i64 0, .int .i64 0]) := ti181.zv
theorem ti273 : Ti Tryz.prog 273 (.agg #[.int .i64 0, .int .i64 0, .int .i64 0]) 3 24 := by unfold Ti; kernel_rfl
theorem sz273 : Sz Tryz.prog 273 3 := ti273.sz
theorem zv273 : Zv Tryz.prog 273 (.agg #[.int .i64 0, .int .i64 0, .int .i64 0]) := ti273.zv
theorem eq273 : EqOk Tryz.prog 273 [.int, .int, .int] := ⟨_, U273, by kernel_rfl, by kernel_rfl, by kernel_rfl, by kernel_rfl⟩
theorem cf147 : ∀ (vs : Array Value) (W : World), (callFunc 147 vs).run Tryz.prog W = .ok (.enter 147 vs) W := fun _ _ => by rfl
theorem cf149 : ∀ (vs : Array Value) (W : World), (callFunc 149 vs).run Tryz.prog W = .ok (.enter 149 vs) W := fun _ _ => by rfl
theorem cf158 : ∀ (vs : Array Value) (W : World), (callFunc 158 vs).run Tryz.prog W = .ok (.enter 158 vs) W := fun _ _ => by rfl
theorem cf159 : ∀ (vs : Array Value) (W : World), (callFunc 159 vs).run Tryz.prog W = .ok (.enter 159 vs) W := fun _ _ => by rfl
theorem cf161 : ∀ (vs : Array Value) (W : World), (callFunc 161 vs).run Tryz.prog W = .ok (.enter 161 vs) W := fun _ _ => by rfl
theorem cf162 : ∀ (vs : Array Value) (W : World), (callFunc 162 vs).run Tryz.prog W = .ok (.enter 162 vs) W := fun _ _ => by rfl
theorem cf163 : ∀ (vs : Array Value) (W : World), (callFunc 163 vs).run Tryz.prog W = .ok (.enter 163 vs) W := fun _ _ => by rfl
theorem cf164 : ∀ (vs : Array Value) (W : World), (callFunc 164 vs).run Tryz.prog W = .ok (.enter 164 vs) W := fun _ _ => by rfl
theorem cf166 : ∀ (vs : Array Value) (W : World), (callFunc 166 vs).run Tryz.prog W = .ok (.enter 166 vs) W := fun _ _ => by rfl
theorem cf167 : ∀ (vs : Array Value) (W : World), (callFunc 167 vs).run Tryz.prog W = .ok (.enter 167 vs) W := fun _ _ => by rfl
theorem cf173 : ∀ (vs : Array Value) (W : World), (callFunc 173 vs).run Tryz.prog W = .ok (.enter 173 vs) W := fun _ _ => by rfl
theorem cf174 : ∀ (vs : Array Value) (W : World), (callFunc 174 vs).run Tryz.prog W = .ok (.enter 174 vs) W := fun _ _ => by rfl
theorem cf175 : ∀ (vs : Array Value) (W : World), (callFunc 175 vs).run Tryz.prog W = .ok (.enter 175 vs) W := fun _ _ => by rfl
theorem cf176 : ∀ (vs : Array Value) (W : World), (callFunc 176 vs).run Tryz.prog W = .ok (.enter 176 vs) W := fun _ _ => by rfl
theorem cf177 : ∀ (vs : Array Value) (W : World), (callFunc 177 vs).run Tryz.prog W = .ok (.enter 177 vs) W := fun _ _ => by rfl
theorem cf178 : ∀ (vs : Array Value) (W : World), (callFunc 178 vs).run Tryz.prog W = .ok (.enter 178 vs) W := fun _ _ => by rfl
theorem cf179 : ∀ (vs : Array Value) (W : World), (callFunc 179 vs).run Tryz.prog W = .ok (.enter 179 vs) W := fun _ _ => by rfl
theorem cf180 : ∀ (vs : Array Value) (W : World), (callFunc 180 vs).run Tryz.prog W = .ok (.enter 180 vs) W := fun _ _ => by rfl
theorem cf181 : ∀ (vs : Array Value) (W : World), (callFunc 181 vs).run Tryz.prog W = .ok (.enter 181 vs) W := fun _ _ => by rfl
theorem cf182 : ∀ (vs : Array Value) (W : World), (callFunc 182 vs).run Tryz.prog W = .ok (.enter 182 vs) W := fun _ _ => by rfl
theorem cf183 : ∀ (vs : Array Value) (W : World), (callFunc 183 vs).run Tryz.prog W = .ok (.enter 183 vs) W := fun _ _ => by rfl
theorem cf184 : ∀ (vs : Array Value) (W : World), (callFunc 184 vs).run Tryz.prog W = .ok (.enter 184 vs) W := fun _ _ => by rfl
theorem cf185 : ∀ (vs : Array Value) (W : World), (callFunc 185 vs).run Tryz.prog W = .ok (.enter 185 vs) W := fun _ _ => by rfl
theorem cf186 : ∀ (vs : Array Value) (W : World), (callFunc 186 vs).run Tryz.prog W = .ok (.enter 186 vs) W := fun _ _ => by rfl
theorem cf187 : ∀ (vs : Array Value) (W : World), (callFunc 187 vs).run Tryz.prog W = .ok (.enter 187 vs) W := fun _ _ => by rfl
theorem cf188 : ∀ (vs : Array Value) (W : World), (callFunc 188 vs).run Tryz.prog W = .ok (.enter 188 vs) W := fun _ _ => by rfl
theorem cf189 : ∀ (vs : Array Value) (W : World), (callFunc 189 vs).run Tryz.prog W = .ok (.enter 189 vs) W := fun _ _ => by rfl
theorem cf190 : ∀ (vs : Array Value) (W : World), (callFunc 190 vs).run Tryz.prog W = .ok (.enter 190 vs) W := fun _ _ => by rfl
theorem so273 : StOk Tryz.prog 273 (.agg #[.int .i64 0, .int .i64 0, .int .i64 0]) [(0, 1), (1, 1), (2, 1)] := ⟨_, U273, zv273, by kernel_rfl, by kernel_rfl⟩
end Go.Proofs.YtnlpojjfkgnhhaaGreatDoor
