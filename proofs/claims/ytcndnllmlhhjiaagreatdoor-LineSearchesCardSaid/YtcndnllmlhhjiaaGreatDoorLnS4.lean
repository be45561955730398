/- The texts that the law LineSearches rests on, part 4: InsertIt, AmStockB, StockLaw, StockSums0, SessPlain, AmSessA, RecSe, CloneSe, InsertSe, AmSessB, SessPut, AmSessC, SessLaw, BasketPlain, BasketLawP, BasketLawP2, AmStockC, AmBask. -/
import Derived.Test.YtcndnllmlhhjiaaGreatDoorLnS3
import Derived.Lib.Overlaps
import Derived.Lib.AppendZerosOnto
import Derived.Lib.SliceRun
import Derived.Deep.RegionLaw
import Derived.Outline
open Go.Proofs.Tryz renaming underlying3 → U3, underlying9 → U9, underlying22 → U22, underlying23 → U23, underlying75 → U75, underlying82 → U82, underlying108 → U108, underlying127 → U127, underlying240 → U240
set_option linter.unusedVariables false
set_option linter.unusedSimpArgs false
set_option maxRecDepth 100000
set_option maxHeartbeats 1000000
namespace Go.Proofs.YtcndnllmlhhjiaaGreatDoor.Stk
open Go.ChangeShapes Go.WideShapes Go.ChangeAt Go.RowKit
theorem copy_run_eq {P : Program} (w : World) {o : Oper} {a : Act} {K : Act → World → Prop} {Q : Exit → Act → World → Prop} (d s : Operand) (t t' : TypeId)
   (ho : o.op = .call { callee := .builtin .copy, args := #[d, s], argTypes := #[t, t'] }) (v u : Value) (hd : a.eval d = v) (hs : a.eval s = u) {v' : Value} {w' : World}
   (hr : (Builtin.copy_ #[t, t'] o.type #[v, u]).run P w = .ok v' w') (h : K (a.put o.dst v') w') : o.wp P a w K Q := by
 unfold Oper.wp execOp
 simp only [ho, resolve, invoke, builtin, Sem.run_bind, Sem.run_pure, Result.andThen_ok, List.map_toArray, List.map_cons, List.map_nil, hd, hs, hr]
 exact h
theorem wpList_copy_eq {P : Program} (w : World) {ops : Array Oper} {rest : List Oper} {o : Oper} {a : Act} {Q : Exit → Act → World → Prop} (hgd : o.guard = none) (d s : Operand) (t t' : TypeId)
   (ho : o.op = .call { callee := .builtin .copy, args := #[d, s], argTypes := #[t, t'] }) (v u : Value) (hd : a.eval d = v) (hs : a.eval s = u) {v' : Value} {w' : World}
   (hr : (Builtin.copy_ #[t, t'] o.type #[v, u]).run P w = .ok v' w') (h : wpList P ops Q rest (a.put o.dst v') w') : wpList P ops Q (o :: rest) a w :=
 wpList_plain hgd fun _ hK => copy_run_eq w d s t t' ho v u hd hs hr (hK _ _ h)
theorem wpList_append_eq {P : Program} (w : World) {ops : Array Oper} {rest : List Oper} {o : Oper} {a : Act} {Q : Exit → Act → World → Prop} (hgd : o.guard = none) (d s : Operand) (t t' : TypeId)
   (ho : o.op = .call { callee := .builtin .append, args := #[d, s], argTypes := #[t, t'] }) (v u : Value) (hd : a.eval d = v) (hs : a.eval s = u) {v' : Value} {w' : World}
   (hr : (Builtin.append_ #[t, t'] o.type #[v, u]).run P w = .ok v' w') (h : wpList P ops Q rest (a.put o.dst v') w') : wpList P ops Q (o :: rest) a w := by
 refine wpList_plain hgd fun _ hK => ?_
 unfold Oper.wp execOp
 simp only [ho, resolve, invoke, builtin, Sem.run_bind, Sem.run_pure, Result.andThen_ok, List.map_toArray, List.map_cons, List.map_nil, hd, hs, hr]
 exact hK _ _ h
theorem run_copy_row {P : Program} (w : World) (dT sT ty elem : TypeId) (sz b o dLen dCap : Nat) (cur : Array Value) (T : TypeId) (a : Addr) (sLen sCap : Nat) (cs : List Value) (q : Nat)
   (hu : P.underlying dT = some (.slice elem)) (hs : Sz P elem sz) (hq : Nat.min sLen dLen = q) (hn : cs.length = q * sz) (hb : w.heap[b]? = some (.cells cur T (0, 0)))
   (hsrc : ∀ j v, cs[j]? = some v → w.cell? (a.add j) = some v) (hfit : o + cs.length ≤ cur.size) (h1 : ∀ v ∈ cs, v.oneCell' = true) :
   (Builtin.copy_ #[dT, sT] ty #[.slice (some ⟨b, o, none⟩) dLen dCap, .slice (some a) sLen sCap]).run P w = .ok (goInt q) (w.setRow b (cur.toList.take o ++ cs ++ cur.toList.drop (o + cs.length)).toArray) := by
 subst hq
 have hf := run_firstCells_some (P := P) w sz (Nat.min sLen dLen) a sLen sCap cs hn hsrc
 have hst := run_storeCells_at P b o T cs 0 cur w hb (by simpa using hfit) h1
 rw [Nat.add_zero] at hst
 simp [Builtin.copy_, run_underlying hu, Builtin.lenOf, hs.run, hf, hst]
theorem rowL {w : World} {b : Nat} {cur : Array Value} {T : TypeId} (h : w.heap[b]? = some (.cells cur T (0, 0))) (j : Nat) : w.cell? ⟨b, j, none⟩ = cur[j]? := by simp [World.cell?, h]
set_option maxHeartbeats 4000000 in
theorem insertIt_end (w : World) (v v2 : Value) (n : Nat) (us X : List Value) (hown : w.ownsRow 0 108 4 v n us) (ho2 : w.ownsRow 0 108 4 v2 1 X) (h1X : ∀ u ∈ X, u.oneCell' = true) (hn : n + 1 ≤ 1000000) :
   Calls Tryz.prog 176 #[v, .int .i64 n, v2] w fun e w' => ∃ v', e = .returned v' ∧ w'.ownsRow 0 108 4 v' (n + 1) (us ++ X) ∧ w.grownBy w' v.ownBlock ∧ (v'.ownBlock = v.ownBlock ∨ v'.ownBlock = some w.heap.size) := by
 obtain ⟨i0, hi, hz0, hz1, hz2⟩ : ∃ i0, Tryz.prog.info? 108 = some i0 ∧ i0.zero = some (.agg #[.int .i64 0, .int .i64 0, .int .i64 0, .int .i64 0]) ∧ i0.size = 4 ∧ i0.bytes = 32 := by
   have hT : Ti Tryz.prog 108 (.agg #[.int .i64 0, .int .i64 0, .int .i64 0, .int .i64 0]) 4 32 := by unfold Ti; kernel_rfl
   unfold Ti at hT
   cases hi : Tryz.prog.info? 108 with
   | none => rw [hi] at hT; cases hT
   | some i => rw [hi] at hT; simp at hT; exact ⟨i, rfl, hT⟩
 rcases ho2.2 with ⟨_, h0⟩ | ⟨vb, vc, vcur, rfl, _, hvg, hvnc, hvcm, hvcs, hvt⟩
 · omega
 have hXl : X.length = 1 * 4 := ho2.1
 have hXc : ∀ j u, X[j]? = some u → w.cell? ((⟨vb, 0, none⟩ : Addr).add j) = some u := ho2.cells rfl
 have HOWN := Lib.hid hown
 have HV : ∃ sa sc, v = .slice sa n sc ∧ n ≤ sc ∧ sc ≤ maxLen := by
   rcases hown.2 with ⟨rfl, rfl⟩ | ⟨g, cap, cur, rfl, _, _, h1, h2, _⟩
   · exact ⟨none, 0, rfl, Nat.le_refl _, Nat.zero_le _⟩
   · exact ⟨_, cap, rfl, h1, h2⟩
 obtain ⟨sa, sc, rfl, hsc, hscm⟩ := HV
 unfold maxLen at hscm
 have H2 := Lib.hid (And.intro hXl hXc)
 have H3 := Lib.hid h1X
 clear hown ho2 hvg hvt hXl hXc h1X
 by_cases hcn : sc = n
 · obtain rfl : n = sc := hcn.symm
   go_enter Tryz.func176, Tryz.ntmps176
   go_wp2_with (at_builtin; refine wpList_append_own_at _ rfl _ _ 22 rfl 0 108 i0 (.agg #[.int .i64 0, .int .i64 0, .int .i64 0, .int .i64 0]) 4 32 U22 hi hz0 hz1 hz2 rfl (by decide) _ n us rfl HOWN.out ⟨vb, 0, none⟩ 1 vc X rfl H2.out.1 H2.out.2 H3.out ?c3 ?c4 (Nat.zero_le _) ?_)
   case c3 => unfold maxLen; omega
   case c4 => omega
   intro v' w' hown' hgrow _ hblk
   have HF := Lib.hid (And.intro hown' (And.intro hgrow hblk))
   clear hown' hgrow hblk
   go_wp2_with fail
   go_ret
   exact ⟨_, rfl, HF.out.1, HF.out.2.1, HF.out.2.2⟩
 · have hcn' : ¬ n = sc := fun e => hcn e.symm
   go_enter Tryz.func176, Tryz.ntmps176
   go_wp2_with (at_builtin; refine wpList_append_own_at _ rfl _ _ 22 rfl 0 108 i0 (.agg #[.int .i64 0, .int .i64 0, .int .i64 0, .int .i64 0]) 4 32 U22 hi hz0 hz1 hz2 rfl (by decide) _ n us rfl HOWN.out ⟨vb, 0, none⟩ 1 vc X rfl H2.out.1 H2.out.2 H3.out ?c3 ?c4 (Nat.zero_le _) ?_)
   case c3 => unfold maxLen; omega
   case c4 => omega
   intro v' w' hown' hgrow _ hblk
   have HF := Lib.hid (And.intro hown' (And.intro hgrow hblk))
   clear hown' hgrow hblk
   go_wp2_with fail
   go_ret
   exact ⟨_, rfl, HF.out.1, HF.out.2.1, HF.out.2.2⟩
def midRow (cur : List Value) (X : List Value) (a n1 z : Nat) : List Value :=
 let R1 := cur.take (a + z) ++ (cur.drop a).take (n1 - a) ++ cur.drop (a + z + (n1 - a))
 R1.take a ++ X ++ R1.drop (a + z)
theorem midRow_take (cur X : List Value) (a n1 z : Nat) (ha : a ≤ n1) (hX : X.length = z) (hc : n1 + z ≤ cur.length) : (midRow cur X a n1 z).take (n1 + z) = cur.take a ++ X ++ (cur.take n1).drop a ∧ (midRow cur X a n1 z).length = cur.length := by
 unfold midRow
 simp only
 have e1 : (cur.take (a + z) ++ (cur.drop a).take (n1 - a) ++ cur.drop (a + z + (n1 - a))).take a = cur.take a := by
   rw [List.append_assoc, List.take_append_of_le_length (by simp; omega), List.take_take]; congr 1; omega
 have e2 : (cur.take (a + z) ++ (cur.drop a).take (n1 - a) ++ cur.drop (a + z + (n1 - a))).drop (a + z) = (cur.drop a).take (n1 - a) ++ cur.drop (a + z + (n1 - a)) := by
   rw [List.append_assoc, List.drop_append_of_le_length (by simp; omega), List.drop_eq_nil_of_le (by simp; omega), List.nil_append]
 rw [e1, e2]
 constructor
 · rw [← List.append_assoc, List.take_append_of_le_length (by simp; omega), List.take_of_length_le (by simp; omega), List.drop_take]
 · simp; omega
set_option maxHeartbeats 8000000 in
theorem insertIt_shift (w : World) (b n c k : Nat) (cur : Array Value) (vb vc : Nat) (vcur : Array Value) (X : List Value) (hb : w.heap[b]? = some (.cells cur 108 (0, 0))) (hcur : cur.size = c * 4) (hk : k < n) (hroom : n + 1 ≤ c) (hc63 : c ≤ 9223372036854775807)
   (hv : w.heap[vb]? = some (.cells vcur 108 (0, 0))) (hne : vb ≠ b) (hX : X.length = 4) (hXc : ∀ (j : Nat) (u : Value), X[j]? = some u → vcur[j]? = some u) (h1X : ∀ u ∈ X, u.oneCell' = true) (h1c : ∀ u ∈ cur.toList.take (n * 4), u.oneCell' = true) (hc0 : 0 < vcur.size) :
   Calls Tryz.prog 176 #[.slice (some ⟨b, 0, none⟩) n c, .int .i64 k, .slice (some ⟨vb, 0, none⟩) 1 vc] w fun e w' => e = .returned (.slice (some ⟨b, 0, none⟩) (n + 1) c) ∧ w'.heap[b]? = some (.cells (midRow cur.toList X (k * 4) (n * 4) 4).toArray 108 (0, 0)) ∧ w.grownBy w' (some b) := by
 have hov : ∀ o lb cb, (callFunc 187 #[.slice (some ⟨vb, 0, none⟩) 1 vc, .slice (some ⟨b, o, none⟩) lb cb]).run Tryz.prog w = .ok (.value (.bool false)) w := fun o lb cb => by
   rw [run_callFunc_extern Tryz.func187 (by kernel_rfl) (by kernel_rfl) (by kernel_rfl) (e := Extern.SlicesOverlaps.overlaps #[22, 22] #[4]) (by kernel_rfl),
     Lib.run_overlaps_apart w 22 4 108 U22 4 (fun w => Sz.run (by unfold Sz; kernel_rfl) w) ⟨vb, 0, none⟩ ⟨b, o, none⟩ 1 vc lb cb hne 108 108 vcur.size cur.size (by simp [World.shape?, hv]) (by simp [World.shape?, hb]) (by omega) (by simp [World.frozen?, hv]) (by simp [World.frozen?, hv])]
   rfl
 have hsz : Sz Tryz.prog 108 4 := by unfold Sz; kernel_rfl
 have hz2 : ((k : Int) == (n : Int)) = false := by simp; omega
 have hz3 : decide ((c : Int) < (n : Int) + 1) = false := by simp; omega
 have hb4 : ¬ (c = k) := by omega
 have hb2 : ¬ (c = k + 1) := by omega
 have hkc : k ≤ c := by omega
 have hk1 : IntKind.i64.wrap ((k : Int) + 1) = (k : Int) + 1 := IntWalk.i64_in _ (by omega)
 have hk2 : (0 : Int) ≤ (k : Int) + 1 := by omega
 have hk3 : ((k : Int) + 1).toNat = k + 1 := by omega
 have hk4 : (k : Int) + 1 ≤ (n : Int) + 1 := by omega
 have hk5 : (k : Int) ≤ (n : Int) + 1 := by omega
 have hk6 : (n : Int) + 1 ≤ (c : Int) := by omega
 have hd : ((cur.toList.drop (k * 4)).take (n * 4 - k * 4)).length = (n - k) * 4 := by simp [hcur]; omega
 have HB := Lib.hid hb
 have HV := Lib.hid hv
 have H1 := Lib.hid h1c
 have HX := Lib.hid hXc
 clear hb hv h1c hXc
 go_enter Tryz.func176, Tryz.ntmps176
 go_wp2_with (simp only [hov])
 (apply rg_region_tail 8 (by kernel_rfl) (by kernel_rfl) (by kernel_rfl); intro env)
 (apply rg_det rfl; (intro W K hW _ hK; obtain ⟨hc, hf⟩ := bcell hW; go_simp; first | (rw [IntWalk.i64_in]; (exact hK _ (Below.refl _ _)); omega) | exact hK _ (Below.refl _ _)); rfl)
 repeat (apply rg_det rfl; (intro W K hW _ hK; obtain ⟨hc, hf⟩ := bcell hW; go_simp; first | (rw [IntWalk.i64_in]; (exact hK _ (Below.refl _ _)); omega) | exact hK _ (Below.refl _ _)); rfl)
 (apply rg_tail; rfl; (simp only [List.drop_succ_cons, List.drop_zero]; rfl); intro W hW hF)
 have hWb : W.heap[b]? = some (.cells cur 108 (0, 0)) := (hW.block b (Array.getElem?_eq_some_iff.1 HB.out).1).trans HB.out
 have hWv : W.heap[vb]? = some (.cells vcur 108 (0, 0)) := (hW.block vb (Array.getElem?_eq_some_iff.1 HV.out).1).trans HV.out
 have hcp1 := run_copy_row (P := Tryz.prog) W 22 22 3 108 4 b ((k + 1) * 4) (n - k) (c - (k + 1)) cur 108 ⟨b, k * 4, none⟩ (n + 1 - k) (c - k) ((cur.toList.drop (k * 4)).take (n * 4 - k * 4)) (n - k) U22 hsz (by simp only [Nat.min_def]; split <;> omega) hd hWb
   (fun j u hj => by
     rw [aadd, rowL hWb]
     rw [List.getElem?_take] at hj
     split at hj
     · rw [List.getElem?_drop, Array.getElem?_toList] at hj; exact hj
     · cases hj) (by rw [hd, hcur]; omega) (fun u hu => H1.out u (by
     obtain ⟨q, hq, rfl⟩ := List.mem_iff_getElem.1 hu
     simp only [List.getElem_take, List.getElem_drop]
     rw [hd] at hq
     refine List.mem_iff_getElem.2 ⟨k * 4 + q, by simp [hcur]; omega, by simp⟩))
 refine wpList_copy_eq W rfl _ _ 22 22 rfl _ _ rfl rfl hcp1 ?_
 have hgr : w.grownBy W (some b) := ⟨hW.os, hW.tape, hW.output, hW.size, fun q hq _ => hW.block q hq⟩
 have hW1b := setRow_heap W b cur (cur.toList.take ((k + 1) * 4) ++ (cur.toList.drop (k * 4)).take (n * 4 - k * 4) ++ cur.toList.drop ((k + 1) * 4 + ((cur.toList.drop (k * 4)).take (n * 4 - k * 4)).length)).toArray 108 (0, 0) hWb
 have hW1v := (setRow_other W b vb (cur.toList.take ((k + 1) * 4) ++ (cur.toList.drop (k * 4)).take (n * 4 - k * 4) ++ cur.toList.drop ((k + 1) * 4 + ((cur.toList.drop (k * 4)).take (n * 4 - k * 4)).length)).toArray hne).trans hWv
 have hgr1 : w.grownBy (W.setRow b (cur.toList.take ((k + 1) * 4) ++ (cur.toList.drop (k * 4)).take (n * 4 - k * 4) ++ cur.toList.drop ((k + 1) * 4 + ((cur.toList.drop (k * 4)).take (n * 4 - k * 4)).length)).toArray) (some b) :=
   ⟨by simp [hgr.os], by simp [hgr.tape], by simp [hgr.output], by simpa using hgr.size, fun q hq hne2 => (setRow_other W b q _ (fun e => hne2 (by rw [e]))).trans (hgr.block q hq hne2)⟩
 have hR1 : (cur.toList.take ((k + 1) * 4) ++ (cur.toList.drop (k * 4)).take (n * 4 - k * 4) ++ cur.toList.drop ((k + 1) * 4 + ((cur.toList.drop (k * 4)).take (n * 4 - k * 4)).length)) = (cur.toList.take (k * 4 + 4) ++ (cur.toList.drop (k * 4)).take (n * 4 - k * 4) ++ cur.toList.drop (k * 4 + 4 + (n * 4 - k * 4))) := by
   rw [hd, Nat.add_mul, Nat.one_mul, Nat.sub_mul]
 rw [hR1] at hW1b hgr1 hW1v ⊢
 have hMid : midRow cur.toList X (k * 4) (n * 4) 4 = (cur.toList.take (k * 4 + 4) ++ (cur.toList.drop (k * 4)).take (n * 4 - k * 4) ++ cur.toList.drop (k * 4 + 4 + (n * 4 - k * 4))).take (k * 4) ++ X ++ (cur.toList.take (k * 4 + 4) ++ (cur.toList.drop (k * 4)).take (n * 4 - k * 4) ++ cur.toList.drop (k * 4 + 4 + (n * 4 - k * 4))).drop (k * 4 + 4) := rfl
 have hRl : (cur.toList.take (k * 4 + 4) ++ (cur.toList.drop (k * 4)).take (n * 4 - k * 4) ++ cur.toList.drop (k * 4 + 4 + (n * 4 - k * 4))).length = c * 4 := by simp [hcur]; omega
 have HM := Lib.hid hMid
 clear hMid
 generalize cur.toList.take (k * 4 + 4) ++ (cur.toList.drop (k * 4)).take (n * 4 - k * 4) ++ cur.toList.drop (k * 4 + 4 + (n * 4 - k * 4)) = R1 at *
 generalize W.setRow b R1.toArray = W1 at *
 clear hcp1 hWb hWv hW hF hgr hR1
 have hcp2 := run_copy_row (P := Tryz.prog) W1 22 22 3 108 4 b (k * 4) (n + 1 - k) (c - k) R1.toArray 108 ⟨vb, 0, none⟩ 1 vc X 1 U22 hsz (by simp only [Nat.min_def]; split <;> omega) (by omega) hW1b
   (fun j u hj => by rw [aadd, Nat.zero_add, rowL hW1v]; exact HX.out j u hj) (by simp [hRl, hX]; omega) h1X
 have hfin := setRow_heap W1 b R1.toArray (R1.take (k * 4) ++ X ++ R1.drop (k * 4 + 4)).toArray 108 (0, 0) hW1b
 have hgr2 : w.grownBy (W1.setRow b (R1.take (k * 4) ++ X ++ R1.drop (k * 4 + 4)).toArray) (some b) :=
   ⟨by simp [hgr1.os], by simp [hgr1.tape], by simp [hgr1.output], by simpa using hgr1.size, fun q hq hne2 => (setRow_other W1 b q _ (fun e => hne2 (by rw [e]))).trans (hgr1.block q hq hne2)⟩
 rw [hX] at hcp2
 have HFIN := Lib.hid (And.intro hfin hgr2)
 have HCP := Lib.hid hcp2
 clear hfin hgr2 hcp2 hgr1 hW1b hW1v
 go_wp2_with (refine wpList_copy_eq W1 rfl _ _ 22 22 rfl _ _ rfl rfl HCP.out ?_)
 go_ret
 have e := HFIN.out
 simp only [List.append_assoc] at e
 exact ⟨rfl, by rw [HM.out]; simp only [List.append_assoc]; exact e.1, e.2⟩
set_option maxHeartbeats 8000000 in
theorem insertIt_grow (w : World) (b n c k : Nat) (cur : Array Value) (vb vc : Nat) (vcur : Array Value) (X : List Value) (hb : w.heap[b]? = some (.cells cur 108 (0, 0))) (hcur : cur.size = c * 4) (hk : k < n) (hnc : n ≤ c) (hroom : c < n + 1) (hn : n + 1 ≤ 1000000)
   (hv : w.heap[vb]? = some (.cells vcur 108 (0, 0))) (hX : X.length = 4) (hXc : ∀ (j : Nat) (u : Value), X[j]? = some u → vcur[j]? = some u) (h1X : ∀ u ∈ X, u.oneCell' = true) (h1c : ∀ u ∈ cur.toList.take (n * 4), u.oneCell' = true) :
   Calls Tryz.prog 176 #[.slice (some ⟨b, 0, none⟩) n c, .int .i64 k, .slice (some ⟨vb, 0, none⟩) 1 vc] w fun e w' => ∃ (C : Nat) (row : List Value), e = .returned (.slice (some ⟨w.heap.size, 0, none⟩) (n + 1) C) ∧ n + 1 ≤ C ∧ C ≤ maxLen ∧ w'.heap[w.heap.size]? = some (.cells row.toArray 108 (0, 0)) ∧ row.length = C * 4 ∧ row.take ((n + 1) * 4) = cur.toList.take (k * 4) ++ X ++ (cur.toList.take (n * 4)).drop (k * 4) ∧ w.grownBy w' none := by
 obtain rfl : n = c := by omega
 obtain ⟨i0, hi, hz0, hz1, hz2⟩ : ∃ i0, Tryz.prog.info? 108 = some i0 ∧ i0.zero = some (.agg #[.int .i64 0, .int .i64 0, .int .i64 0, .int .i64 0]) ∧ i0.size = 4 ∧ i0.bytes = 32 := by
   have hT : Ti Tryz.prog 108 (.agg #[.int .i64 0, .int .i64 0, .int .i64 0, .int .i64 0]) 4 32 := by unfold Ti; kernel_rfl
   unfold Ti at hT
   cases hi : Tryz.prog.info? 108 with
   | none => rw [hi] at hT; cases hT
   | some i => rw [hi] at hT; simp at hT; exact ⟨i, rfl, hT⟩
 have hsz : Sz Tryz.prog 108 4 := by unfold Sz; kernel_rfl
 have hbw := (Array.getElem?_eq_some_iff.1 hb).1
 have hvw := (Array.getElem?_eq_some_iff.1 hv).1
 have hold : (Builtin.firstCells i0.size k (.slice (some ⟨b, 0, none⟩) k n)).run Tryz.prog w.drew = .ok (cur.toList.take (k * 4)).toArray w.drew := by
   rw [hz1]
   exact run_firstCells_some (P := Tryz.prog) w.drew 4 k ⟨b, 0, none⟩ k n (cur.toList.take (k * 4)) (by rw [List.length_take, Array.length_toList, hcur]; omega) (fun j v hj => by
     rw [aadd, Nat.zero_add]
     show w.cell? _ = _
     rw [rowL hb]
     rw [List.getElem?_take] at hj
     split at hj
     · simpa using hj
     · cases hj)
 have hrz : ∀ ty, (Builtin.append_ #[22, 3] ty #[.slice (some ⟨b, 0, none⟩) k n, .int .i64 ((n : Int) + 1 - (k : Int))]).run Tryz.prog w =
     .ok (.slice (some ⟨w.heap.size, 0, none⟩) (n + 1) (grownCap w (n + 1) n 108)) (w.drew.alloc (.cells ((cur.toList.take (k * 4)).toArray ++ Builtin.zeroCells (Value.cells (.agg #[.int .i64 0, .int .i64 0, .int .i64 0, .int .i64 0])) (n + 1 - k) ++ Builtin.zeroCells (Value.cells (.agg #[.int .i64 0, .int .i64 0, .int .i64 0, .int .i64 0])) (grownCap w (n + 1) n 108 - (n + 1))) 108)) := fun ty => by
   have h := Lib.run_append_grow_zeros w 22 3 ty 108 i0 _ .i64 .i64 U22 U3 hi hz0 (some ⟨b, 0, none⟩) k n (cur.toList.take (k * 4)) hold (n + 1 - k) (by omega) (by omega) (by omega) (by omega) (by rw [hz2]; omega) (by rw [hz2, show k + (n + 1 - k) = n + 1 by omega]; exact growslice_fits (by omega) (by omega))
   rw [show k + (n + 1 - k) = n + 1 by omega, show ((n + 1 - k : Nat) : Int) = (n : Int) + 1 - (k : Int) by omega] at h
   exact h
 have hC1 : n + 1 ≤ grownCap w (n + 1) n 108 := grownCap_ge w _ _ _
 have hC2 : grownCap w (n + 1) n 108 ≤ maxLen := grownCap_le_maxLen w (n + 1) n 108 (by unfold maxLen; omega)
 generalize grownCap w (n + 1) n 108 = C at *
 have hRs : ((cur.toList.take (k * 4)).toArray ++ Builtin.zeroCells (Value.cells (.agg #[.int .i64 0, .int .i64 0, .int .i64 0, .int .i64 0])) (n + 1 - k) ++ Builtin.zeroCells (Value.cells (.agg #[.int .i64 0, .int .i64 0, .int .i64 0, .int .i64 0])) (C - (n + 1))).size = C * 4 := by
   simp [Builtin.zeroCells, Value.cells, hcur]; omega
 have hRt : ((cur.toList.take (k * 4)).toArray ++ Builtin.zeroCells (Value.cells (.agg #[.int .i64 0, .int .i64 0, .int .i64 0, .int .i64 0])) (n + 1 - k) ++ Builtin.zeroCells (Value.cells (.agg #[.int .i64 0, .int .i64 0, .int .i64 0, .int .i64 0])) (C - (n + 1))).toList.take (k * 4) = cur.toList.take (k * 4) := by
   simp only [Array.toList_append, List.append_assoc]
   rw [List.take_append_of_le_length (by simp [hcur]; omega), List.take_of_length_le (by simp; omega)]
 generalize (cur.toList.take (k * 4)).toArray ++ Builtin.zeroCells (Value.cells (.agg #[.int .i64 0, .int .i64 0, .int .i64 0, .int .i64 0])) (n + 1 - k) ++ Builtin.zeroCells (Value.cells (.agg #[.int .i64 0, .int .i64 0, .int .i64 0, .int .i64 0])) (C - (n + 1)) = ROW at *
 have hk4 : ((k : Int) == (n : Int)) = false := by simp; omega
 have hk5 : decide ((n : Int) < (n : Int) + 1) = true := by simp; omega
 have hk6 : ¬ (n = k) := by omega
 have hk7 : k ≤ n := by omega
 have hk8 : ¬ (C = k) := by omega
 have hk9 : ¬ (C = k + 1) := by omega
 obtain ⟨W1, hW1⟩ : ∃ W1, W1 = w.drew.alloc (.cells ROW 108) := ⟨_, rfl⟩
 rw [← hW1] at hrz
 have hW1n : W1.heap[w.heap.size]? = some (.cells ROW 108 (0, 0)) := by rw [hW1]; exact heap_alloc_new w.drew _
 have hW1o : ∀ q, q < w.heap.size → W1.heap[q]? = w.heap[q]? := fun q hq => by rw [hW1]; exact heap_alloc_old w.drew _ hq
 have hg1 : w.grownBy W1 none := by rw [hW1]; exact ⟨rfl, rfl, rfl, by simp, fun q hq _ => heap_alloc_old w.drew _ hq⟩
 have hs1 : W1.heap.size = w.heap.size + 1 := by rw [hW1]; simp
 have hcpA := fun ty => run_copy_row (P := Tryz.prog) W1 22 22 ty 108 4 w.heap.size (k * 4) (n + 1 - k) (C - k) ROW 108 ⟨vb, 0, none⟩ 1 vc X 1 U22 hsz (by simp only [Nat.min_def]; split <;> omega) (by omega) hW1n
   (fun j u hj => by rw [aadd, Nat.zero_add, rowL ((hW1o vb hvw).trans hv)]; exact hXc j u hj) (by rw [hRs, hX]; omega) h1X
 rw [hX] at hcpA
 have hRl : ROW.toList.length = C * 4 := by simpa using hRs
 obtain ⟨R1, hR1⟩ : ∃ R1, R1 = ROW.toList.take (k * 4) ++ X ++ ROW.toList.drop (k * 4 + 4) := ⟨_, rfl⟩
 rw [← hR1] at hcpA
 have hR1l : R1.length = C * 4 := by rw [hR1]; simp [hRs, hX]; omega
 have hR1t : R1.take (k * 4 + 4) = cur.toList.take (k * 4) ++ X := by
   rw [hR1, List.take_append_of_le_length (by simp [hRs, hX]; omega), List.take_of_length_le (by simp [hX]; omega), hRt]
 obtain ⟨W2, hW2⟩ : ∃ W2, W2 = W1.setRow w.heap.size R1.toArray := ⟨_, rfl⟩
 rw [← hW2] at hcpA
 have hW2n : W2.heap[w.heap.size]? = some (.cells R1.toArray 108 (0, 0)) := by rw [hW2]; exact setRow_heap W1 _ ROW _ 108 (0, 0) hW1n
 have hW2o : ∀ q, q < w.heap.size → W2.heap[q]? = w.heap[q]? := fun q hq => by rw [hW2]; exact (setRow_other W1 _ q _ (by omega)).trans (hW1o q hq)
 have hg2 : w.grownBy W2 none := by rw [hW2]; exact ⟨by simp [hg1.os], by simp [hg1.tape], by simp [hg1.output], by simpa using hg1.size, fun q hq h => (setRow_other W1 _ q _ (by omega)).trans (hg1.block q hq h)⟩
 have hs2 : W2.heap.size = w.heap.size + 1 := by rw [hW2]; simpa using hs1
 have hd : ((cur.toList.drop (k * 4)).take (n * 4 - k * 4)).length = (n - k) * 4 := by simp [hcur]; omega
 have HRZ := Lib.hid hrz
 have HCPA := Lib.hid hcpA
 have HB := Lib.hid (And.intro hb hv)
 have H1 := Lib.hid h1c
 have HC := Lib.hid (And.intro hC1 hC2)
 have HR := Lib.hid (And.intro hR1l hR1t)
 have HW := Lib.hid (And.intro hW2n (And.intro hW2o hg2))
 have HS2 := Lib.hid hs2
 have HD := Lib.hid hd
 have HCUR := Lib.hid hcur
 have hCb : C ≤ 9223372036854775807 := by unfold maxLen at hC2; omega
 have hCk : k + 1 ≤ C := by omega
 have hCn : (n : Int) + 1 ≤ (C : Int) := by omega
 have hk1 : IntKind.i64.wrap ((k : Int) + 1) = (k : Int) + 1 := IntWalk.i64_in _ (by omega)
 have hk2 : (0 : Int) ≤ (k : Int) + 1 := by omega
 have hk3 : ((k : Int) + 1).toNat = k + 1 := by omega
 have hkb : (k : Int) + 1 ≤ (n : Int) + 1 := by omega
 have hkn : (k : Int) ≤ (n : Int) := by omega
 clear hb hv h1c hXc h1X hold hrz hC1 hC2 hRs hRt hi hz0 hz1 hz2 i0 hW1 hW1n hW1o hg1 hs1 hcpA hRl hR1 hR1l hR1t hW2 hW2n hW2o hg2 hs2 hd hcur ROW
 go_enter Tryz.func176, Tryz.ntmps176
 go_wp2_with (first | (refine wpList_append_eq w rfl _ _ 22 3 rfl _ _ rfl rfl (HRZ.out _) ?_) | (refine wpList_copy_eq W1 rfl _ _ 22 22 rfl _ _ rfl rfl (HCPA.out _) ?_))
 (apply rg_region_tail 8 (by kernel_rfl) (by kernel_rfl) (by kernel_rfl); intro env)
 repeat (apply rg_det rfl; (intro W K hW _ hK; obtain ⟨hc, hf⟩ := bcell hW; go_simp; first | (rw [IntWalk.i64_in]; (exact hK _ (Below.refl _ _)); omega) | exact hK _ (Below.refl _ _)); rfl)
 (apply rg_tail; rfl; (simp only [List.drop_succ_cons, List.drop_zero]; rfl); intro W hW hF)
 have hcur := HCUR.out
 have hd := HD.out
 have hWn : W.heap[w.heap.size]? = some (.cells R1.toArray 108 (0, 0)) := (hW.block _ (by rw [HS2.out]; omega)).trans HW.out.1
 have hWb : W.heap[b]? = some (.cells cur 108 (0, 0)) := (hW.block b (by rw [HS2.out]; omega)).trans ((HW.out.2.1 b hbw).trans HB.out.1)
 have hcpB := run_copy_row (P := Tryz.prog) W 22 22 3 108 4 w.heap.size ((k + 1) * 4) (n - k) (C - (k + 1)) R1.toArray 108 ⟨b, k * 4, none⟩ (n - k) (n - k) ((cur.toList.drop (k * 4)).take (n * 4 - k * 4)) (n - k) U22 hsz (by simp) hd hWn
   (fun j u hj => by
     rw [aadd, rowL hWb]
     rw [List.getElem?_take] at hj
     split at hj
     · rw [List.getElem?_drop, Array.getElem?_toList] at hj; exact hj
     · cases hj) (by have := HR.out.1; rw [hd]; simp [this]; omega) (fun u hu => H1.out u (by
     obtain ⟨q, hq, rfl⟩ := List.mem_iff_getElem.1 hu
     simp only [List.getElem_take, List.getElem_drop]
     rw [hd] at hq
     refine List.mem_iff_getElem.2 ⟨k * 4 + q, by simp [hcur]; omega, by simp⟩))
 rw [hd] at hcpB
 obtain ⟨R2, hR2⟩ : ∃ R2, R2 = R1.toArray.toList.take ((k + 1) * 4) ++ (cur.toList.drop (k * 4)).take (n * 4 - k * 4) ++ R1.toArray.toList.drop ((k + 1) * 4 + (n - k) * 4) := ⟨_, rfl⟩
 rw [← hR2] at hcpB
 have hfin := setRow_heap W w.heap.size R1.toArray R2.toArray 108 (0, 0) hWn
 have hgr : w.grownBy (W.setRow w.heap.size R2.toArray) none := by
   have h3 := HW.out.2.2
   exact ⟨by simp [hW.os, h3.os], by simp [hW.tape, h3.tape], by simp [hW.output, h3.output], by simpa using Nat.le_trans h3.size hW.size, fun q hq h => (setRow_other W _ q _ (by omega)).trans ((hW.block q (by rw [HS2.out]; omega)).trans (h3.block q hq h))⟩
 have hr2l : R2.length = C * 4 := by rw [hR2]; have := HR.out.1; simp [this, hcur]; omega
 have hr2t : R2.take ((n + 1) * 4) = cur.toList.take (k * 4) ++ X ++ (cur.toList.take (n * 4)).drop (k * 4) := by
   rw [hR2, List.toList_toArray, show (k + 1) * 4 = k * 4 + 4 by omega, HR.out.2, List.take_append_of_le_length (by simp [hcur, hX]; omega), List.take_of_length_le (by simp [hcur, hX]; omega), List.drop_take]
 have HF := Lib.hid (And.intro hfin (And.intro hgr (And.intro hr2l hr2t)))
 clear hfin hgr hr2l hr2t hR2 hWn hWb hW hF hd hcur
 refine wpList_copy_eq W rfl _ _ 22 22 rfl _ _ rfl rfl hcpB ?_
 clear hcpB
 go_wp2_with fail
 go_ret
 exact ⟨C, R2, rfl, HC.out.1, HC.out.2, HF.out.1, HF.out.2.2.1, HF.out.2.2.2, HF.out.2.1⟩
theorem flat_take {z : Nat} : ∀ (xs : List AV) (k : Nat), (∀ x, x ∈ xs → x.cells.length = z) → k ≤ xs.length → (xs.take k).flatMap AV.cells = (xs.flatMap AV.cells).take (k * z) ∧ (xs.drop k).flatMap AV.cells = (xs.flatMap AV.cells).drop (k * z) := by
 intro xs
 induction xs with
 | nil => intro k _ hk; simp
 | cons x xs ih =>
   intro k hz hk
   cases k with
   | zero => simp
   | succ k =>
     have hx := hz x List.mem_cons_self
     obtain ⟨h1, h2⟩ := ih k (fun y hy => hz y (List.mem_cons_of_mem _ hy)) (by simpa using hk)
     rw [List.take_succ_cons, List.drop_succ_cons, List.flatMap_cons, List.flatMap_cons, h1, h2]
     rw [show (k + 1) * z = x.cells.length + k * z by rw [hx, Nat.add_mul]; omega, List.take_length_add_append, List.drop_length_add_append]
     exact ⟨rfl, rfl⟩
theorem insRow_one {β : List Hd} {w : World} {us : List Value} {xs : List AV} (h4 : ∀ (j : Nat) (u : Value) (y : AV), us[j]? = some u → (xs.flatMap AV.cells)[j]? = some y → VRep β w u y) (hl : us.length = (xs.flatMap AV.cells).length) (ho : (xs.all fun x => x.cells.all AV.one) = true) : ∀ u ∈ us, u.oneCell' = true := by
 intro u hu
 obtain ⟨q, hq, rfl⟩ := List.mem_iff_getElem.1 hu
 have hq2 : q < (xs.flatMap AV.cells).length := by omega
 refine (h4 q _ _ (List.getElem?_eq_getElem hq) (List.getElem?_eq_getElem hq2)).one ?_
 obtain ⟨x, hx, hy⟩ := List.mem_flatMap.1 (List.getElem_mem hq2)
 exact List.all_eq_true.1 (List.all_eq_true.1 ho x hx) _ hy
theorem insertIt_lit (xs : List AV) (y : AV) (k : Nat) (hk : k ≤ xs.length) (hl : xs.length + 1 ≤ 1000000) (ho : (xs.all fun x => x.cells.all AV.one) = true) (hoy : y.cells.all AV.one = true) {H : List AO} (hyl : y.cells.all litOk = true) (hyz : y.cells.length = 4) {i g : Nat}
   {q : Int} (hq : q = (k : Int)) (hi : H[i]? = some (.row g 108 4 xs)):
   FnH Tryz.prog 176 [.own i g, .int .i64 q, .lit 1 108 (y.cells.map litV)] H (.own i (g + 1)) (H.set i (.row (g + 1) 108 4 (xs.take k ++ [y] ++ xs.drop k))) := by
 subst hq
 intro w β vs hH hv
 obtain ⟨hsz, hvr⟩ := hv
 obtain ⟨v, v1, v2, rfl⟩ : ∃ v v1 v2, vs = #[v, v1, v2] := by
   have h3 : vs.size = 3 := hsz
   exact ⟨vs[0], vs[1], vs[2], Array.ext (by simpa using h3) fun q h1 h2 => by
     have : q = 0 ∨ q = 1 ∨ q = 2 := by simp at h2; omega
     rcases this with rfl | rfl | rfl <;> rfl⟩
 obtain rfl := (hvr 1 v1 _ rfl rfl).int_inv
 obtain ⟨us, e1, e2, e3, e4⟩ := (hvr 0 v _ rfl rfl).own_at hH hi
 obtain ⟨b2, rfl, f1, fS, fh⟩ := (hvr 2 v2 _ rfl rfl).lit_inv
 have hy : y.cells.length = 4 := hyz
 obtain ⟨X, hXe⟩ : ∃ X, X = y.cells.map litV := ⟨_, rfl⟩
 rw [← hXe] at fh
 have f2 : w.ownsRow 0 108 4 (.slice (some ⟨b2, 0, none⟩) 1 1) 1 X := ⟨by rw [hXe, List.length_map, hy], .inr ⟨b2, 1, X.toArray, rfl, Nat.zero_le _, fh, Nat.le_refl _, by unfold maxLen; omega, by rw [hXe]; simp [hy], List.take_of_length_le (by rw [hXe]; simp [hy])⟩⟩
 have hlv : ∀ u : AV, litOk u = true → cAV (litV u) = u ∧ (litV u).oneCell' = true := by
   intro u hu
   cases u <;> first | exact ⟨rfl, rfl⟩ | cases hu
 have f4 : ∀ (q : Nat) (u : Value) (y' : AV), X[q]? = some u → y.cells[q]? = some y' → VRep β w u y' := by
   intro q u y' h1 h2
   rw [hXe, List.getElem?_map, h2] at h1
   cases h1
   have h3 := hlv y' (List.all_eq_true.1 hyl _ (List.mem_of_getElem? h2))
   have h4 := cAV_rep β w (litV y')
   rw [h3.1] at h4; exact h4
 have hul : us.length = (xs.flatMap AV.cells).length := by rw [e2.1, flat_len' xs e3]
 have hXl : X.length = 4 := by rw [hXe, List.length_map, hy]
 have h1us := insRow_one e4 hul ho
 have h1X : ∀ u ∈ X, u.oneCell' = true := by
   intro u hu
   rw [hXe] at hu
   obtain ⟨y', hy', rfl⟩ := List.mem_map.1 hu
   exact (hlv y' (List.all_eq_true.1 hyl _ hy')).2
 have hflat : (xs.take k ++ [y] ++ xs.drop k).flatMap AV.cells = (xs.flatMap AV.cells).take (k * 4) ++ y.cells ++ (xs.flatMap AV.cells).drop (k * 4) := by
   obtain ⟨a1, a2⟩ := flat_take xs k e3 hk
   rw [List.flatMap_append, List.flatMap_append, a1, a2]; simp
 have hzz : ∀ x, x ∈ xs.take k ++ [y] ++ xs.drop k → x.cells.length = 4 := by
   intro x hx
   simp only [List.mem_append, List.mem_singleton] at hx
   rcases hx with (hx | rfl) | hx
   · exact e3 x (List.mem_of_mem_take hx)
   · exact hy
   · exact e3 x (List.mem_of_mem_drop hx)
 have hlen : (xs.take k ++ [y] ++ xs.drop k).length = xs.length + 1 := by simp; omega
 have hkz : k * 4 ≤ us.length := by rw [e2.1]; omega
 have fin : ∀ (v' : Value) (w' : World), w'.ownsRow 0 108 4 v' (xs.length + 1) (us.take (k * 4) ++ X ++ us.drop (k * 4)) → w.grownBy w' v.ownBlock → (v'.ownBlock = v.ownBlock ∨ v'.ownBlock = some w.heap.size) →
     ∃ v β', Ending.returned v' = .returned v ∧ Ext β w β' w' ∧ HRel β' (H.set i (.row (g + 1) 108 4 (xs.take k ++ [y] ++ xs.drop k))) w' ∧ VRep β' w' v (.own i (g + 1)) := by
   intro v' w' q1 q2 q3
   have hlt := (List.getElem?_eq_some_iff.1 e1).1
   have hgrow := hH.grow e1 q2 q3 (o := .row (g + 1) 108 4 (xs.take k ++ [y] ++ xs.drop k)) (fun hx => ⟨rfl, _, by rw [hlen]; exact q1, hzz, fun q u y' p1 p2 => by
     refine VRep.ext hx ?_
     rw [hflat] at p2
     have hfl : (xs.flatMap AV.cells).length = us.length := hul.symm
     by_cases c1 : q < k * 4
     · rw [List.append_assoc, List.getElem?_append_left (by rw [List.length_take]; omega), List.getElem?_take_of_lt c1] at p1
       rw [List.append_assoc, List.getElem?_append_left (by rw [List.length_take]; omega), List.getElem?_take_of_lt c1] at p2
       exact e4 q u y' p1 p2
     · by_cases c2 : q < k * 4 + 4
       · rw [List.append_assoc, List.getElem?_append_right (by rw [List.length_take]; omega), List.length_take, Nat.min_eq_left hkz, List.getElem?_append_left (by rw [hXl]; omega)] at p1
         rw [List.append_assoc, List.getElem?_append_right (by rw [List.length_take]; omega), List.length_take, Nat.min_eq_left (by omega), List.getElem?_append_left (by rw [hy]; omega)] at p2
         exact f4 _ u y' p1 p2
       · rw [List.getElem?_append_right (by rw [List.length_append, List.length_take, hXl]; omega), List.getElem?_drop, List.length_append, List.length_take, hXl, Nat.min_eq_left hkz] at p1
         rw [List.getElem?_append_right (by rw [List.length_append, List.length_take, hy]; omega), List.getElem?_drop, List.length_append, List.length_take, hy, Nat.min_eq_left (by omega)] at p2
         exact e4 _ u y' p1 p2⟩)
   refine ⟨v', _, rfl, hgrow.1, hgrow.2, .own _ _ _ (by simpa using hlt) (fun u g' hb => ?_) (ownsRow_one q1)⟩
   rw [List.getElem?_set_self hlt] at hb
   cases hb
   exact ⟨Nat.le_refl _, fun _ => rfl⟩
 by_cases hkn : k = xs.length
 · subst hkn
   refine (insertIt_end w v _ xs.length us X e2 f2 h1X hl).mono ?_
   rintro e w' ⟨v', rfl, q1, q2, q3⟩
   have hull : us.length = xs.length * 4 := e2.1
   exact fin v' w' (by rw [List.take_of_length_le (by omega), List.drop_eq_nil_of_le (by omega), List.append_nil]; exact q1) q2 q3
 · rcases e2.2 with ⟨_, h0⟩ | ⟨b, cap, cur, hvv, _, hg, hnc, hcm, hcs, htk⟩
   · omega
   subst hvv
   obtain ⟨vb, rfl⟩ : ∃ vb, vb = b2 := ⟨_, rfl⟩
   have hg2 := fh
   have hnb : vb ≠ b := fun e => by subst e; exact fS _ (List.mem_of_getElem? e1) (opt_mem.2 rfl)
   have hXc : ∀ (j : Nat) (u : Value), X[j]? = some u → X.toArray[j]? = some u := fun j u h => by simpa using h
   have hc0 : 0 < X.toArray.size := by simp [hXl]
   have h1c : ∀ u ∈ cur.toList.take (xs.length * 4), u.oneCell' = true := by rw [htk]; exact h1us
   have hulz : us.length = xs.length * 4 := e2.1
   have hmid : cur.toList.take (k * 4) = us.take (k * 4) ∧ (cur.toList.take (xs.length * 4)).drop (k * 4) = us.drop (k * 4) := by
     constructor
     · rw [← htk, List.take_take]; congr 1; omega
     · rw [htk]
   by_cases hroom : xs.length + 1 ≤ cap
   · unfold maxLen at hcm
     refine (insertIt_shift w b xs.length cap k cur vb 1 X.toArray X hg hcs (by omega) hroom hcm hg2 hnb hXl hXc h1X h1c hc0).mono ?_
     rintro e w' ⟨rfl, q1, q2⟩
     have hcl : cur.toList.length = cap * 4 := by simpa using hcs
     obtain ⟨m1, m2⟩ := midRow_take cur.toList X (k * 4) (xs.length * 4) 4 (by omega) hXl (by rw [hcl]; omega)
     rw [hmid.1, hmid.2] at m1
     have hull : us.length = xs.length * 4 := hulz
     exact fin _ w' ⟨by simp [hXl]; omega, .inr ⟨b, cap, _, rfl, Nat.zero_le _, q1, hroom, by unfold maxLen; omega, by simp [m2, hcs], by rw [show (xs.length + 1) * 4 = xs.length * 4 + 4 by omega]; simpa using m1⟩⟩ q2 (.inl rfl)
   · refine (insertIt_grow w b xs.length cap k cur vb 1 X.toArray X hg hcs (by omega) hnc (by omega) hl hg2 hXl hXc h1X h1c).mono ?_
     rintro e w' ⟨C, row, rfl, q1, q2, q3, q4, q5, q6⟩
     rw [hmid.1, hmid.2] at q5
     have hull : us.length = xs.length * 4 := hulz
     exact fin _ w' ⟨by simp [hXl]; omega, .inr ⟨_, C, _, rfl, Nat.zero_le _, q3, q1, q2, by simp [q4], by simpa using q5⟩⟩ ⟨q6.os, q6.tape, q6.output, q6.size, fun q hq h => q6.block q hq (by simp)⟩ (.inr rfl)
end Go.Proofs.YtcndnllmlhhjiaaGreatDoor.Stk
namespace Go.Proofs.YtcndnllmlhhjiaaGreatDoor.Stk
open Go.RowKit
open StockP
theorem set_cells {z : Nat} {xs : List AV} {k : Nat} {X : AV} (h : ∀ x, x ∈ xs → x.cells.length = z) (hX : X.cells.length = z) : ∀ x, x ∈ xs.set k X → x.cells.length = z := by
 intro x hx
 rcases List.mem_or_eq_of_mem_set hx with hx | rfl
 · exact h x hx
 exact hX
theorem with_no {g : It → It × Int} {l : List It} {id q : Int} (h : askedB l q = true) (h2 : idx (fun x => x.id == id) l < 0) : withP g l id q = ([], 40) := by
 unfold withP; rw [if_pos h, dif_neg (idx_neg.1 h2)]
theorem with_bad {g : It → It × Int} {l : List It} {id q : Int} (h : askedB l q = true) (h2 : ¬ idx (fun x => x.id == id) l < 0) (h3 : ¬ (g (l.getD (idx (fun x => x.id == id) l).toNat default)).2 = 0) : withP g l id q = ([], (g (l.getD (idx (fun x => x.id == id) l).toNat default)).2) := by
 obtain ⟨p1, p2⟩ := idx_pos h2
 rw [p2, Int.toNat_natCast, It_idx p1] at h3 ⊢
 unfold withP; rw [if_pos h, dif_pos p1, if_neg h3]
theorem with_good {g : It → It × Int} {l : List It} {id q : Int} (h : askedB l q = true) (h2 : ¬ idx (fun x => x.id == id) l < 0) (h3 : (g (l.getD (idx (fun x => x.id == id) l).toNat default)).2 = 0) : withP g l id q = (l.set (idx (fun x => x.id == id) l).toNat (g (l.getD (idx (fun x => x.id == id) l).toNat default)).1, 0) := by
 obtain ⟨p1, p2⟩ := idx_pos h2
 rw [p2, Int.toNat_natCast, It_idx p1] at h3 ⊢
 unfold withP; rw [if_pos h, dif_pos p1, if_pos h3]
theorem ins_map (l : List It) (s : It) (k : Nat) : (l.take k ++ [s] ++ l.drop k).map aIt = (l.map aIt).take k ++ [aIt s] ++ (l.map aIt).drop k := by
 rw [List.map_append, List.map_append, List.map_take, List.map_drop]; rfl
theorem idx_range (q : It → Bool) (l : List It) : -1 ≤ idx q l ∧ idx q l < l.length := by
 unfold idx; split <;> omega
theorem may_at {l : List It} {q : Int} {k : Nat} (h : askedB l q = true) (hk : k < l.length) : may (l.getD k default) = true := by
 rw [It_idx hk]; exact ok_may (askedB_ok h).1 _ (List.getElem_mem hk)
theorem clone_new (l : List It) (hl : l.length ≤ 1000000) : FnNew Tryz.prog 57 [.sl (l.map aIt)] 108 4 (l.map aIt) :=
 FnNew.of_owns encIt aIt 4 encIt_len (fun x => rfl) (fun x u hu => by simp [encIt] at hu; rcases hu with rfl | rfl | rfl | rfl <;> rfl) l (fun w a cap hr _ _ _ => cloneIt_any a cap l w hr hl)
theorem with_fn (F : Nat) (fs : List AV) (g : It → It × Int) (l : List It) (id q : Int) (hl : l.length ≤ 1000) (hcf : ∀ (vs : Array Value) (W : World), (callFunc F vs).run Tryz.prog W = .ok (.enter F vs) W) (hn : ∀ x, x ∈ fs → NoH 0 x) (hp : ∀ x, may x = true → 1 ≤ q ∧ q ≤ 1000000 → FnP Tryz.prog F (fs ++ [aIt x] ++ []) (.tup [aIt (g x).1, .int .i64 (g x).2])) : FnP Tryz.prog 169 [.sl (l.map aIt), .int .i64 id, .int .i64 q, .fn (.func F) fs []] (.tup [.sl ((withP g l id q).1.map aIt), .int .i64 (withP g l id q).2]) := by
 have hr := idx_range (fun x => x.id == id) l
 have hbd := fun h => asked_bd (l := l) (q := q) h
 refine FnP.of Tryz.func169 rfl rfl (by simp) (by simp [AV.cells, aIt]) (fun G hG => ?_)
 have hN : NoH G.length (.tup [.sl ((withP g l id q).1.map aIt), .int .i64 (withP g l id q).2]) := (by simp [AV.cells, aIt])
 refine sr fun _ => ?_
 refine ma ?_
 refine mz ?_
 refine AWP.seq (sr fun _ => ?_)
 refine mv ?_
 refine mv ?_
 refine ρh cf167 (fun hg => asked_fn l q) ?_
 refine ρC ?_
 refine ez ?_
 refine ρp (fun h0 => ?_) (fun h0 => ?_)
 · try simp at h0
   refine sr fun _ => ?_
   refine ma ?_
   refine mz ?_
   refine AWP.ret (thenA_r ?_)
   refine ρj (rs := [.tmp 8, .tmp 9]) (.cons (.tmp rfl) (.cons (.tmp rfl) .nil)) ?_
   rw [show withP g l id q = ([], 2) from by unfold withP; rw [if_neg (by simp [h0])]]; rfl
 try simp at h0
 refine AWP.skip (thenA_n (sr fun _ => ?_))
 refine mv ?_
 refine mv ?_
 refine ρk cf168 ?_ (hF := fun hg => at_fn l id (by omega))
 refine mz ?_
 refine AWP.seq (sr fun _ => ?_)
 refine mv ?_
 refine ρ2 ?_
 refine ez ?_
 refine ρp (fun h1 => ?_) (fun h1 => ?_)
 · try simp at h1
   refine sr fun _ => ?_
   refine ma ?_
   refine mz ?_
   refine AWP.ret (thenA_r ?_)
   refine ρj (rs := [.tmp 8, .tmp 9]) (.cons (.tmp rfl) (.cons (.tmp rfl) .nil)) ?_
   rw [with_no h0 h1]; rfl
 try simp at h1
 refine AWP.skip (thenA_n (sr fun _ => ?_))
 refine mv ?_
 refine mv ?_
 refine mv ?_
 refine ρ8 U22 sz108 ?_
 refine ρl U108 sz108 ?_
 refine ρA hcf ?_ (hF := fun hg => hp _ (may_at h0 (by omega)) ⟨(hbd h0).1, (hbd h0).2.1⟩)
 refine mv ?_
 refine ρ9 ?_
 refine ρ9 ?_
 refine ρo (j := 0) zv108 ?_
 refine ρ1 sz108 ?_
 refine mz ?_
 refine AWP.seq (sr fun _ => ?_)
 refine mv ?_
 refine ρ2 ?_
 refine ez ?_
 refine ρp (fun h2 => ?_) (fun h2 => ?_)
 · try simp at h2
   refine sr fun _ => ?_
   refine mv ?_
   refine ma ?_
   refine mz ?_
   refine AWP.ret (thenA_r ?_)
   refine ρj (rs := [.tmp 8, .tmp 9]) (.cons (.tmp rfl) (.cons (.tmp rfl) .nil)) ?_
   rw [with_bad h0 (by omega) h2]; rfl
 try simp at h2
 refine AWP.skip (thenA_n (sr fun _ => ?_))
 refine mv ?_
 refine ARun.callNew (j := 1) hG rfl rfl rfl rfl rfl cf57 (ep rfl) (.cons (ep rfl) .nil) rfl (clone_new l (by omega)) optN ?_
 refine mz (sr fun _ => ?_)
 refine mv ?_
 refine mv ?_
 refine ρn U108 sz108 ?_
 refine ARun.indexOwn (j := (idx (fun x => x.id == id) l).toNat) rfl rfl rfl rfl U22 sz108 ((hG.at _ _).trans rfl) (ep rfl) (ep rfl) (fun hg => ofNonneg (by omega)) (fun hg => (by simp; omega)) optN ?_
 refine ARun.storeEltL (zs := (l.map aIt).set (idx (fun x => x.id == id) l).toNat (aIt (g (l.getD (idx (fun x => x.id == id) l).toNat default)).1)) hG rfl rfl rfl sz108 (ep rfl) (ep rfl) rfl rfl rfl rfl rfl (by simp; omega) (flat_set _ _ (aIt (g (l.getD (idx (fun x => x.id == id) l).toNat default)).1) (by simp [aIt, AV.cells]) rfl (by simp; omega)) (by simp) (set_cells (by simp [aIt, AV.cells]) rfl) rfl ?_
 refine ez (sr fun _ => ?_)
 refine mv ?_
 refine ma ?_
 refine mz ?_
 refine AWP.frzOwn 8 hG rfl rfl (by decide) (by simp [maxLen]; omega) rfl ?_
 refine AWP.ret ?_
 refine ρj (rs := [.tmp 8, .tmp 9]) (.cons (.tmp rfl) (.cons (.tmp rfl) .nil)) ?_
 rw [with_good h0 (by omega) h2, List.map_set]; rfl
theorem restock_fn (l : List It) (id q : Int) (hl : l.length ≤ 1000) : FnP Tryz.prog 156 [.sl (l.map aIt), .int .i64 id, .int .i64 q] (.tup [.sl ((withP (inG q) l id q).1.map aIt), .int .i64 (withP (inG q) l id q).2]) := by
 refine FnP.of Tryz.func156 rfl rfl (by simp) (by simp [AV.cells, aIt]) (fun G hG => ?_)
 have hN : NoH G.length (.tup [.sl ((withP (inG q) l id q).1.map aIt), .int .i64 (withP (inG q) l id q).2]) := (by simp [AV.cells, aIt])
 refine sr fun _ => ?_
 refine ma ?_
 refine mz (sr fun _ => ?_)
 refine mv ?_
 refine ARun.makeFunc rfl rfl rfl rfl (.cons (ep rfl) .nil) .nil optN ?_
 refine mz (sr fun _ => ?_)
 refine mv ?_
 refine mv ?_
 refine mv ?_
 refine mv ?_
 refine ARun.call rfl rfl rfl rfl cf169 (ep rfl) (.cons (ep rfl) (.cons (ep rfl) (.cons (ep rfl) (.cons (ep rfl) .nil)))) rfl (fun hg => with_fn 171 [.int .i64 q] (inG q) l id q hl cf171 (by simp) (fun x hx hq => inA_fn q x hx hq)) optN ?_
 refine ρ9 ?_
 refine ρ9 ?_
 refine ma ?_
 refine mz ?_
 refine AWP.ret ?_
 refine ρj (rs := [.tmp 6, .tmp 7]) (.cons (.tmp rfl) (.cons (.tmp rfl) .nil)) ?_
 rfl
theorem reserve_fn (l : List It) (id q : Int) (hl : l.length ≤ 1000) : FnP Tryz.prog 157 [.sl (l.map aIt), .int .i64 id, .int .i64 q] (.tup [.sl ((withP (holdG q) l id q).1.map aIt), .int .i64 (withP (holdG q) l id q).2]) := by
 refine FnP.of Tryz.func157 rfl rfl (by simp) (by simp [AV.cells, aIt]) (fun G hG => ?_)
 have hN : NoH G.length (.tup [.sl ((withP (holdG q) l id q).1.map aIt), .int .i64 (withP (holdG q) l id q).2]) := (by simp [AV.cells, aIt])
 refine sr fun _ => ?_
 refine ma ?_
 refine mz (sr fun _ => ?_)
 refine mv ?_
 refine ARun.makeFunc rfl rfl rfl rfl (.cons (ep rfl) .nil) .nil optN ?_
 refine mz (sr fun _ => ?_)
 refine mv ?_
 refine mv ?_
 refine mv ?_
 refine mv ?_
 refine ARun.call rfl rfl rfl rfl cf169 (ep rfl) (.cons (ep rfl) (.cons (ep rfl) (.cons (ep rfl) (.cons (ep rfl) .nil)))) rfl (fun hg => with_fn 177 [.int .i64 q] (holdG q) l id q hl cf177 (by simp) (fun x hx hq => holdA_fn q x hx hq)) optN ?_
 refine ρ9 ?_
 refine ρ9 ?_
 refine ma ?_
 refine mz ?_
 refine AWP.ret ?_
 refine ρj (rs := [.tmp 6, .tmp 7]) (.cons (.tmp rfl) (.cons (.tmp rfl) .nil)) ?_
 rfl
theorem release_fn (l : List It) (id q : Int) (hl : l.length ≤ 1000) : FnP Tryz.prog 158 [.sl (l.map aIt), .int .i64 id, .int .i64 q] (.tup [.sl ((withP (freeG q) l id q).1.map aIt), .int .i64 (withP (freeG q) l id q).2]) := by
 refine FnP.of Tryz.func158 rfl rfl (by simp) (by simp [AV.cells, aIt]) (fun G hG => ?_)
 have hN : NoH G.length (.tup [.sl ((withP (freeG q) l id q).1.map aIt), .int .i64 (withP (freeG q) l id q).2]) := (by simp [AV.cells, aIt])
 refine sr fun _ => ?_
 refine ma ?_
 refine mz (sr fun _ => ?_)
 refine mv ?_
 refine ARun.makeFunc rfl rfl rfl rfl (.cons (ep rfl) .nil) .nil optN ?_
 refine mz (sr fun _ => ?_)
 refine mv ?_
 refine mv ?_
 refine mv ?_
 refine mv ?_
 refine ARun.call rfl rfl rfl rfl cf169 (ep rfl) (.cons (ep rfl) (.cons (ep rfl) (.cons (ep rfl) (.cons (ep rfl) .nil)))) rfl (fun hg => with_fn 178 [.int .i64 q] (freeG q) l id q hl cf178 (by simp) (fun x hx hq => freeA_fn q x hx hq)) optN ?_
 refine ρ9 ?_
 refine ρ9 ?_
 refine ma ?_
 refine mz ?_
 refine AWP.ret ?_
 refine ρj (rs := [.tmp 6, .tmp 7]) (.cons (.tmp rfl) (.cons (.tmp rfl) .nil)) ?_
 rfl
theorem ship_fn (l : List It) (id q : Int) (hl : l.length ≤ 1000) : FnP Tryz.prog 159 [.sl (l.map aIt), .int .i64 id, .int .i64 q] (.tup [.sl ((withP (shipG q) l id q).1.map aIt), .int .i64 (withP (shipG q) l id q).2]) := by
 refine FnP.of Tryz.func159 rfl rfl (by simp) (by simp [AV.cells, aIt]) (fun G hG => ?_)
 have hN : NoH G.length (.tup [.sl ((withP (shipG q) l id q).1.map aIt), .int .i64 (withP (shipG q) l id q).2]) := (by simp [AV.cells, aIt])
 refine sr fun _ => ?_
 refine ma ?_
 refine mz (sr fun _ => ?_)
 refine mv ?_
 refine ARun.makeFunc rfl rfl rfl rfl (.cons (ep rfl) .nil) .nil optN ?_
 refine mz (sr fun _ => ?_)
 refine mv ?_
 refine mv ?_
 refine mv ?_
 refine mv ?_
 refine ARun.call rfl rfl rfl rfl cf169 (ep rfl) (.cons (ep rfl) (.cons (ep rfl) (.cons (ep rfl) (.cons (ep rfl) .nil)))) rfl (fun hg => with_fn 179 [.int .i64 q] (shipG q) l id q hl cf179 (by simp) (fun x hx hq => shipA_fn q x hx hq)) optN ?_
 refine ρ9 ?_
 refine ρ9 ?_
 refine ma ?_
 refine mz ?_
 refine AWP.ret ?_
 refine ρj (rs := [.tmp 6, .tmp 7]) (.cons (.tmp rfl) (.cons (.tmp rfl) .nil)) ?_
 rfl
def moveP (l : List It) (a b q : Int) : List It × Int :=
 if askedB l q = true ∧ a ≠ b then
   if idx (fun x => x.id == a) l < 0 ∨ idx (fun x => x.id == b) l < 0 then ([], 40)
   else if (withP (outG q) l a q).2 = 0 then withP (inG q) (withP (outG q) l a q).1 b q else ([], (withP (outG q) l a q).2)
 else ([], 2)
theorem with_len (g : It → It × Int) (l : List It) (id q : Int) : (withP g l id q).1.length ≤ l.length := by
 unfold withP; split
 · split
   · split <;> simp
   simp
 simp
theorem move_fn (l : List It) (a b q : Int) (hl : l.length ≤ 1000) : FnP Tryz.prog 150 [.sl (l.map aIt), .int .i64 a, .int .i64 b, .int .i64 q] (.tup [.sl ((moveP l a b q).1.map aIt), .int .i64 (moveP l a b q).2]) := by
 have hwl := with_len (outG q) l a q
 refine FnP.of Tryz.func150 rfl rfl (by simp) (by simp [AV.cells, aIt]) (fun G hG => ?_)
 have hN : NoH G.length (.tup [.sl ((moveP l a b q).1.map aIt), .int .i64 (moveP l a b q).2]) := (by simp [AV.cells, aIt])
 refine sr fun _ => ?_
 refine ma ?_
 refine mz ?_
 refine AWP.seq (AWP.block (sr fun _ => ?_))
 refine mv ?_
 refine mv ?_
 refine ρh cf167 (fun hg => asked_fn l q) ?_
 refine ρC ?_
 refine mv ?_
 refine ρg ?_
 refine ρg ?_
 refine ρs ?_
 refine ρ3 ?_
 refine mz ?_
 refine ρp (fun h0 => ?_) (fun h0 => ?_)
 · try simp at h0
   refine sr fun _ => ?_
   refine ma ?_
   refine mz ?_
   refine AWP.ret (blockA_r (thenA_r ?_))
   refine ρj (rs := [.tmp 8, .tmp 9]) (.cons (.tmp rfl) (.cons (.tmp rfl) .nil)) ?_
   rw [show moveP l a b q = ([], 2) from by unfold moveP; rw [if_neg (by rintro ⟨x, y⟩; simp_all)]]; rfl
 try simp at h0
 refine sr fun _ => ?_
 refine mv ?_
 refine mv ?_
 refine ρk cf168 ?_ (hF := fun hg => at_fn l a (by omega))
 refine ρ2 ?_
 refine mv ?_
 refine ρg ?_
 refine ρg ?_
 refine ARun.call rfl rfl rfl rfl cf168 (ep rfl) (.cons (Ev.opt rfl (fun h => h)) (.cons (Ev.opt rfl (fun h => h)) .nil)) rfl (fun hg => at_fn l b (by omega)) optS ?_
 refine ρb ?_
 refine ρ3 ?_
 refine mz ?_
 refine ρp (fun h1 => ?_) (fun h1 => ?_)
 · try simp at h1
   refine sr fun _ => ?_
   refine ma ?_
   refine mz ?_
   refine AWP.ret (blockA_r (thenA_r ?_))
   refine ρj (rs := [.tmp 8, .tmp 9]) (.cons (.tmp rfl) (.cons (.tmp rfl) .nil)) ?_
   rw [show moveP l a b q = ([], 40) from by unfold moveP; rw [if_pos h0, if_pos h1]]; rfl
 try simp at h1
 refine AWP.skip (blockA_n (thenA_n (sr fun _ => ?_)))
 refine mv ?_
 refine mv ?_
 refine mv ?_
 refine mv ?_
 refine ARun.makeFunc rfl rfl rfl rfl (.cons (ep rfl) .nil) .nil optN ?_
 refine ARun.call rfl rfl rfl rfl cf169 (ep rfl) (.cons (ep rfl) (.cons (ep rfl) (.cons (ep rfl) (.cons (ep rfl) .nil)))) rfl (fun hg => with_fn 170 [.int .i64 q] (outG q) l a q hl cf170 (by simp) (fun x hx hq => outA_fn q x hx hq)) optN ?_
 refine mv ?_
 refine ρ9 ?_
 refine ρ9 ?_
 refine ma ?_
 refine mz ?_
 refine AWP.seq (sr fun _ => ?_)
 refine mv ?_
 refine ρ2 ?_
 refine ez ?_
 refine ρp (fun h2 => ?_) (fun h2 => ?_)
 · try simp at h2
   refine sr fun _ => ?_
   refine mv ?_
   refine ma ?_
   refine mz ?_
   refine AWP.ret (thenA_r ?_)
   refine ρj (rs := [.tmp 8, .tmp 9]) (.cons (.tmp rfl) (.cons (.tmp rfl) .nil)) ?_
   rw [show moveP l a b q = ([], (withP (outG q) l a q).2) from by unfold moveP; rw [if_pos h0, if_neg (by omega), if_neg h2]]; rfl
 try simp at h2
 refine AWP.skip (thenA_n (sr fun _ => ?_))
 refine mv ?_
 refine mv ?_
 refine mv ?_
 refine mv ?_
 refine ARun.makeFunc rfl rfl rfl rfl (.cons (ep rfl) .nil) .nil optN ?_
 refine ARun.call rfl rfl rfl rfl cf169 (ep rfl) (.cons (ep rfl) (.cons (ep rfl) (.cons (ep rfl) (.cons (ep rfl) .nil)))) rfl (fun hg => with_fn 171 [.int .i64 q] (inG q) (withP (outG q) l a q).1 b q (by omega) cf171 (by simp) (fun x hx hq => inA_fn q x hx hq)) optN ?_
 refine ρ9 ?_
 refine ρ9 ?_
 refine ma ?_
 refine mz ?_
 refine AWP.ret ?_
 refine ρj (rs := [.tmp 8, .tmp 9]) (.cons (.tmp rfl) (.cons (.tmp rfl) .nil)) ?_
 rw [show moveP l a b q = withP (inG q) (withP (outG q) l a q).1 b q from by unfold moveP; rw [if_pos h0, if_neg (by omega), if_pos h2]]
def insP (l : List It) (x : It) : List It :=
 if idx (fun y => decide (x.id < y.id)) l < 0 then l.take l.length ++ [x] ++ l.drop l.length
 else l.take (idx (fun y => decide (x.id < y.id)) l).toNat ++ [x] ++ l.drop (idx (fun y => decide (x.id < y.id)) l).toNat
def createP (l : List It) (id q : Int) : List It × Int :=
 if okE l = 0 ∧ may ⟨id, q, 0, 0⟩ = true then
   if 0 ≤ idx (fun x => x.id == id) l then ([], 41) else if 20 ≤ l.length then ([], 8) else (insP l ⟨id, q, 0, 0⟩, 0)
 else ([], 2)
theorem crf_fn (x : It) (id : Int) : FnP Tryz.prog 175 [aIt x, .pe [.int .i64 id]] (.bool (decide (id < x.id))) := by
 refine FnP.of Tryz.func175 rfl rfl (by simp) (by simp [AV.cells, aIt]) (fun G hG => ?_)
 have hN : NoH G.length (.bool (decide (id < x.id))) := (by simp [AV.cells, aIt])
 refine sr fun _ => ?_
 refine ARun.box (j := 0) hG rfl rfl rfl rfl rfl (ep rfl) rfl rfl optN ?_
 refine mz (sr fun _ => ?_)
 refine ρ6 (fo := 0) U108 sz3 ?_
 refine ρd U3 ?_
 refine ρ7 U3 ?_
 refine ρ2 ?_
 refine mz ?_
 refine AWP.ret ?_
 refine ρi ?_
 rfl
theorem create_fn (l : List It) (id q : Int) (hl : l.length ≤ 1000) : FnP Tryz.prog 155 [.sl (l.map aIt), .int .i64 id, .int .i64 q] (.tup [.sl ((createP l id q).1.map aIt), .int .i64 (createP l id q).2]) := by
 have hr := idx_range (fun y => decide (id < y.id)) l
 have hix := idxOf_idx (fun y => decide (id < y.id)) l
 refine FnP.of Tryz.func155 rfl rfl (by simp) (by simp [AV.cells, aIt]) (fun G hG => ?_)
 have hN : NoH G.length (.tup [.sl ((createP l id q).1.map aIt), .int .i64 (createP l id q).2]) := (by simp [AV.cells, aIt])
 refine sr fun _ => ?_
 refine ARun.box1 (j := 0) hG rfl rfl rfl rfl rfl (ep rfl) (by first | rfl | exact aEr_one _ | exact aFl_one _) optN ?_
 refine ma ?_
 refine mz (sr fun _ => ?_)
 refine ρd U3 ?_
 refine mv ?_
 refine ARun.build rfl rfl rfl rfl so108 (.cons (ep rfl) (.cons (ep rfl) .nil)) rfl rfl optN ?_
 refine ρo (j := 1) zv108 ?_
 refine ρ1 sz108 ?_
 refine ez ?_
 refine AWP.seq (AWP.block (sr fun _ => ?_))
 refine mv ?_
 refine ρm cf65 (fun hg => check_fn l) ?_
 refine ρ2 ?_
 refine mv ?_
 refine ARun.loadBoxA rfl rfl rfl rfl U108 rfl sz108 (ep rfl) ((hG.at _ _).trans rfl) rfl rfl optS ?_
 refine ρr cf104 (fun hg => may_fn ⟨id, q, 0, 0⟩) ?_
 refine ARun.not rfl rfl rfl rfl (Ev.opt rfl (fun h => h)) optS ?_
 refine ρ3 ?_
 refine mz ?_
 refine ρp (fun h0 => ?_) (fun h0 => ?_)
 · try simp at h0
   refine sr fun _ => ?_
   refine ma ?_
   refine mz ?_
   refine AWP.ret (blockA_r (thenA_r ?_))
   refine ρj (rs := [.tmp 6, .tmp 7]) (.cons (.tmp rfl) (.cons (.tmp rfl) .nil)) ?_
   rw [show createP l id q = ([], 2) from by unfold createP; rw [if_neg (by rintro ⟨x, y⟩; simp_all)]]; rfl
 try simp at h0
 refine sr fun _ => ?_
 refine mv ?_
 refine ρd U3 ?_
 refine ρk cf168 ?_ (hF := fun hg => at_fn l id (by omega))
 refine ρ2 ?_
 refine mz ?_
 refine ρp (fun h1 => ?_) (fun h1 => ?_)
 · try simp at h1
   refine sr fun _ => ?_
   refine ma ?_
   refine mz ?_
   refine AWP.ret (blockA_r (thenA_r ?_))
   refine ρj (rs := [.tmp 6, .tmp 7]) (.cons (.tmp rfl) (.cons (.tmp rfl) .nil)) ?_
   rw [show createP l id q = ([], 41) from by unfold createP; rw [if_pos h0, if_pos h1]]; rfl
 try simp at h1
 refine sr fun _ => ?_
 refine mv ?_
 refine ρv U22 ?_
 refine ρ2 ?_
 refine mz ?_
 refine ρp (fun h2 => ?_) (fun h2 => ?_)
 · try simp at h2
   refine sr fun _ => ?_
   refine ma ?_
   refine mz ?_
   refine AWP.ret (blockA_r (thenA_r ?_))
   refine ρj (rs := [.tmp 6, .tmp 7]) (.cons (.tmp rfl) (.cons (.tmp rfl) .nil)) ?_
   rw [show createP l id q = ([], 8) from by unfold createP; rw [if_pos h0, if_neg (by omega), if_pos (by omega)]]; rfl
 try simp at h2
 refine AWP.skip (blockA_n ?_)
 refine thenA_n (AWP.seq ?_)
 refine AWP.frzBox 4 hG rfl rfl rfl ?_
 refine AWP.region (fun _ => ?_)
 refine mv ?_
 refine ARun.makeFunc rfl rfl rfl rfl .nil (.cons (ep rfl) .nil) optN ?_
 refine ρk cf174 ?_ (hF := fun hg => indexIt 175 [] [.pe [.int .i64 id]] (fun y => decide (id < y.id)) l (by omega) cf175 (by simp) (fun x _ => crf_fn x id))
 refine mz ?_
 refine AWP.seq (sr fun _ => ?_)
 refine mv ?_
 refine ρ2 ?_
 refine ez ?_
 refine ρp (fun h3 => ?_) (fun h3 => ?_)
 · rw [idxOf_idx] at h3
   simp at h3
   refine AWP.region (fun _ => ?_)
   refine mv ?_
   refine ρv U22 ?_
   refine mz ?_
   refine AWP.seq ?_
   refine AWP.frzBox 8 hG rfl rfl rfl ?_
   refine ρE mixed (fun _ => ?_)
   refine mv ?_
   refine ARun.callNew (j := 2) hG rfl rfl rfl rfl rfl cf57 (ep rfl) (.cons (ep rfl) .nil) rfl (clone_new l (by omega)) optN ?_
   refine mv ?_
   refine ρl U108 sz108 ?_
   refine ARun.buildLit rfl rfl rfl rfl U22 sz108 zv108 (by decide) (.cons (ep rfl) .nil) rfl rfl rfl rfl rfl rfl optN ?_
   refine ARun.callSet (j := 2) hG rfl rfl rfl rfl cf176 (ep rfl) (.cons (ep rfl) (.cons (ep rfl) (.cons (ep rfl) .nil))) rfl (insertIt_lit (l.map aIt) (aIt ⟨id, q, 0, 0⟩) l.length (by simp) (by simp; omega) (by simp [aIt, AV.cells, AV.one]) rfl rfl rfl (i := G.length + 2) (by simp) ((hG.at _ _).trans rfl)) rfl optN ?_
   refine ma ?_
   refine ma ?_
   refine ⟨by kernel_rfl, _, _, rfl, hG, ?_⟩
   refine thenA_n ?_
   refine AWP.frzOwn 6 hG rfl rfl (by decide) (by simp [maxLen]; omega) rfl ?_
   refine AWP.ret ?_
   refine ρj (rs := [.tmp 6, .tmp 7]) (.cons (.tmp rfl) (.cons (.tmp rfl) .nil)) ?_
   rw [show createP l id q = (insP l ⟨id, q, 0, 0⟩, 0) from by unfold createP; rw [if_pos h0, if_neg (by omega), if_neg (by omega)], show (insP l ⟨id, q, 0, 0⟩).map aIt = (l.map aIt).take l.length ++ [aIt ⟨id, q, 0, 0⟩] ++ (l.map aIt).drop l.length from by unfold insP; rw [if_pos (by simpa using h3)]; exact ins_map _ _ _]; rfl
 rw [idxOf_idx] at h3
 simp at h3
 refine AWP.skip (thenA_n (AWP.seq ?_))
 refine AWP.frzBox 8 hG rfl rfl rfl ?_
 refine ρE mixed (fun _ => ?_)
 refine mv ?_
 refine ARun.callNew (j := 2) hG rfl rfl rfl rfl rfl cf57 (ep rfl) (.cons (ep rfl) .nil) rfl (clone_new l (by omega)) optN ?_
 refine mv ?_
 refine ρl U108 sz108 ?_
 refine ARun.buildLit rfl rfl rfl rfl U22 sz108 zv108 (by decide) (.cons (ep rfl) .nil) rfl rfl rfl rfl rfl rfl optN ?_
 refine ARun.callSet (j := 2) hG rfl rfl rfl rfl cf176 (ep rfl) (.cons (ep rfl) (.cons (ep rfl) (.cons (ep rfl) .nil))) rfl (insertIt_lit (l.map aIt) (aIt ⟨id, q, 0, 0⟩) (idx (fun y => decide (id < y.id)) l).toNat (by simp; omega) (by simp; omega) (by simp [aIt, AV.cells, AV.one]) rfl rfl rfl (i := G.length + 2) (by omega) ((hG.at _ _).trans rfl)) rfl optN ?_
 refine ma ?_
 refine ma ?_
 refine ⟨by kernel_rfl, _, _, rfl, hG, ?_⟩
 refine thenA_n ?_
 refine AWP.frzOwn 6 hG rfl rfl (by decide) (by simp [maxLen]; omega) rfl ?_
 refine AWP.ret ?_
 refine ρj (rs := [.tmp 6, .tmp 7]) (.cons (.tmp rfl) (.cons (.tmp rfl) .nil)) ?_
 rw [show createP l id q = (insP l ⟨id, q, 0, 0⟩, 0) from by unfold createP; rw [if_pos h0, if_neg (by omega), if_neg (by omega)], show (insP l ⟨id, q, 0, 0⟩).map aIt = (l.map aIt).take (idx (fun y => decide (id < y.id)) l).toNat ++ [aIt ⟨id, q, 0, 0⟩] ++ (l.map aIt).drop (idx (fun y => decide (id < y.id)) l).toNat from by unfold insP; rw [if_neg (by simpa using h3)]; exact ins_map _ _ _]; rfl
end Go.Proofs.YtcndnllmlhhjiaaGreatDoor.Stk
namespace Go.Proofs.YtcndnllmlhhjiaaGreatDoor.Stk
open StockP
theorem insP_put {l : List It} (h : ok l = true) (x : It) (hx : ∀ y, y ∈ l → y.id ≠ x.id) : insP l x = put l x := by
 rw [put_insert (ok_from h) x hx]
 unfold insP
 by_cases h2 : idx (fun y => decide (x.id < y.id)) l < 0
 · have h3 := idx_neg.1 h2
   have h4 := place_le (fun y => decide (x.id < y.id)) l
   rw [if_pos h2, show place (fun y => decide (x.id < y.id)) l = l.length by omega]; simp
 · rw [if_neg h2, (idx_pos h2).2, Int.toNat_natCast]; simp
theorem find_none_ids {l : List It} {id : Int} (h : (findT l id).2 = false) : ∀ y, y ∈ l → y.id ≠ id := by
 intro y hy e
 rw [findT_place] at h
 split at h
 · cases h
 · rename_i hp
   obtain ⟨j, hj, rfl⟩ := List.mem_iff_getElem.1 hy
   have : place (fun x => x.id == id) l < l.length := by
     clear h hy
     induction l generalizing j with
     | nil => simp at hj
     | cons x l ih =>
       rw [place_cons] at hp ⊢
       by_cases e2 : (x.id == id) = true
       · rw [if_pos e2]; simp
       · rw [if_neg e2] at hp ⊢
         cases j with
         | zero => simp at e; exact absurd (by simpa using e) e2
         | succ j =>
           have := ih (by simpa using hp) j (by simpa using hj) (by simpa using e)
           simp; omega
   exact hp this
theorem found_idx {l : List It} {id : Int} : (findT l id).2 = true ↔ ¬ idx (fun x => x.id == id) l < 0 := by
 constructor
 · intro h h2; rw [find_no h2] at h; cases h
 · intro h; rw [find_yes h]
theorem found_id {l : List It} {id : Int} (h : (findT l id).2 = true) : (findT l id).1.id = id := by
 rw [findT_place] at h ⊢
 split at h
 · rename_i hp
   have := place_at (fun x => x.id == id) l hp
   rw [dif_pos hp]; simpa using this
 · cases h
theorem found_may {l : List It} {id q : Int} (ha : askedB l q = true) (h : (findT l id).2 = true) : may (findT l id).1 = true := by
 rw [findT_place] at h ⊢
 split at h
 · rename_i hp
   rw [dif_pos hp]; exact ok_may (askedB_ok ha).1 _ (List.getElem_mem hp)
 · cases h
theorem with_put {g : It → It × Int} {l : List It} {id q : Int} (ha : askedB l q = true) (hf : (findT l id).2 = true) (hid : (g (findT l id).1).1.id = id) (h0 : (g (findT l id).1).2 = 0) : withP g l id q = (put l (g (findT l id).1).1, 0) := by
 unfold withP
 rw [findT_place] at hf hid h0 ⊢
 split at hf
 · rename_i hp
   rw [dif_pos hp] at hid h0 ⊢
   rw [if_pos ha, dif_pos hp, if_pos h0, put_set (ok_from (askedB_ok ha).1) _ (by rw [hid]; exact hp), hid]
 · cases hf
theorem with_err {g : It → It × Int} {l : List It} {id q : Int} (ha : askedB l q = true) (hf : (findT l id).2 = true) (h0 : ¬ (g (findT l id).1).2 = 0) : withP g l id q = ([], (g (findT l id).1).2) := by
 unfold withP
 rw [findT_place] at hf h0 ⊢
 split at hf
 · rename_i hp
   rw [dif_pos hp] at h0 ⊢
   rw [if_pos ha, dif_pos hp, if_neg h0]
 · cases hf
theorem with_none {g : It → It × Int} {l : List It} {id q : Int} (ha : askedB l q = true) (hf : (findT l id).2 = false) : withP g l id q = ([], 40) := by
 refine with_no ha ?_
 by_cases h : idx (fun x => x.id == id) l < 0
 · exact h
 · rw [found_idx.2 h] at hf; cases hf
theorem with_arg {g : It → It × Int} {l : List It} {id q : Int} (ha : askedB l q = false) : withP g l id q = ([], 2) := by
 unfold withP; rw [if_neg (by simp [ha])]
theorem itemP_cases (l : List It) (id q : Int) : (askedB l q = false ∧ itemP l id q = (default, 2)) ∨ (askedB l q = true ∧ (findT l id).2 = false ∧ itemP l id q = (default, 40)) ∨ (askedB l q = true ∧ (findT l id).2 = true ∧ itemP l id q = ((findT l id).1, 0)) := by
 unfold itemP
 cases ha : askedB l q with
 | false => left; simp; rfl
 | true =>
   right
   cases hf : (findT l id).2 with
   | false =>
     left
     refine ⟨rfl, rfl, ?_⟩
     have h2 : (findT l id).1 = default := by
       by_cases h : idx (fun x => x.id == id) l < 0
       · rw [find_no h]
       · rw [found_idx.2 h] at hf; cases hf
     simp [h2]
   | true => right; simp
theorem set_ok {id : Int} {x : It} (hm : may x = true) (hid : x.id = id) : ∀ (l : List It) (p : Int), okFrom p l = true → okFrom p (l.set (place (fun y => y.id == id) l) x) = true := by
 intro l
 induction l with
 | nil => intro p h; exact h
 | cons y l ih =>
   intro p h
   simp only [okFrom, Bool.and_eq_true, decide_eq_true_eq] at h
   rw [place_cons]
   by_cases e : (y.id == id) = true
   · rw [if_pos e]
     have e2 : y.id = id := by simpa using e
     rw [List.set_cons_zero, okFrom, hm, hid, ← e2, h.2]
     simp [h.1.2]
   · rw [if_neg e, List.set_cons_succ, okFrom, h.1.1, ih _ h.2]
     simp [h.1.2]
theorem set_find {id b : Int} {x : It} (hid : x.id = id) (hb : b ≠ id) : ∀ (l : List It), find (l.set (place (fun y => y.id == id) l) x) b = find l b := by
 intro l
 unfold find
 induction l with
 | nil => rfl
 | cons y l ih =>
   rw [place_cons]
   by_cases e : (y.id == id) = true
   · rw [if_pos e]
     have e2 : y.id = id := by simpa using e
     rw [List.set_cons_zero, List.find?_cons, List.find?_cons]
     have n1 : (x.id == b) = false := by simp; omega
     have n2 : (y.id == b) = false := by simp; omega
     rw [n1, n2]
   · rw [if_neg e, List.set_cons_succ, List.find?_cons, List.find?_cons, ih]
theorem findT_of {l m : List It} {b : Int} (h : find l b = find m b) : findT l b = findT m b := by unfold findT; rw [h]
theorem with_keeps {g : It → It × Int} {l : List It} {id q : Int} (h : (withP g l id q).2 = 0) (hg : ∀ x, may x = true → 1 ≤ q → q ≤ 1000000 → (g x).2 = 0 → may (g x).1 = true ∧ (g x).1.id = x.id) :
   askedB l q = true ∧ (findT l id).2 = true ∧ (g (findT l id).1).2 = 0 ∧ (withP g l id q).1 = put l (g (findT l id).1).1 ∧ askedB (withP g l id q).1 q = true ∧ ∀ b, b ≠ id → findT (withP g l id q).1 b = findT l b := by
 cases ha : askedB l q with
 | false => rw [with_arg ha] at h; cases h
 | true =>
   cases hf : (findT l id).2 with
   | false => rw [with_none ha hf] at h; cases h
   | true =>
     by_cases h0 : (g (findT l id).1).2 = 0
     · have hm := hg _ (found_may ha hf) (askedB_ok ha).2.1 (askedB_ok ha).2.2 h0
       have hid : (g (findT l id).1).1.id = id := by rw [hm.2]; exact found_id hf
       have hok := (askedB_ok ha).1
       have hp : place (fun y => y.id == id) l < l.length := (idx_pos (found_idx.1 hf)).1
       have hs := put_set (ok_from hok) (g (findT l id).1).1 (by rw [hid]; exact hp)
       rw [hid] at hs
       rw [with_put ha hf hid h0]
       refine ⟨rfl, rfl, h0, rfl, ?_, fun b hb => ?_⟩
       · rw [hs]
         have h1 := set_ok (id := id) hm.1 hid l 0 (ok_from hok)
         have h2 := ok_len hok
         have h3 := askedB_ok ha
         unfold askedB ok
         rw [h1, List.length_set]
         simp [h2, h3.2.1, h3.2.2]
       · rw [hs]
         exact findT_of (set_find hid hb l)
     · rw [with_err ha hf h0] at h; exact absurd h h0
theorem outG_ok (q : Int) (x : It) (hm : may x = true) (h1 : 1 ≤ q) (_h2 : q ≤ 1000000) (h0 : (outG q x).2 = 0) : may (outG q x).1 = true ∧ (outG q x).1.id = x.id := by
 have := may_iff.1 hm
 unfold outG lentE at *
 simp only at h0 ⊢
 split at h0
 · cases h0
 · exact ⟨may_iff.2 (by simp only; omega), by trivial⟩
theorem item_ok {l : List It} {id q : Int} (h : (itemP l id q).2 = 0) : askedB l q = true ∧ (findT l id).2 = true ∧ (itemP l id q).1 = (findT l id).1 := by
 rcases itemP_cases l id q with ⟨_, hi⟩ | ⟨_, _, hi⟩ | ⟨ha, hf, hi⟩
 · rw [hi] at h; cases h
 · rw [hi] at h; cases h
 · rw [hi]; exact ⟨ha, hf, rfl⟩
theorem item_bd {l : List It} {id q : Int} (h : (itemP l id q).2 = 0) : (1 ≤ q ∧ q ≤ 1000000) ∧ l.length ≤ 20 ∧ 0 ≤ (itemP l id q).1.free ∧ 0 ≤ (itemP l id q).1.held ∧ 0 ≤ (itemP l id q).1.gone ∧ (itemP l id q).1.free + (itemP l id q).1.held + (itemP l id q).1.gone ≤ 1000000 := by
 obtain ⟨ha, hf, hi⟩ := item_ok h
 have hm := may_iff.1 (found_may ha hf)
 rw [hi]
 exact ⟨(askedB_ok ha).2, ok_len (askedB_ok ha).1, by omega, by omega, by omega, by omega⟩
theorem item_bad {l : List It} {id q : Int} (h : ¬ (itemP l id q).2 = 0) (g : It → It × Int) : withP g l id q = ([], (itemP l id q).2) := by
 rcases itemP_cases l id q with ⟨ha, hi⟩ | ⟨ha, hf, hi⟩ | ⟨ha, hf, hi⟩
 · rw [hi, with_arg ha]
 · rw [hi, with_none ha hf]
 · rw [hi] at h; exact absurd rfl h
def goesM (l : List It) (id q how : Int) : List It × Int := if how = 1 then withP (holdG q) l id q else if how = 2 then withP (freeG q) l id q else withP (shipG q) l id q
theorem goes_none {l : List It} {id q how : Int} (h : ¬ (itemP l id q).2 = 0) : goesM l id q how = ([], (itemP l id q).2) := by
 unfold goesM; rw [item_bad h, item_bad h, item_bad h]; split <;> (try split) <;> rfl
theorem goes_bad {l : List It} {id q how : Int} (h : (itemP l id q).2 = 0) (h2 : (how = 1 ∧ (itemP l id q).1.free < q) ∨ (how ≠ 1 ∧ (itemP l id q).1.held < q)) : goesM l id q how = ([], 42) := by
 obtain ⟨ha, hf, hi⟩ := item_ok h
 rw [hi] at h2
 unfold goesM
 rcases h2 with ⟨rfl, h2⟩ | ⟨h1, h2⟩
 · rw [if_pos rfl]
   have e : (holdG q (findT l id).1).2 = 42 := by unfold holdG lentE; simp only; rw [if_pos (by omega)]
   rw [with_err ha hf (by rw [e]; decide), e]
 · rw [if_neg h1]
   have e : (freeG q (findT l id).1).2 = 42 := by unfold freeG lentE; simp only; rw [if_pos (by omega)]
   have e2 : (shipG q (findT l id).1).2 = 42 := by unfold shipG lentE; simp only; rw [if_pos (by omega)]
   rw [with_err ha hf (by rw [e]; decide), e, with_err ha hf (by rw [e2]; decide), e2]
   split <;> rfl
theorem goes_1 {l : List It} {id q how : Int} (h : (itemP l id q).2 = 0) (h1 : how = 1) (h2 : q ≤ (itemP l id q).1.free) : goesM l id q how = (put l ⟨(itemP l id q).1.id, (itemP l id q).1.free - q, (itemP l id q).1.held + q, (itemP l id q).1.gone⟩, 0) := by
 have hb := item_bd h
 obtain ⟨ha, hf, hi⟩ := item_ok h
 rw [hi] at h2 hb ⊢
 unfold goesM
 rw [if_pos h1, with_put ha hf (found_id hf) (by unfold holdG lentE; simp only; rw [if_neg (by omega)])]
 rfl
theorem goes_2 {l : List It} {id q how : Int} (h : (itemP l id q).2 = 0) (h1 : how = 2) (h2 : q ≤ (itemP l id q).1.held) : goesM l id q how = (put l ⟨(itemP l id q).1.id, (itemP l id q).1.free + q, (itemP l id q).1.held - q, (itemP l id q).1.gone⟩, 0) := by
 have hb := item_bd h
 obtain ⟨ha, hf, hi⟩ := item_ok h
 rw [hi] at h2 hb ⊢
 unfold goesM
 rw [if_neg (by omega), if_pos h1, with_put ha hf (found_id hf) (by unfold freeG lentE; simp only; rw [if_neg (by omega)])]
 rfl
theorem goes_3 {l : List It} {id q how : Int} (h : (itemP l id q).2 = 0) (h1 : how ≠ 1) (h3 : how ≠ 2) (h2 : q ≤ (itemP l id q).1.held) : goesM l id q how = (put l ⟨(itemP l id q).1.id, (itemP l id q).1.free, (itemP l id q).1.held - q, (itemP l id q).1.gone + q⟩, 0) := by
 have hb := item_bd h
 obtain ⟨ha, hf, hi⟩ := item_ok h
 rw [hi] at h2 hb ⊢
 unfold goesM
 rw [if_neg h1, if_neg h3, with_put ha hf (found_id hf) (by unfold shipG lentE; simp only; rw [if_neg (by omega)])]
 rfl
theorem restock_bad {l : List It} {id q : Int} (h : (itemP l id q).2 = 0) (h2 : 1000000 - (itemP l id q).1.free - (itemP l id q).1.held - (itemP l id q).1.gone < q) : withP (inG q) l id q = ([], 43) := by
 obtain ⟨ha, hf, hi⟩ := item_ok h
 rw [hi] at h2
 have e : (inG q (findT l id).1).2 = 43 := by
   unfold inG
   rw [if_neg]
   intro e2
   have := may_iff.1 e2
   simp only at this
   omega
 rw [with_err ha hf (by rw [e]; decide), e]
theorem restock_good {l : List It} {id q : Int} (h : (itemP l id q).2 = 0) (h2 : q ≤ 1000000 - (itemP l id q).1.free - (itemP l id q).1.held - (itemP l id q).1.gone) : withP (inG q) l id q = (put l ⟨(itemP l id q).1.id, (itemP l id q).1.free + q, (itemP l id q).1.held, (itemP l id q).1.gone⟩, 0) := by
 obtain ⟨ha, hf, hi⟩ := item_ok h
 have hm := may_iff.1 (found_may ha hf)
 have hq := (askedB_ok ha).2
 rw [hi] at h2 ⊢
 have e : inG q (findT l id).1 = (⟨(findT l id).1.id, (findT l id).1.free + q, (findT l id).1.held, (findT l id).1.gone⟩, 0) := by
   unfold inG
   rw [if_pos]
   exact may_iff.2 (by simp only; omega)
 rw [with_put ha hf (by rw [e]; exact found_id hf) (by rw [e]), e]
theorem asked_iff (l : List It) (q : Int) : askedB l q = true ↔ okE l = 0 ∧ 1 ≤ q ∧ q ≤ 1000000 := by
 unfold askedB; rw [okE_ok]; simp
theorem find_no2 {l : List It} {id : Int} (h : (findT l id).2 = false) : findT l id = (default, false) := by
 by_cases h2 : idx (fun x => x.id == id) l < 0
 · exact find_no h2
 · rw [found_idx.2 h2] at h; cases h
theorem map_snoc {α β : Type} (f : α → β) (l : List α) (x : α) : l.map f ++ [f x] = (l ++ [x]).map f := by simp
theorem take_snoc2 {l : List It} {k : Nat} (hk : k < l.length) : l.take k ++ [l.getD k default] = l.take (k + 1) := by
 rw [List.take_succ_eq_append_getElem hk, It_idx hk]
theorem flt_yes {q : It → Bool} {l : List It} {k : Nat} (hk : k < l.length) (h : q (l.getD k default) = true) : (l.take k).filter q ++ [l.getD k default] = (l.take (k + 1)).filter q := by
 rw [List.take_succ_eq_append_getElem hk, List.filter_append, ← It_idx hk]; congr 1; simp only [List.filter, h]
theorem flt_no {q : It → Bool} {l : List It} {k : Nat} (hk : k < l.length) (h : q (l.getD k default) = false) : (l.take k).filter q = (l.take (k + 1)).filter q := by
 rw [List.take_succ_eq_append_getElem hk, List.filter_append, ← It_idx hk]; simp only [List.filter, h, List.append_nil]
theorem tw_is {l : List It} {k : Nat} {i : Int} (hk : k ≤ l.length) (h : ∀ j, j < k → (l.getD j default).id < i) (h2 : k < l.length → i ≤ (l.getD k default).id) : l.takeWhile (fun y => decide (y.id < i)) = l.take k := by
 refine takeWhile_take _ l k (fun j hj hjk => ?_) hk (fun hh => ?_)
 · have := h j hjk; rw [It_idx hj] at this; simpa using this
 · have := h2 hh; rw [It_idx hh] at this; simpa using this
theorem move_put {l : List It} {a b q : Int} (ha : askedB l q = true) (hab : a ≠ b) (h1 : (findT l a).2 = true) (h2 : (findT l b).2 = true) :
   ((findT l a).1.free < q → moveP l a b q = ([], 42)) ∧ (q ≤ (findT l a).1.free → 1000000 - (findT l b).1.free - (findT l b).1.held - (findT l b).1.gone < q → moveP l a b q = ([], 43)) ∧
   (q ≤ (findT l a).1.free → q ≤ 1000000 - (findT l b).1.free - (findT l b).1.held - (findT l b).1.gone → moveP l a b q = (put (put l ⟨(findT l a).1.id, (findT l a).1.free - q, (findT l a).1.held, (findT l a).1.gone⟩) ⟨(findT l b).1.id, (findT l b).1.free + q, (findT l b).1.held, (findT l b).1.gone⟩, 0)) := by
 have hm1 := may_iff.1 (found_may ha h1)
 have hm2 := may_iff.1 (found_may ha h2)
 have hq := (askedB_ok ha).2
 have i1 := found_idx.1 h1
 have i2 := found_idx.1 h2
 unfold moveP
 rw [if_pos ⟨ha, hab⟩, if_neg (by omega)]
 have go : q ≤ (findT l a).1.free → (withP (outG q) l a q).2 = 0 := fun h => by
   rw [with_put ha h1 (found_id h1) (by unfold outG lentE; simp only; rw [if_neg (by omega)])]
 refine ⟨fun h => ?_, fun h h3 => ?_, fun h h3 => ?_⟩
 · have e : (outG q (findT l a).1).2 = 42 := by unfold outG lentE; simp only; rw [if_pos (by omega)]
   rw [with_err ha h1 (by rw [e]; decide), e]; simp
 all_goals
   have hk := with_keeps (go h) (fun x a b c d => outG_ok q x a b c d)
   rw [if_pos (go h)]
   obtain ⟨_, _, _, k4, k5, k6⟩ := hk
   have k7 := k6 b (Ne.symm hab)
 · have e : (inG q (findT l b).1).2 = 43 := by
     unfold inG
     rw [if_neg]
     intro e2
     have := may_iff.1 e2
     simp only at this
     omega
   rw [with_err k5 (by rw [k7]; exact h2) (by rw [k7, e]; decide), k7, e]
 · have e : inG q (findT l b).1 = (⟨(findT l b).1.id, (findT l b).1.free + q, (findT l b).1.held, (findT l b).1.gone⟩, 0) := by
     unfold inG
     rw [if_pos]
     exact may_iff.2 (by simp only; omega)
   rw [with_put k5 (by rw [k7]; exact h2) (by rw [k7, e]; exact found_id h2) (by rw [k7, e]), k7, e, k4]
   rfl
theorem move_item {l : List It} {a b q : Int} (h1 : (itemP l a q).2 = 0) (h2 : (itemP l b q).2 = 0) (hab : a ≠ b) :
   ((itemP l a q).1.free < q → moveP l a b q = ([], 42)) ∧ (q ≤ (itemP l a q).1.free → 1000000 - (itemP l b q).1.free - (itemP l b q).1.held - (itemP l b q).1.gone < q → moveP l a b q = ([], 43)) ∧
   (q ≤ (itemP l a q).1.free → q ≤ 1000000 - (itemP l b q).1.free - (itemP l b q).1.held - (itemP l b q).1.gone → moveP l a b q = (put (put l ⟨(itemP l a q).1.id, (itemP l a q).1.free - q, (itemP l a q).1.held, (itemP l a q).1.gone⟩) ⟨(itemP l b q).1.id, (itemP l b q).1.free + q, (itemP l b q).1.held, (itemP l b q).1.gone⟩, 0)) := by
 obtain ⟨ha, f1, e1⟩ := item_ok h1
 obtain ⟨_, f2, e2⟩ := item_ok h2
 rw [e1, e2]
 exact move_put ha hab f1 f2
theorem move_arg {l : List It} {a b q : Int} (h : (itemP l a q).2 = 2 ∨ a = b) : moveP l a b q = ([], 2) := by
 unfold moveP
 rw [if_neg]
 rintro ⟨ha, hab⟩
 rcases h with h | h
 · rcases itemP_cases l a q with ⟨h2, _⟩ | ⟨_, _, h2⟩ | ⟨_, _, h2⟩
   · rw [ha] at h2; cases h2
   · rw [h2] at h; cases h
   · rw [h2] at h; cases h
 · exact hab h
theorem move_none {l : List It} {a b q : Int} (h0 : (itemP l a q).2 ≠ 2 ∧ a ≠ b) (h : ¬ (itemP l a q).2 = 0 ∨ ¬ (itemP l b q).2 = 0) : moveP l a b q = ([], 40) := by
 have ha : askedB l q = true := by
   rcases itemP_cases l a q with ⟨h2, e⟩ | ⟨h2, _⟩ | ⟨h2, _⟩
   · rw [e] at h0; exact absurd rfl h0.1
   · exact h2
   · exact h2
 have key : ∀ c, ¬ (itemP l c q).2 = 0 → idx (fun x => x.id == c) l < 0 := by
   intro c hc
   rcases itemP_cases l c q with ⟨h2, _⟩ | ⟨_, hf, _⟩ | ⟨_, _, e⟩
   · rw [ha] at h2; cases h2
   · by_cases h3 : idx (fun x => x.id == c) l < 0
     · exact h3
     · rw [found_idx.2 h3] at hf; cases hf
   · rw [e] at hc; exact absurd rfl hc
 unfold moveP
 rw [if_pos ⟨ha, h0.2⟩, if_pos (h.imp (key a) (key b))]
theorem put_len (l : List It) (x : It) : (put l x).length ≤ 2 * l.length + 1 := by
 unfold put
 have h1 := (List.takeWhile_sublist (l := l) (fun y : It => decide (y.id < x.id))).length_le
 have h2 := List.length_filter_le (fun y : It => decide (x.id < y.id)) l
 simp only [List.length_append, List.length_cons]; omega
theorem create_ok {l : List It} {id q : Int} (h : okE l = 0) (h1 : 1 ≤ id ∧ id ≤ 99999) (h2 : 0 ≤ q ∧ q ≤ 1000000) : createP l id q = if (findT l id).2 = true then ([], 41) else if 20 ≤ l.length then ([], 8) else (put l ⟨id, q, 0, 0⟩, 0) := by
 unfold createP
 rw [if_pos ⟨h, may_iff.2 (by simp only; omega)⟩]
 cases hf : (findT l id).2 with
 | true => rw [if_pos (by have := found_idx.1 hf; omega)]; rfl
 | false =>
   rw [if_neg (fun h3 => by rw [found_idx.2 (by omega)] at hf; cases hf), insP_put (okE_ok.1 h) _ (find_none_ids hf)]; rfl
theorem create_arg {l : List It} {id q : Int} (h : okE l ≠ 0 ∨ ¬ (1 ≤ id ∧ id ≤ 99999 ∧ 0 ≤ q ∧ q ≤ 1000000)) : createP l id q = ([], 2) := by
 unfold createP
 rw [if_neg]
 rintro ⟨h1, h2⟩
 have := may_iff.1 h2
 simp only at this
 omega
theorem create_len (l : List It) (id q : Int) : (createP l id q).1.length ≤ l.length + 1 := by
 unfold createP
 split
 · split
   · simp
   · split
     · simp
     · unfold insP; split <;> simp <;> omega
 · simp
theorem move_len (l : List It) (a b q : Int) : (moveP l a b q).1.length ≤ l.length := by
 unfold moveP
 split
 · split
   · simp
   · split
     · exact Nat.le_trans (with_len _ _ _ _) (with_len _ _ _ _)
     · simp
 · simp
end Go.Proofs.YtcndnllmlhhjiaaGreatDoor.Stk
namespace Go.Proofs.YtcndnllmlhhjiaaGreatDoor.Stk
open StockP
def tot (x : It) : Int := x.free + x.held + x.gone
def one (id : Int) (x : It) : Int := if x.id = id then tot x else 0
def wS (w : It → Int) : List It → Int
 | [] => 0
 | x :: l => w x + wS w l
theorem wS_app (w : It → Int) (l m : List It) : wS w (l ++ m) = wS w l + wS w m := by
 induction l with
 | nil => simp [wS]
 | cons x l ih => simp only [List.cons_append, wS, ih]; omega
theorem wS_ins (w : It → Int) (l : List It) (k : Nat) (x : It) : wS w (l.take k ++ [x] ++ l.drop k) = wS w l + w x := by
 have h := congrArg (wS w) (List.take_append_drop k l)
 rw [wS_app] at h
 rw [wS_app, wS_app]
 simp only [wS]
 omega
theorem wS_set (w : It → Int) (l : List It) (k : Nat) (x : It) (h : k < l.length) : wS w (l.set k x) = wS w l - w (l.getD k default) + w x := by
 induction l generalizing k with
 | nil => simp at h
 | cons y l ih =>
   cases k with
   | zero => simp only [List.set_cons_zero, wS, List.getD_cons_zero]; omega
   | succ k => simp only [List.set_cons_succ, wS, List.getD_cons_succ, ih k (by simpa using h)]; omega
structure Sums (l r : List It) (id x y : Int) : Prop where
 all : wS tot r = wS tot l + x
 its : wS (one id) r = wS (one id) l + y
 ok : ok r = true
theorem with_sums {g : It → It × Int} {l : List It} {id q : Int} (a δ : Int) (h : (withP g l id q).2 = 0) (hg : ∀ x, may x = true → 1 ≤ q → q ≤ 1000000 → (g x).2 = 0 → may (g x).1 = true ∧ (g x).1.id = x.id ∧ tot (g x).1 = tot x + δ) :
   (1 ≤ q ∧ q ≤ 1000000) ∧ Sums l (withP g l id q).1 a δ (if id = a then δ else 0) := by
 have hk := with_keeps h (fun x h1 h2 h3 h4 => ⟨(hg x h1 h2 h3 h4).1, (hg x h1 h2 h3 h4).2.1⟩)
 obtain ⟨ha, hf, h0, _, hr, _⟩ := hk
 have hq := (askedB_ok ha).2
 have hi := found_idx.1 hf
 have hfy := find_yes hi
 have hpos := idx_pos hi
 have hfid := found_id hf
 have hfm := found_may ha hf
 rw [hfy] at h0 hfid hfm
 dsimp only at h0 hfid hfm
 have hw := with_good (g := g) ha hi h0
 have hlt : (idx (fun x => x.id == id) l).toNat < l.length := by omega
 have hgx := hg _ hfm hq.1 hq.2 h0
 refine ⟨hq, ?_, ?_, (askedB_ok hr).1⟩
 · rw [hw, wS_set _ _ _ _ hlt, hgx.2.2]; omega
 · rw [hw, wS_set _ _ _ _ hlt]
   have e1 : one a (g (l.getD (idx (fun x => x.id == id) l).toNat default)).1 = one a (l.getD (idx (fun x => x.id == id) l).toNat default) + (if id = a then δ else 0) := by
     unfold one
     rw [hgx.2.1, hgx.2.2, hfid]
     split <;> omega
   rw [e1]; omega
theorem lentE_zero {b c : Int} (h : lentE b c = 0) : 0 ≤ b ∧ 0 ≤ c := by
 unfold lentE at h
 split at h
 · cases h
 · omega
theorem hold_g (q : Int) (x : It) (hm : may x = true) (_ : 1 ≤ q) (_ : q ≤ 1000000) (h : (holdG q x).2 = 0) : may (holdG q x).1 = true ∧ (holdG q x).1.id = x.id ∧ tot (holdG q x).1 = tot x + 0 := by
 have h1 := lentE_zero (show lentE (x.free - q) (x.held + q) = 0 from h)
 have h2 := may_iff.1 hm
 exact ⟨may_iff.2 (by dsimp only [holdG]; omega), rfl, by unfold tot; dsimp only [holdG]; omega⟩
theorem free_g (q : Int) (x : It) (hm : may x = true) (_ : 1 ≤ q) (_ : q ≤ 1000000) (h : (freeG q x).2 = 0) : may (freeG q x).1 = true ∧ (freeG q x).1.id = x.id ∧ tot (freeG q x).1 = tot x + 0 := by
 have h1 := lentE_zero (show lentE (x.free + q) (x.held - q) = 0 from h)
 have h2 := may_iff.1 hm
 exact ⟨may_iff.2 (by dsimp only [freeG]; omega), rfl, by unfold tot; dsimp only [freeG]; omega⟩
theorem ship_g (q : Int) (x : It) (hm : may x = true) (_ : 1 ≤ q) (_ : q ≤ 1000000) (h : (shipG q x).2 = 0) : may (shipG q x).1 = true ∧ (shipG q x).1.id = x.id ∧ tot (shipG q x).1 = tot x + 0 := by
 have h1 := lentE_zero (show lentE x.free (x.held - q) = 0 from h)
 have h2 := may_iff.1 hm
 exact ⟨may_iff.2 (by dsimp only [shipG]; omega), rfl, by unfold tot; dsimp only [shipG]; omega⟩
theorem out_g (q : Int) (x : It) (hm : may x = true) (_ : 1 ≤ q) (_ : q ≤ 1000000) (h : (outG q x).2 = 0) : may (outG q x).1 = true ∧ (outG q x).1.id = x.id ∧ tot (outG q x).1 = tot x + -q := by
 have h1 := lentE_zero (show lentE (x.free - q) x.held = 0 from h)
 have h2 := may_iff.1 hm
 exact ⟨may_iff.2 (by dsimp only [outG]; omega), rfl, by unfold tot; dsimp only [outG]; omega⟩
theorem in_g (q : Int) (x : It) (_ : may x = true) (_ : 1 ≤ q) (_ : q ≤ 1000000) (h : (inG q x).2 = 0) : may (inG q x).1 = true ∧ (inG q x).1.id = x.id ∧ tot (inG q x).1 = tot x + q := by
 unfold inG at h ⊢
 split
 · rename_i h1; exact ⟨h1, rfl, by unfold tot; dsimp only; omega⟩
 · rename_i h1; rw [if_neg h1] at h; cases h
theorem put_ok {x : It} (hm : may x = true) : ∀ (l : List It) (p : Int), okFrom p l = true → p < x.id → (∀ y, y ∈ l → y.id ≠ x.id) → okFrom p (put l x) = true := by
 intro l
 induction l with
 | nil => intro p _ hp _; show okFrom p [x] = true; simp [okFrom, hm, hp]
 | cons y l ih =>
   intro p h hp hne
   have hlt := okFrom_lt (p := p) h
   simp only [okFrom, Bool.and_eq_true, decide_eq_true_eq] at h
   have hy := hne y List.mem_cons_self
   by_cases e : y.id < x.id
   · have e1 : put (y :: l) x = y :: put l x := by
       unfold put
       rw [List.takeWhile_cons_of_pos (by simpa using e), List.filter_cons_of_neg (by simp; omega)]; rfl
     rw [e1]
     simp only [okFrom, Bool.and_eq_true, decide_eq_true_eq]
     exact ⟨h.1, ih _ h.2 e (fun z hz => hne z (List.mem_cons_of_mem _ hz))⟩
   · have e1 : put (y :: l) x = x :: y :: l := by
       unfold put
       have hl2 := okFrom_lt h.2
       rw [List.takeWhile_cons_of_neg (by simpa using e), List.filter_eq_self.2 (by
         intro z hz
         rcases List.mem_cons.1 hz with rfl | hz
         · simp; omega
         · have := hl2 z hz; simp; omega)]; rfl
     rw [e1]
     simp only [okFrom, Bool.and_eq_true, decide_eq_true_eq]
     exact ⟨⟨hm, hp⟩, ⟨h.1.1, by omega⟩, h.2⟩
theorem create_sums {l : List It} {id q : Int} (h : (createP l id q).2 = 0) : (0 ≤ q ∧ q ≤ 1000000) ∧ Sums l (createP l id q).1 id q q := by
 unfold createP at h ⊢
 split at h
 · rename_i h1
   split at h
   · cases h
   · rename_i h2
     split at h
     · cases h
     · rename_i h3
       rw [if_pos h1, if_neg h2, if_neg h3]
       have hok := okE_ok.1 h1.1
       have hm := may_iff.1 h1.2
       have hf : (findT l id).2 = false := by rw [find_no (by omega)]
       have hne := find_none_ids hf
       refine ⟨by dsimp only at hm; omega, ?_, ?_, ?_⟩
       · show wS tot (insP l ⟨id, q, 0, 0⟩) = _
         unfold insP; split <;> rw [wS_ins] <;> simp [tot]
       · show wS (one id) (insP l ⟨id, q, 0, 0⟩) = _
         unfold insP; split <;> rw [wS_ins] <;> simp [one, tot]
       · show ok (insP l ⟨id, q, 0, 0⟩) = true
         have hlen : (insP l ⟨id, q, 0, 0⟩).length ≤ 20 := by
           unfold insP; split <;> simp <;> omega
         unfold ok
         rw [decide_eq_true hlen, Bool.true_and, insP_put hok _ hne]
         exact put_ok h1.2 l 0 (ok_from hok) (by dsimp only at hm ⊢; omega) hne
 · cases h
theorem move_sums {l : List It} {a b q : Int} (h : (moveP l a b q).2 = 0) : (1 ≤ q ∧ q ≤ 1000000) ∧ Sums l (moveP l a b q).1 a 0 (-q) := by
 unfold moveP at h ⊢
 split at h
 · rename_i h1
   split at h
   · cases h
   · rename_i h2
     split at h
     · rename_i h3
       rw [if_pos h1, if_neg h2, if_pos h3]
       obtain ⟨hq, s1⟩ := with_sums a (-q) h3 (out_g q)
       obtain ⟨_, s2⟩ := with_sums a q h (in_g q)
       rw [if_pos rfl] at s1
       rw [if_neg (fun e => h1.2 e.symm)] at s2
       refine ⟨hq, ?_, ?_, s2.ok⟩
       · rw [s2.all, s1.all]; omega
       · rw [s2.its, s1.its]; omega
     · rename_i h3; exact absurd h h3
 · cases h
end Go.Proofs.YtcndnllmlhhjiaaGreatDoor.Stk
namespace Go.Proofs.YtcndnllmlhhjiaaGreatDoor.SessP
structure Se where
 client : Int
 seq : Int
 reply : ByteArray
deriving DecidableEq
def numB (n : Int) : Bool := decide (1 ≤ n ∧ n ≤ 99999)
def may (s : Se) : Bool := numB s.client && numB s.seq && decide (s.reply.size ≤ 300)
def okFrom : Int → List Se → Bool
 | _, [] => true
 | p, x :: l => may x && decide (p < x.client) && okFrom x.client l
def ok (l : List Se) : Bool := decide (l.length ≤ 20) && okFrom 0 l
def okE (l : List Se) : Int := if ok l = true then 0 else 2
def lastId : Int → List Se → Int
 | p, [] => p
 | _, x :: l => lastId x.client l
theorem okFrom_snoc (l : List Se) (x : Se) : ∀ p, okFrom p (l ++ [x]) = (okFrom p l && (may x && decide (lastId p l < x.client))) := by
 induction l with
 | nil => intro p; simp [okFrom, lastId]; rfl
 | cons y l ih => intro p; simp only [List.cons_append, okFrom, ih, lastId, Bool.and_assoc]; rfl
theorem okFrom_prefix (l m : List Se) : ∀ p, okFrom p (l ++ m) = true → okFrom p l = true := by
 induction l with
 | nil => intro p _; rfl
 | cons y l ih =>
   intro p h
   simp only [List.cons_append, okFrom, Bool.and_eq_true] at h ⊢
   exact ⟨h.1, ih _ h.2⟩
theorem lastId_snoc (l : List Se) (x : Se) : ∀ p, lastId p (l ++ [x]) = x.client := by
 induction l with
 | nil => intro p; rfl
 | cons y l ih => intro p; exact ih y.client
theorem lastId_take (xs : List Se) (k : Nat) (h1 : 1 ≤ k) (h2 : k ≤ xs.length) : lastId 0 (xs.take k) = (xs[k - 1]'(by omega)).client := by
 obtain ⟨j, rfl⟩ : ∃ j, k = j + 1 := ⟨k - 1, by omega⟩
 rw [List.take_succ_eq_append_getElem (by omega), lastId_snoc]
 rfl
theorem okFrom_cut {xs : List Se} {k : Nat} (h : okFrom 0 (xs.take k) = false) : okFrom 0 xs = false := by
 cases h2 : okFrom 0 xs with
 | false => rfl
 | true =>
   rw [← List.take_append_drop k xs] at h2
   rw [okFrom_prefix _ _ _ h2] at h
   exact absurd h (by decide)
end Go.Proofs.YtcndnllmlhhjiaaGreatDoor.SessP
namespace Go.Proofs.YtcndnllmlhhjiaaGreatDoor.Ssn
open Go.RowKit
open SessP
def aSe (s : Se) : AV := .agg [.int .i64 s.client, .int .i64 s.seq, .str s.reply]
instance : Inhabited Se := ⟨⟨0, 0, ⟨#[]⟩⟩⟩
theorem Se_idx {l : List Se} {k : Nat} (h : k < l.length) : l.getD k default = l[k] := by simp [List.getD, h]

theorem number_fn (n : Int) : FnP Tryz.prog 83 [.int .i64 n] (.bool (numB n)) := by
 refine FnP.of Tryz.func83 rfl rfl (by simp) (by simp [AV.cells, aSe]) (fun G hG => ?_)
 have hN : NoH G.length (.bool (numB n)) := (by simp [AV.cells, aSe])
 refine sr fun _ => ?_
 refine mz (sr fun _ => ?_)
 refine mv ?_
 refine ρ2 ?_
 refine mv ?_
 refine ρg ?_
 refine ρb ?_
 refine ρ0 ?_
 refine mz ?_
 refine AWP.ret ?_
 refine ρi ?_
 simp [numB, Bool.decide_and]
theorem may_fn (s : Se) : FnP Tryz.prog 86 [aSe s] (.bool (may s)) := by
 refine FnP.of Tryz.func86 rfl rfl (by simp) (by simp [AV.cells, aSe]) (fun G hG => ?_)
 have hN : NoH G.length (.bool (may s)) := (by simp [AV.cells, aSe])
 refine sr fun _ => ?_
 refine ARun.box (j := 0) hG rfl rfl rfl rfl rfl (ep rfl) rfl rfl optN ?_
 refine mz (sr fun _ => ?_)
 refine ρ6 (fo := 0) U75 sz3 ?_
 refine ρd U3 ?_
 refine ρm cf83 (fun hg => number_fn _) ?_
 refine mv ?_
 refine ρx (fo := 1) U75 sz3 ?_
 refine ρw U3 ?_
 refine ρr cf83 (fun hg => number_fn _) ?_
 refine ρ0 ?_
 refine mv ?_
 refine ρx (fo := 2) U75 sz9 ?_
 refine ρw U9 ?_
 refine ARun.lenStr rfl rfl rfl rfl U9 (Ev.opt rfl (fun h => h)) optS ?_
 refine ρb ?_
 refine ρ0 ?_
 refine mz ?_
 refine AWP.ret ?_
 refine ρi ?_
 have : ((s.reply.size : Int) ≤ 300) ↔ s.reply.size ≤ 300 := by omega
 simp [may, this]
theorem step_ok (l : List Se) (k : Nat) (hk : k < l.length) : okFrom 0 (l.take (k + 1)) = (okFrom 0 (l.take k) && (may (l.getD k default) && decide (lastId 0 (l.take k) < (l.getD k default).client))) := by
 rw [Se_idx hk, show l.take (k + 1) = l.take k ++ [l[k]] by simp]; exact okFrom_snoc _ _ _
theorem last_of (l : List Se) (k : Nat) (hk : k ≤ l.length) : lastId 0 (l.take k) = if 0 < k then (l.getD (k - 1) default).client else 0 := by
 by_cases h : 0 < k
 · rw [if_pos h, lastId_take l k h hk, Se_idx (by omega)]
 obtain rfl : k = 0 := by omega
 rfl
theorem okE_bad {l : List Se} {k : Nat} (h : okFrom 0 (l.take (k + 1)) = false) : okE l = 2 := by
 unfold okE ok; rw [okFrom_cut h]; simp
theorem okE_big {l : List Se} (h : 20 < l.length) : okE l = 2 := by
 unfold okE ok; rw [decide_eq_false (by omega)]; simp
theorem okE_good {l : List Se} (h : l.length ≤ 20) (h2 : okFrom 0 l = true) : okE l = 0 := by
 unfold okE ok; rw [decide_eq_true h, h2]; simp
theorem chk_bad {l : List Se} {k : Nat} (hk : k < l.length) (h : may (l.getD k default) = false ∨ 0 < k ∧ (l.getD k default).client ≤ (l.getD (k - 1) default).client) : okE l = 2 := by
 refine okE_bad (k := k) ?_
 rw [step_ok l k hk, last_of l k (by omega)]
 rcases h with h | ⟨h, h2⟩
 · rw [h]; simp
 rw [if_pos h, decide_eq_false (by omega)]; simp
theorem may_pos {s : Se} (h : may s = true) : 0 < s.client := by
 unfold may numB at h; simp at h; omega
theorem may_iff {s : Se} : may s = true ↔ (1 ≤ s.client ∧ s.client ≤ 99999) ∧ (1 ≤ s.seq ∧ s.seq ≤ 99999) ∧ (s.reply.size : Int) ≤ 300 := by
 unfold may numB; simp [and_assoc]; omega
theorem chk_go {l : List Se} {k : Nat} (hk : k < l.length) (hok : okFrom 0 (l.take k) = true) (h : may (l.getD k default) = true ∧ (0 < k → (l.getD (k - 1) default).client < (l.getD k default).client)) : okFrom 0 (l.take (k + 1)) = true := by
 rw [step_ok l k hk, last_of l k (by omega), hok, h.1]
 have h1 := may_pos h.1
 by_cases hk0 : 0 < k
 · rw [if_pos hk0, decide_eq_true (h.2 hk0)]; rfl
 rw [if_neg hk0, decide_eq_true h1]; rfl
theorem check_fn (l : List Se) : FnP Tryz.prog 66 [.sl (l.map aSe)] (.int .i64 (okE l)) := by
 refine FnP.of Tryz.func66 rfl rfl (by simp) (by simp [AV.cells, aSe]) (fun G hG => ?_)
 have hN : NoH G.length (.int .i64 (okE l)) := (by simp [AV.cells, aSe])
 refine sr fun _ => ?_
 refine mz ?_
 refine AWP.seq (sr fun _ => ?_)
 refine mv ?_
 refine ρv U23 ?_
 refine ρ2 ?_
 refine ez ?_
 refine ρp (fun h0 => ?_) (fun h0 => ?_)
 · simp [-List.getD_eq_getElem?_getD] at h0
   refine sr fun _ => ?_
   refine mz ?_
   refine AWP.ret (thenA_r ?_)
   refine ρi ?_
   rw [okE_big (by omega)]; rfl
 simp [-List.getD_eq_getElem?_getD] at h0
 refine AWP.skip (thenA_n (AWP.seq (sr fun _ => ?_)))
 refine mv ?_
 refine ρv U23 ?_
 refine mv ?_
 refine ez ?_
 refine AWP.block ?_
 refine AWP.rounds (fun k => k ≤ l.length ∧ okFrom 0 (l.take k) = true) (fun k => [(0, .sl (l.map aSe)), (8, .sl (l.map aSe)), (9, .int .i64 ((l.map aSe).length : Int)), (10, .int .i64 (k : Int))]) (fun k => []) (fun k => l.length - k) 0 0 ⟨by omega, rfl⟩ (by repeat (first | exact .nil | refine .cons rfl ?_)) rfl (fun _ => rfl) (fun _ => (by simp [AO.conts, AV.cells, aSe])) (fun k hI => ?_)
 obtain ⟨hk, hok⟩ := hI
 refine sr fun _ => ?_
 refine ρ2 ?_
 refine ez ?_
 refine AWP.seq ?_
 refine ρp (fun h1 => ?_) (fun h1 => ?_)
 · simp [-List.getD_eq_getElem?_getD] at h1
   refine AWP.skip (thenA_n ?_)
   refine AWP.seq (AWP.block (sr fun _ => ?_))
   refine mv ?_
   refine ρf U23 sz75 ?_
   refine ρl U75 sz75 ?_
   refine ρo (j := 0) zv75 ?_
   refine ma ?_
   refine ρ1 sz75 ?_
   refine ez ?_
   refine AWP.seq ?_
   refine ρE mixed (fun _ => ?_)
   refine ρn U75 sz75 ?_
   refine ρm cf86 (fun hg => may_fn _) ?_
   refine ρC ?_
   refine mv ?_
   refine ρg ?_
   refine ρb ?_
   refine ARun.move (.inl rfl) rfl rfl rfl (Ev.opt rfl (fun h => h)) optS ?_
   refine ρx (fo := 0) U75 sz3 ?_
   refine ρw U3 ?_
   refine ρg ?_
   refine ρg ?_
   refine ARun.arith rfl rfl rfl rfl (Ev.opt rfl (fun h => h)) (ep rfl) rfl (fun hg => i64w (by (try simp at hg); omega)) optS ?_
   refine ρq U23 sz75 ?_
   refine ρB U75 sz3 ?_
   refine ρ5 U3 ?_
   refine ρs ?_
   refine ρD ?_
   refine ρ3 ?_
   refine ⟨by kernel_rfl, _, _, rfl, hG, ?_⟩
   refine thenA_n ?_
   refine ρp (fun h2 => ?_) (fun h2 => ?_)
   · simp [-List.getD_eq_getElem?_getD] at h2
     refine sr fun _ => ?_
     refine mz ?_
     refine AWP.ret (blockA_r ?_)
     refine thenA_r (thenA_r ?_)
     refine blockA_r (thenA_r ?_)
     refine ρi ?_
     rw [chk_bad h1 h2]; rfl
   simp [-List.getD_eq_getElem?_getD] at h2
   refine AWP.skip (blockA_n (thenA_n ?_))
   refine AWP.region (fun _ => ?_)
   refine ρa ?_
   refine mv ?_
   refine ⟨_, _, rfl, hG, ?_⟩
   refine thenA_n ⟨rfl, k + 1, _, ?_, ?_, rfl, ?_⟩
   · exact ⟨by omega, chk_go h1 hok h2⟩
   · repeat (first | exact .nil | refine .cons rfl ?_)
   omega
 simp [-List.getD_eq_getElem?_getD] at h1
 refine AWP.exit ?_
 refine thenA_x ?_
 refine thenA_x ?_
 refine blockA_h ?_
 refine thenA_n (sr fun _ => ?_)
 refine mz ?_
 refine AWP.ret ?_
 refine ρi ?_
 rw [okE_good (by omega) (by rw [← List.take_of_length_le h1]; exact hok)]; rfl
theorem indexSe (F : Nat) (fs cs : List AV) (p : Se → Bool) (l : List Se) (hl : l.length ≤ 9223372036854775807) (hcf : ∀ (vs : Array Value) (W : World), (callFunc F vs).run Tryz.prog W = .ok (.enter F vs) W) (hn : (∀ x, x ∈ fs → NoH 0 x) ∧ ∀ x, x ∈ cs → NoH 0 x) (hp : ∀ x, x ∈ l → FnP Tryz.prog F (fs ++ [aSe x] ++ cs) (.bool (p x))) : FnP Tryz.prog 88 [.sl (l.map aSe), .fn (.func F) fs cs] (.int .i64 (idxOf p l)) := by
 refine FnP.of Tryz.func88 rfl rfl (by simp) (by simp [AV.cells, aSe]) (fun G hG => ?_)
 have hN : NoH G.length (.int .i64 (idxOf p l)) := (by simp [AV.cells, aSe])
 refine sr fun _ => ?_
 refine mz ?_
 refine AWP.seq (sr fun _ => ?_)
 refine mv ?_
 refine ρv U23 ?_
 refine mv ?_
 refine ez ?_
 refine AWP.block ?_
 refine AWP.rounds (fun k => k ≤ l.length ∧ ∀ j, j < k → p (l.getD j default) = false) (fun k => [(0, .sl (l.map aSe)), (1, .fn (.func F) fs cs), (7, .int .i64 ((l.map aSe).length : Int)), (8, .int .i64 (k : Int))]) (fun k => []) (fun k => l.length - k) 0 0 ⟨by omega, fun j h => by omega⟩ (by repeat (first | exact .nil | refine .cons rfl ?_)) rfl (fun _ => rfl) (fun _ => ⟨by simp [AV.cells, aSe]; exact ⟨fun x hx => (hn.1 x hx).mono (by omega), fun x hx => (hn.2 x hx).mono (by omega)⟩, by simp⟩) (fun k hI => ?_)
 obtain ⟨hk, hno⟩ := hI
 refine sr fun _ => ?_
 refine ρ2 ?_
 refine ez ?_
 refine AWP.seq ?_
 refine ρp (fun h0 => ?_) (fun h0 => ?_)
 · try simp [-List.getD_eq_getElem?_getD] at h0
   refine AWP.skip (thenA_n ?_)
   refine AWP.seq (AWP.block (sr fun _ => ?_))
   refine mv ?_
   refine mz (sr fun _ => ?_)
   refine mv ?_
   refine mv ?_
   refine mv ?_
   refine ρf U23 sz75 ?_
   refine ρl U75 sz75 ?_
   refine ρA hcf ?_ (hF := fun hg => hp _ (by rw [List.getD, List.getElem?_eq_getElem h0]; exact List.getElem_mem h0))
   refine ez ?_
   refine ρp (fun h1 => ?_) (fun h1 => ?_)
   · try simp [-List.getD_eq_getElem?_getD] at h1
     refine sr fun _ => ?_
     refine mv ?_
     refine mz ?_
     refine AWP.ret (blockA_r ?_)
     refine thenA_r (thenA_r ?_)
     refine blockA_r (thenA_r ?_)
     refine ρi ?_
     rw [idx_hit h0 hno h1]
   try simp [-List.getD_eq_getElem?_getD] at h1
   refine AWP.skip (blockA_n (thenA_n ?_))
   refine AWP.region (fun _ => ?_)
   refine ρa ?_
   refine mv ?_
   refine ⟨_, _, rfl, hG, ?_⟩
   refine thenA_n ⟨rfl, k + 1, _, ?_, ?_, rfl, ?_⟩
   · refine ⟨by omega, fun j hj => ?_⟩
     by_cases e : j = k
     · subst e; exact h1
     exact hno j (by omega)
   · repeat (first | exact .nil | refine .cons rfl ?_)
   omega
 try simp [-List.getD_eq_getElem?_getD] at h0
 refine AWP.exit ?_
 refine thenA_x ?_
 refine thenA_x ?_
 refine blockA_h ?_
 refine thenA_n (sr fun _ => ?_)
 refine mz ?_
 refine AWP.ret ?_
 refine ρi ?_
 rw [idx_none (fun j hj => hno j (by omega))]; rfl



def findP (l : List Se) (c : Int) : Se × Bool := if 0 ≤ idxOf (fun x => decide (x.client = c)) l then (l.getD (idxOf (fun x => decide (x.client = c)) l).toNat default, true) else (default, false)
theorem idx_range {α : Type} (p : α → Bool) (l : List α) : -1 ≤ idxOf p l ∧ idxOf p l < l.length := by
 unfold idxOf
 cases h : l.findIdx? p with
 | none => simp; omega
 | some i =>
   obtain ⟨hi, _⟩ := List.findIdx?_eq_some_iff_getElem.1 h
   simp; omega
theorem off_fn (x : Se) (c : Int) : FnP Tryz.prog 130 [aSe x, .pe [.int .i64 c]] (.bool (decide (x.client = c))) := by
 refine FnP.of Tryz.func130 rfl rfl (by simp) (by simp [AV.cells, aSe]) (fun G hG => ?_)
 have hN : NoH G.length (.bool (decide (x.client = c))) := (by simp [AV.cells, aSe])
 refine sr fun _ => ?_
 refine ARun.box (j := 0) hG rfl rfl rfl rfl rfl (ep rfl) rfl rfl optN ?_
 refine mz (sr fun _ => ?_)
 refine ρ6 (fo := 0) U75 sz3 ?_
 refine ρd U3 ?_
 refine ρ7 U3 ?_
 refine ρ2 ?_
 refine mz ?_
 refine AWP.ret ?_
 refine ρi ?_
 rfl
theorem of_fn (c : Int) : FnP Tryz.prog 89 [.int .i64 c] (.fn (.func 130) [] [.pe [.int .i64 c]]) := by
 refine FnP.of Tryz.func89 rfl rfl (by simp) (by simp [AV.cells, aSe]) (fun G hG => ?_)
 have hN : NoH G.length (.fn (.func 130) [] [.pe [.int .i64 c]]) := (by simp [AV.cells, aSe])
 refine sr fun _ => ?_
 refine ARun.box1 (j := 0) hG rfl rfl rfl rfl rfl (ep rfl) (by first | rfl | exact aEr_one _ | exact aFl_one _) optN ?_
 refine mz ?_
 refine AWP.seq ?_
 refine AWP.frzBox 1 hG rfl rfl rfl ?_
 refine AWP.region (fun _ => ?_)
 refine ARun.makeFunc rfl rfl rfl rfl .nil (.cons (ep rfl) .nil) optN ?_
 refine mz ?_
 refine AWP.ret ?_
 refine ρi ?_
 rfl
theorem find_fn (l : List Se) (c : Int) (hl : l.length ≤ 9223372036854775807) : FnP Tryz.prog 84 [.sl (l.map aSe), .int .i64 c] (.tup [aSe (findP l c).1, .bool (findP l c).2]) := by
 have hr := idx_range (fun x : Se => decide (x.client = c)) l
 refine FnP.of Tryz.func84 rfl rfl (by simp) (by simp [AV.cells, aSe]) (fun G hG => ?_)
 have hN : NoH G.length (.tup [aSe (findP l c).1, .bool (findP l c).2]) := (by simp [AV.cells, aSe])
 refine sr fun _ => ?_
 refine ρo (j := 0) zv75 ?_
 refine mz (sr fun _ => ?_)
 refine mv ?_
 refine mv ?_
 refine ρm cf89 (fun hg => of_fn _) ?_
 refine ρk cf88 ?_ (hF := fun hg => indexSe 130 [] _ (fun x => decide (x.client = c)) l hl cf130 (by simp) (fun x _ => off_fn x c))
 refine mz ?_
 refine AWP.seq (sr fun _ => ?_)
 refine mv ?_
 refine ρ2 ?_
 refine ez ?_
 refine ρp (fun h0 => ?_) (fun h0 => ?_)
 · simp at h0
   refine sr fun _ => ?_
   refine ARun.build rfl rfl rfl rfl so75 .nil rfl rfl optN ?_
   refine ρ1 sz75 ?_
   refine mz ?_
   refine AWP.ret (thenA_r ?_)
   refine ρj (rs := [.cell 4 75, .tmp 5]) (.cons (.cellA rfl ((hG.at _ _).trans rfl) U75 rfl sz75 rfl rfl) (.cons (.tmp rfl) .nil)) ?_
   rw [show findP l c = (default, false) from by unfold findP; rw [if_neg (by omega)]]; rfl
 simp at h0
 refine AWP.skip (thenA_n (sr fun _ => ?_))
 refine mv ?_
 refine mv ?_
 refine ρ8 U23 sz75 ?_
 refine ρl U75 sz75 ?_
 refine ρ1 sz75 ?_
 refine mz ?_
 refine AWP.ret ?_
 refine ρj (rs := [.cell 4 75, .tmp 5]) (.cons (.cellA rfl ((hG.at _ _).trans rfl) U75 rfl sz75 rfl rfl) (.cons (.tmp rfl) .nil)) ?_
 rw [show findP l c = (l.getD (idxOf (fun x => decide (x.client = c)) l).toNat default, true) from by unfold findP; rw [if_pos (by omega)]]; rfl
def askP (l : List Se) (c q : Int) : ByteArray × Bool × Int :=
 if okE l = 0 ∧ numB c = true ∧ numB q = true then
   if (findP l c).2 = true then
     if (findP l c).1.seq = q then ((findP l c).1.reply, true, 0) else if q < (findP l c).1.seq then (⟨#[]⟩, false, 45) else (⟨#[]⟩, false, 0)
   else if 20 ≤ l.length then (⟨#[]⟩, false, 8) else (⟨#[]⟩, false, 0)
 else (⟨#[]⟩, false, 2)
theorem findP_id {l : List Se} {c : Int} (h : (findP l c).2 = true) : (findP l c).1.client = c := by
 unfold findP at h ⊢
 split at h
 · rename_i hp
   rw [if_pos hp]
   unfold idxOf at hp ⊢
   cases hf : l.findIdx? (fun x => decide (x.client = c)) with
   | none => rw [hf] at hp; simp at hp
   | some i =>
     obtain ⟨hi, h2, _⟩ := List.findIdx?_eq_some_iff_getElem.1 hf
     simp [hi]; simpa using h2
 simp at h
theorem okE_two (l : List Se) : okE l = 0 ∨ okE l = 2 := by unfold okE; split <;> simp
theorem ask_fn (l : List Se) (c q : Int) (hl : l.length ≤ 9223372036854775807) : FnP Tryz.prog 54 [.sl (l.map aSe), .int .i64 c, .int .i64 q] (.tup [.str (askP l c q).1, .bool (askP l c q).2.1, .int .i64 (askP l c q).2.2]) := by
 have hid := findP_id (l := l) (c := c)
 refine FnP.of Tryz.func54 rfl rfl (by simp) (by simp [AV.cells, aSe]) (fun G hG => ?_)
 have hN : NoH G.length (.tup [.str (askP l c q).1, .bool (askP l c q).2.1, .int .i64 (askP l c q).2.2]) := (by simp [AV.cells, aSe])
 refine sr fun _ => ?_
 refine ma ?_
 refine ma ?_
 refine mz ?_
 refine AWP.seq (sr fun _ => ?_)
 refine mv ?_
 refine ρm cf66 (fun hg => check_fn l) ?_
 refine ρ2 ?_
 refine mv ?_
 refine ρg ?_
 refine ρr cf83 (fun hg => number_fn _) ?_
 refine ARun.not rfl rfl rfl rfl (Ev.opt rfl (fun h => h)) optS ?_
 refine ρ3 ?_
 refine mv ?_
 refine ρg ?_
 refine ρr cf83 (fun hg => number_fn _) ?_
 refine ARun.not rfl rfl rfl rfl (Ev.opt rfl (fun h => h)) optS ?_
 refine ρ3 ?_
 refine ez ?_
 refine ρp (fun h0 => ?_) (fun h0 => ?_)
 · simp at h0
   refine sr fun _ => ?_
   refine ma ?_
   refine ma ?_
   refine mz ?_
   refine AWP.ret (thenA_r ?_)
   refine ρj (rs := [.tmp 6, .tmp 7, .tmp 8]) (.cons (.tmp rfl) (.cons (.tmp rfl) (.cons (.tmp rfl) .nil))) ?_
   unfold askP; rw [if_neg (by rintro ⟨a, b, c⟩; simp_all)]; rfl
 simp at h0
 refine AWP.skip (thenA_n (sr fun _ => ?_))
 refine mv ?_
 refine mv ?_
 refine ρh cf84 (fun hg => find_fn l c hl) ?_
 refine mv ?_
 refine ρ9 ?_
 refine ρ9 ?_
 refine ρo (j := 0) zv75 ?_
 refine ρ1 sz75 ?_
 refine mz ?_
 refine AWP.seq (AWP.block (sr fun _ => ?_))
 refine mv ?_
 refine ρC ?_
 refine mv ?_
 refine ρg ?_
 refine ARun.lenSl rfl rfl rfl rfl U23 (Ev.opt rfl (fun h => h)) optS ?_
 refine ρb ?_
 refine ρ0 ?_
 refine mz ?_
 refine ρp (fun h1 => ?_) (fun h1 => ?_)
 · simp at h1
   refine sr fun _ => ?_
   refine ma ?_
   refine ma ?_
   refine mz ?_
   refine AWP.ret (blockA_r (thenA_r ?_))
   refine ρj (rs := [.tmp 6, .tmp 7, .tmp 8]) (.cons (.tmp rfl) (.cons (.tmp rfl) (.cons (.tmp rfl) .nil))) ?_
   unfold askP; rw [if_pos ⟨h0.1.1, h0.1.2, h0.2⟩, if_neg (by simp [h1.1]), if_pos (by omega)]; rfl
 simp at h1
 refine sr fun _ => ?_
 refine mv ?_
 refine mv ?_
 refine ARun.loadBoxA rfl rfl rfl rfl U75 rfl sz75 (ep rfl) ((hG.at _ _).trans rfl) rfl rfl optS ?_
 refine ρg ?_
 refine ρg ?_
 refine ρx (fo := 2) U75 sz9 ?_
 refine ρw U9 ?_
 refine ARun.build rfl rfl rfl rfl so75 (.cons (Ev.opt rfl (fun h => h)) (.cons (Ev.opt rfl (fun h => h)) (.cons (Ev.opt rfl (fun h => h)) .nil))) rfl rfl optS ?_
 refine ARun.eqAgg rfl rfl rfl rfl eq75 (Ev.opt rfl (fun h => h)) (Ev.opt rfl (fun h => h)) rfl (.inl ⟨rfl, rfl⟩) optS ?_
 refine ρ0 ?_
 refine mz ?_
 refine ρp (fun h2 => ?_) (fun h2 => ?_)
 · simp at h2
   refine sr fun _ => ?_
   refine ρ6 (fo := 2) U75 sz9 ?_
   refine ρd U9 ?_
   refine ma ?_
   refine ma ?_
   refine mz ?_
   refine AWP.ret (blockA_r (thenA_r ?_))
   refine ρj (rs := [.tmp 6, .tmp 7, .tmp 8]) (.cons (.tmp rfl) (.cons (.tmp rfl) (.cons (.tmp rfl) .nil))) ?_
   unfold askP; rw [if_pos ⟨h0.1.1, h0.1.2, h0.2⟩, if_pos h2.1, if_pos h2.2.2]; rfl
 simp at h2
 refine sr fun _ => ?_
 refine mv ?_
 refine mv ?_
 refine ρx (fo := 1) U75 sz3 ?_
 refine ρw U3 ?_
 refine ρg ?_
 refine ρs ?_
 refine ρ0 ?_
 refine mz ?_
 refine ρp (fun h3 => ?_) (fun h3 => ?_)
 · simp at h3
   refine sr fun _ => ?_
   refine ma ?_
   refine ma ?_
   refine mz ?_
   refine AWP.ret (blockA_r (thenA_r ?_))
   refine ρj (rs := [.tmp 6, .tmp 7, .tmp 8]) (.cons (.tmp rfl) (.cons (.tmp rfl) (.cons (.tmp rfl) .nil))) ?_
   unfold askP; rw [if_pos ⟨h0.1.1, h0.1.2, h0.2⟩, if_pos h3.1, if_neg (fun e => h2 h3.1 (hid h3.1) e), if_pos h3.2]; rfl
 simp at h3
 refine AWP.skip (blockA_n (thenA_n (sr fun _ => ?_)))
 refine ma ?_
 refine ma ?_
 refine mz ?_
 refine AWP.ret ?_
 refine ρj (rs := [.tmp 6, .tmp 7, .tmp 8]) (.cons (.tmp rfl) (.cons (.tmp rfl) (.cons (.tmp rfl) .nil))) ?_
 unfold askP; rw [if_pos ⟨h0.1.1, h0.1.2, h0.2⟩]
 by_cases hf : (findP l c).2 = true
 · rw [if_pos hf, if_neg (fun e => h2 hf (hid hf) e), if_neg (by have := h3 hf; omega)]; rfl
 rw [if_neg hf, if_neg (by have := h1 (by simpa using hf); omega)]; rfl
theorem checkR_fn (l : List Se) : FnP Tryz.prog 47 [.sl (l.map aSe)] (.int .i64 (okE l)) := by
 refine FnP.of Tryz.func47 rfl rfl (by simp) (by simp [AV.cells, aSe]) (fun G hG => ?_)
 have hN : NoH G.length (.int .i64 (okE l)) := (by simp [AV.cells, aSe])
 refine sr fun _ => ?_
 refine mz ?_
 refine AWP.seq (sr fun _ => ?_)
 refine mv ?_
 refine ρv U23 ?_
 refine ρ2 ?_
 refine ez ?_
 refine ρp (fun h0 => ?_) (fun h0 => ?_)
 · simp [-List.getD_eq_getElem?_getD] at h0
   refine sr fun _ => ?_
   refine mz ?_
   refine AWP.ret (thenA_r ?_)
   refine ρi ?_
   rw [okE_big (by omega)]; rfl
 simp [-List.getD_eq_getElem?_getD] at h0
 refine AWP.skip (thenA_n (AWP.seq (sr fun _ => ?_)))
 refine mz ?_
 refine AWP.block ?_
 refine AWP.rounds (fun k => k ≤ l.length ∧ okFrom 0 (l.take k) = true) (fun k => [(0, .sl (l.map aSe)), (3, .int .i64 (k : Int))]) (fun k => []) (fun k => l.length - k) 0 0 ⟨by omega, rfl⟩ (by repeat (first | exact .nil | refine .cons rfl ?_)) rfl (fun _ => rfl) (fun _ => (by simp [AO.conts, AV.cells, aSe])) (fun k hI => ?_)
 obtain ⟨hk, hok⟩ := hI
 refine AWP.seq (sr fun _ => ?_)
 refine mv ?_
 refine mv ?_
 refine ρv U23 ?_
 refine ρ2 ?_
 refine ez ?_
 refine ρp (fun h1 => ?_) (fun h1 => ?_)
 · simp [-List.getD_eq_getElem?_getD] at h1
   refine AWP.skip (thenA_n ?_)
   refine AWP.seq (AWP.block (AWP.seq ?_))
   refine ρE mixed (fun _ => ?_)
   refine mv ?_
   refine mv ?_
   refine ρf U23 sz75 ?_
   refine ρ4 U75 sz3 ?_
   refine ρ7 U3 ?_
   refine ρ2 ?_
   refine mv ?_
   refine ρg ?_
   refine ρg ?_
   refine ρu U23 sz75 ?_
   refine ρB U75 sz3 ?_
   refine ρ5 U3 ?_
   refine ρb ?_
   refine ρ3 ?_
   refine mv ?_
   refine ρg ?_
   refine ρg ?_
   refine ρu U23 sz75 ?_
   refine ρB U75 sz3 ?_
   refine ρ5 U3 ?_
   refine ρb ?_
   refine ρ3 ?_
   refine mv ?_
   refine ρg ?_
   refine ρg ?_
   refine ρu U23 sz75 ?_
   refine ρB U75 sz3 ?_
   refine ρ5 U3 ?_
   refine ρb ?_
   refine ρ3 ?_
   refine mv ?_
   refine ρg ?_
   refine ρg ?_
   refine ρu U23 sz75 ?_
   refine ρB U75 sz9 ?_
   refine ρ5 U9 ?_
   refine ARun.lenStr rfl rfl rfl rfl U9 (Ev.opt rfl (fun h => h)) optS ?_
   refine ρb ?_
   refine ρ3 ?_
   refine mv ?_
   refine ρg ?_
   refine ρb ?_
   refine ARun.move (.inl rfl) rfl rfl rfl (Ev.opt rfl (fun h => h)) optS ?_
   refine ρg ?_
   refine ρg ?_
   refine ρu U23 sz75 ?_
   refine ρB U75 sz3 ?_
   refine ρ5 U3 ?_
   refine ρg ?_
   refine ρg ?_
   refine ARun.arith rfl rfl rfl rfl (Ev.opt rfl (fun h => h)) (ep rfl) rfl (fun hg => i64w (by (try simp at hg); omega)) optS ?_
   refine ρq U23 sz75 ?_
   refine ρB U75 sz3 ?_
   refine ρ5 U3 ?_
   refine ρs ?_
   refine ρD ?_
   refine ρ3 ?_
   refine ⟨by kernel_rfl, _, _, rfl, hG, ?_⟩
   refine thenA_n ?_
   refine ρp (fun h2 => ?_) (fun h2 => ?_)
   · simp [-List.getD_eq_getElem?_getD] at h2
     refine sr fun _ => ?_
     refine mz ?_
     refine AWP.ret (blockA_r ?_)
     refine thenA_r (thenA_r ?_)
     refine blockA_r (thenA_r ?_)
     refine ρi ?_
     rw [chk_bad h1 (by
       rcases h2 with h | h
       · left
         cases hm : may (l.getD k default) with
         | false => rfl
         | true => rw [may_iff] at hm; omega
       · exact .inr h)]; rfl
   simp [-List.getD_eq_getElem?_getD] at h2
   refine AWP.skip (blockA_n (thenA_n ?_))
   refine AWP.region (fun _ => ?_)
   refine mv ?_
   refine ρa ?_
   refine ma ?_
   refine ⟨_, _, rfl, hG, ?_⟩
   refine thenA_n ⟨rfl, k + 1, _, ?_, ?_, rfl, ?_⟩
   · exact ⟨by omega, chk_go h1 hok ⟨may_iff.2 (by omega), h2.2⟩⟩
   · repeat (first | exact .nil | refine .cons rfl ?_)
   omega
 simp [-List.getD_eq_getElem?_getD] at h1
 refine AWP.exit ?_
 refine thenA_x ?_
 refine thenA_x ?_
 refine blockA_h ?_
 refine thenA_n (sr fun _ => ?_)
 refine mz ?_
 refine AWP.ret ?_
 refine ρi ?_
 rw [okE_good (by omega) (by rw [← List.take_of_length_le h1]; exact hok)]; rfl
theorem findR_fn (l : List Se) (c : Int) (hl : l.length ≤ 9223372036854775807) : FnP Tryz.prog 93 [.sl (l.map aSe), .int .i64 c] (.tup [aSe (findP l c).1, .bool (findP l c).2]) := by
 refine FnP.of Tryz.func93 rfl rfl (by simp) (by simp [AV.cells, aSe]) (fun G hG => ?_)
 have hN : NoH G.length (.tup [aSe (findP l c).1, .bool (findP l c).2]) := (by simp [AV.cells, aSe])
 refine sr fun _ => ?_
 refine ρo (j := 0) zv75 ?_
 refine mz ?_
 refine AWP.seq (sr fun _ => ?_)
 refine mz ?_
 refine AWP.block ?_
 refine AWP.rounds (fun k => k ≤ l.length ∧ ∀ j, j < k → decide ((l.getD j default).client = c) = false) (fun k => [(0, .sl (l.map aSe)), (1, .int .i64 c), (4, .box (G.length + 0) 0), (5, .bool false), (6, .int .i64 (k : Int))]) (fun k => [.box [.int .i64 0, .int .i64 0, .str ⟨#[]⟩]]) (fun k => l.length - k) 1 0 ⟨by omega, fun j h => by omega⟩ (by repeat (first | exact .nil | refine .cons rfl ?_)) rfl (fun _ => rfl) (fun _ => (by simp [AO.conts, AV.cells, aSe])) (fun k hI => ?_)
 obtain ⟨hk, hno⟩ := hI
 refine AWP.seq (sr fun _ => ?_)
 refine mv ?_
 refine mv ?_
 refine ρv U23 ?_
 refine ρ2 ?_
 refine ez ?_
 refine ρp (fun h0 => ?_) (fun h0 => ?_)
 · simp [-List.getD_eq_getElem?_getD] at h0
   refine AWP.skip (thenA_n ?_)
   refine AWP.seq (AWP.block (sr fun _ => ?_))
   refine mv ?_
   refine mv ?_
   refine ρf U23 sz75 ?_
   refine ρ4 U75 sz3 ?_
   refine ρ7 U3 ?_
   refine mv ?_
   refine ρ2 ?_
   refine ez ?_
   refine ρp (fun h1 => ?_) (fun h1 => ?_)
   · simp [-List.getD_eq_getElem?_getD] at h1
     refine sr fun _ => ?_
     refine mv ?_
     refine mv ?_
     refine ρf U23 sz75 ?_
     refine ρl U75 sz75 ?_
     refine ρ1 sz75 ?_
     refine mz ?_
     refine AWP.ret (blockA_r ?_)
     refine thenA_r (thenA_r ?_)
     refine blockA_r (thenA_r ?_)
     refine ρj (rs := [.cell 4 75, .tmp 5]) (.cons (.cellA rfl ((hG.at _ _).trans rfl) U75 rfl sz75 rfl rfl) (.cons (.tmp rfl) .nil)) ?_
     have hi := idx_hit (p := fun x : Se => decide (x.client = c)) h0 hno (by simpa using h1)
     rw [show findP l c = (l.getD k default, true) from by unfold findP; rw [hi, if_pos (by omega)]; rfl]; rfl
   simp [-List.getD_eq_getElem?_getD] at h1
   refine AWP.skip (blockA_n (thenA_n ?_))
   refine AWP.region (fun _ => ?_)
   refine mv ?_
   refine ρa ?_
   refine ma ?_
   refine ⟨_, _, rfl, hG, ?_⟩
   refine thenA_n ⟨rfl, k + 1, _, ?_, ?_, rfl, ?_⟩
   · refine ⟨by omega, fun j hj => ?_⟩
     by_cases e : j = k
     · subst e; simpa using h1
     exact hno j (by omega)
   · repeat (first | exact .nil | refine .cons rfl ?_)
   omega
 simp [-List.getD_eq_getElem?_getD] at h0
 refine AWP.exit ?_
 refine thenA_x ?_
 refine thenA_x ?_
 refine blockA_h ?_
 refine thenA_n (sr fun _ => ?_)
 refine ARun.build rfl rfl rfl rfl so75 .nil rfl rfl optN ?_
 refine ρ1 sz75 ?_
 refine mz ?_
 refine AWP.ret ?_
 refine ρj (rs := [.cell 4 75, .tmp 5]) (.cons (.cellA rfl ((hG.at _ _).trans rfl) U75 rfl sz75 rfl rfl) (.cons (.tmp rfl) .nil)) ?_
 have hi := idx_none (p := fun x : Se => decide (x.client = c)) (l := l) (fun j hj => hno j (by omega))
 rw [show findP l c = (default, false) from by unfold findP; rw [hi, if_neg (by omega)]]; rfl
end Go.Proofs.YtcndnllmlhhjiaaGreatDoor.Ssn
namespace Go.Proofs.YtcndnllmlhhjiaaGreatDoor.Ssn
open Go.ChangeShapes Go.WideShapes Go.ChangeAt Go.RowKit
open SessP
def encSe (x : Se) : List Value := [.int .i64 x.client, .int .i64 x.seq, .string x.reply]
theorem encSe_len (x : Se) : (encSe x).length = 3 := rfl
structure BoxSe (W : World) (B : Nat) (a0 a1 a2 : Value) : Prop where
 size : B < W.heap.size
 x0 : W.cell? ⟨B, 0, none⟩ = some a0
 x1 : W.cell? ⟨B, 1, none⟩ = some a1
 x2 : W.cell? ⟨B, 2, none⟩ = some a2
 fz : ∀ j, W.frozen? ⟨B, j, none⟩ = false
theorem infoSe : (Tryz.prog.info? 75).map (fun i => (i.zero, i.size, i.bytes)) = some (some (.agg #[.int .i64 0, .int .i64 0, .string ⟨#[]⟩]), 3, 32) := by kernel_rfl
end Go.Proofs.YtcndnllmlhhjiaaGreatDoor.Ssn
namespace Go.Proofs.YtcndnllmlhhjiaaGreatDoor.Ssn
open Go.ChangeShapes Go.WideShapes Go.ChangeAt Go.RowKit
open SessP
theorem cloneSe_any (a : Option Addr) (cap : Nat) (xs : List Se) (w : World) (hr : Reads encSe 3 w a xs) (hl : xs.length ≤ 1000000) :
   Calls Tryz.prog 87 #[.slice a xs.length cap] w fun e w' => ∃ v, e = .returned v ∧ w'.ownsRow w.heap.size 75 3 v xs.length (xs.flatMap encSe) ∧ Below w.heap.size w w' := by
 cases a with
 | none =>
   have hx : xs = [] := by
     cases xs with
     | nil => rfl
     | cons x xs => obtain ⟨b, off, h, _⟩ := hr 0 (by simp); cases h
   subst hx
   have hnil := Lib.run_eql_slice_nil (P := Tryz.prog) w 23 75 none 0 cap 0 0 U23
   have HP := Lib.hid (World.ownsRow_nil w w.heap.size 75 3)
   go_enter Tryz.func87, Tryz.ntmps87
   go_wp2_with fail
   go_ret
   exact ⟨_, rfl, HP.out, Below.refl _ _⟩
 | some ad =>
   obtain ⟨i0, hi, hz0, hz1, hz2⟩ := info_parts infoSe
   have hnil := Lib.run_eql_slice_nil (P := Tryz.prog) w 23 75 (some ad) xs.length cap 0 0 U23
   have HR := Lib.hid hr
   clear hr
   go_enter Tryz.func87, Tryz.ntmps87
   have hfl := HR.out.flat (by omega) encSe_len
   have HFL := Lib.hid hfl
   clear hfl
   go_wp2_with (at_builtin; refine wpList_append_own _ rfl _ _ 23 rfl w.heap.size 75 i0 (.agg #[.int .i64 0, .int .i64 0, .string ⟨#[]⟩]) 3 32 U23 hi hz0 hz1 hz2 rfl (by decide) _ _ _ rfl (World.ownsRow_made w #[] 0 (Nat.le_refl _) (by unfold maxLen; omega) rfl) ad xs.length cap (xs.flatMap encSe) rfl ?c0 ?c1 ?c2 ?c3 ?c4 ?c5 ?_)
   case c0 => rw [flat_len encSe 3 encSe_len]
   case c1 =>
     intro j u hu
     obtain ⟨h1, h2⟩ := HFL.out j u hu
     have h3 : (ad.add j).block = ad.block := by unfold Addr.add; split <;> rfl
     rw [World.cell?_alloc_lt _ _ _ (by rw [h3]; exact h1)]
     exact h2
   case c2 =>
     intro u hu
     obtain ⟨x, _, hx⟩ := List.mem_flatMap.1 hu
     simp [encSe] at hx
     rcases hx with rfl | rfl | rfl <;> rfl
   case c3 => unfold maxLen; omega
   case c4 => omega
   case c5 => simp
   intro v' w2 hown' hgrow _
   have hbel : Below w.heap.size w w2 := ((Below.refl _ _).alloc (Nat.le_refl _) _).grown hgrow (by simp) (fun k hk => by simp [Value.ownBlock] at hk; omega)
   have HO := Lib.hid hown'
   clear hown' hgrow
   go_wp2_with fail
   go_ret
   exact ⟨_, rfl, HO.out, hbel⟩
end Go.Proofs.YtcndnllmlhhjiaaGreatDoor.Ssn
namespace Go.Proofs.YtcndnllmlhhjiaaGreatDoor.Ssn
open Go.ChangeShapes Go.WideShapes Go.ChangeAt Go.RowKit
theorem copy_run_eq {P : Program} (w : World) {o : Oper} {a : Act} {K : Act → World → Prop} {Q : Exit → Act → World → Prop} (d s : Operand) (t t' : TypeId)
   (ho : o.op = .call { callee := .builtin .copy, args := #[d, s], argTypes := #[t, t'] }) (v u : Value) (hd : a.eval d = v) (hs : a.eval s = u) {v' : Value} {w' : World}
   (hr : (Builtin.copy_ #[t, t'] o.type #[v, u]).run P w = .ok v' w') (h : K (a.put o.dst v') w') : o.wp P a w K Q := by
 unfold Oper.wp execOp
 simp only [ho, resolve, invoke, builtin, Sem.run_bind, Sem.run_pure, Result.andThen_ok, List.map_toArray, List.map_cons, List.map_nil, hd, hs, hr]
 exact h
theorem wpList_copy_eq {P : Program} (w : World) {ops : Array Oper} {rest : List Oper} {o : Oper} {a : Act} {Q : Exit → Act → World → Prop} (hgd : o.guard = none) (d s : Operand) (t t' : TypeId)
   (ho : o.op = .call { callee := .builtin .copy, args := #[d, s], argTypes := #[t, t'] }) (v u : Value) (hd : a.eval d = v) (hs : a.eval s = u) {v' : Value} {w' : World}
   (hr : (Builtin.copy_ #[t, t'] o.type #[v, u]).run P w = .ok v' w') (h : wpList P ops Q rest (a.put o.dst v') w') : wpList P ops Q (o :: rest) a w :=
 wpList_plain hgd fun _ hK => copy_run_eq w d s t t' ho v u hd hs hr (hK _ _ h)
theorem wpList_append_eq {P : Program} (w : World) {ops : Array Oper} {rest : List Oper} {o : Oper} {a : Act} {Q : Exit → Act → World → Prop} (hgd : o.guard = none) (d s : Operand) (t t' : TypeId)
   (ho : o.op = .call { callee := .builtin .append, args := #[d, s], argTypes := #[t, t'] }) (v u : Value) (hd : a.eval d = v) (hs : a.eval s = u) {v' : Value} {w' : World}
   (hr : (Builtin.append_ #[t, t'] o.type #[v, u]).run P w = .ok v' w') (h : wpList P ops Q rest (a.put o.dst v') w') : wpList P ops Q (o :: rest) a w := by
 refine wpList_plain hgd fun _ hK => ?_
 unfold Oper.wp execOp
 simp only [ho, resolve, invoke, builtin, Sem.run_bind, Sem.run_pure, Result.andThen_ok, List.map_toArray, List.map_cons, List.map_nil, hd, hs, hr]
 exact hK _ _ h
theorem run_copy_row {P : Program} (w : World) (dT sT ty elem : TypeId) (sz b o dLen dCap : Nat) (cur : Array Value) (T : TypeId) (a : Addr) (sLen sCap : Nat) (cs : List Value) (q : Nat)
   (hu : P.underlying dT = some (.slice elem)) (hs : Sz P elem sz) (hq : Nat.min sLen dLen = q) (hn : cs.length = q * sz) (hb : w.heap[b]? = some (.cells cur T (0, 0)))
   (hsrc : ∀ j v, cs[j]? = some v → w.cell? (a.add j) = some v) (hfit : o + cs.length ≤ cur.size) (h1 : ∀ v ∈ cs, v.oneCell' = true) :
   (Builtin.copy_ #[dT, sT] ty #[.slice (some ⟨b, o, none⟩) dLen dCap, .slice (some a) sLen sCap]).run P w = .ok (goInt q) (w.setRow b (cur.toList.take o ++ cs ++ cur.toList.drop (o + cs.length)).toArray) := by
 subst hq
 have hf := run_firstCells_some (P := P) w sz (Nat.min sLen dLen) a sLen sCap cs hn hsrc
 have hst := run_storeCells_at P b o T cs 0 cur w hb (by simpa using hfit) h1
 rw [Nat.add_zero] at hst
 simp [Builtin.copy_, run_underlying hu, Builtin.lenOf, hs.run, hf, hst]
theorem rowL {w : World} {b : Nat} {cur : Array Value} {T : TypeId} (h : w.heap[b]? = some (.cells cur T (0, 0))) (j : Nat) : w.cell? ⟨b, j, none⟩ = cur[j]? := by simp [World.cell?, h]
set_option maxHeartbeats 4000000 in
theorem insertSe_end (w : World) (v v2 : Value) (n : Nat) (us X : List Value) (hown : w.ownsRow 0 75 3 v n us) (ho2 : w.ownsRow 0 75 3 v2 1 X) (h1X : ∀ u ∈ X, u.oneCell' = true) (hn : n + 1 ≤ 1000000) :
   Calls Tryz.prog 91 #[v, .int .i64 n, v2] w fun e w' => ∃ v', e = .returned v' ∧ w'.ownsRow 0 75 3 v' (n + 1) (us ++ X) ∧ w.grownBy w' v.ownBlock ∧ (v'.ownBlock = v.ownBlock ∨ v'.ownBlock = some w.heap.size) := by
 obtain ⟨i0, hi, hz0, hz1, hz2⟩ : ∃ i0, Tryz.prog.info? 75 = some i0 ∧ i0.zero = some (.agg #[.int .i64 0, .int .i64 0, .string ⟨#[]⟩]) ∧ i0.size = 3 ∧ i0.bytes = 32 := by
   have hT : Ti Tryz.prog 75 (.agg #[.int .i64 0, .int .i64 0, .string ⟨#[]⟩]) 3 32 := by unfold Ti; kernel_rfl
   unfold Ti at hT
   cases hi : Tryz.prog.info? 75 with
   | none => rw [hi] at hT; cases hT
   | some i => rw [hi] at hT; simp at hT; exact ⟨i, rfl, hT⟩
 rcases ho2.2 with ⟨_, h0⟩ | ⟨vb, vc, vcur, rfl, _, hvg, hvnc, hvcm, hvcs, hvt⟩
 · omega
 have hXl : X.length = 1 * 3 := ho2.1
 have hXc : ∀ j u, X[j]? = some u → w.cell? ((⟨vb, 0, none⟩ : Addr).add j) = some u := ho2.cells rfl
 have HOWN := Lib.hid hown
 have HV : ∃ sa sc, v = .slice sa n sc ∧ n ≤ sc ∧ sc ≤ maxLen := by
   rcases hown.2 with ⟨rfl, rfl⟩ | ⟨g, cap, cur, rfl, _, _, h1, h2, _⟩
   · exact ⟨none, 0, rfl, Nat.le_refl _, Nat.zero_le _⟩
   · exact ⟨_, cap, rfl, h1, h2⟩
 obtain ⟨sa, sc, rfl, hsc, hscm⟩ := HV
 unfold maxLen at hscm
 have H2 := Lib.hid (And.intro hXl hXc)
 have H3 := Lib.hid h1X
 clear hown ho2 hvg hvt hXl hXc h1X
 by_cases hcn : sc = n
 · obtain rfl : n = sc := hcn.symm
   go_enter Tryz.func91, Tryz.ntmps91
   go_wp2_with (at_builtin; refine wpList_append_own_at _ rfl _ _ 23 rfl 0 75 i0 (.agg #[.int .i64 0, .int .i64 0, .string ⟨#[]⟩]) 3 32 U23 hi hz0 hz1 hz2 rfl (by decide) _ n us rfl HOWN.out ⟨vb, 0, none⟩ 1 vc X rfl H2.out.1 H2.out.2 H3.out ?c3 ?c4 (Nat.zero_le _) ?_)
   case c3 => unfold maxLen; omega
   case c4 => omega
   intro v' w' hown' hgrow _ hblk
   have HF := Lib.hid (And.intro hown' (And.intro hgrow hblk))
   clear hown' hgrow hblk
   go_wp2_with fail
   go_ret
   exact ⟨_, rfl, HF.out.1, HF.out.2.1, HF.out.2.2⟩
 · have hcn' : ¬ n = sc := fun e => hcn e.symm
   go_enter Tryz.func91, Tryz.ntmps91
   go_wp2_with (at_builtin; refine wpList_append_own_at _ rfl _ _ 23 rfl 0 75 i0 (.agg #[.int .i64 0, .int .i64 0, .string ⟨#[]⟩]) 3 32 U23 hi hz0 hz1 hz2 rfl (by decide) _ n us rfl HOWN.out ⟨vb, 0, none⟩ 1 vc X rfl H2.out.1 H2.out.2 H3.out ?c3 ?c4 (Nat.zero_le _) ?_)
   case c3 => unfold maxLen; omega
   case c4 => omega
   intro v' w' hown' hgrow _ hblk
   have HF := Lib.hid (And.intro hown' (And.intro hgrow hblk))
   clear hown' hgrow hblk
   go_wp2_with fail
   go_ret
   exact ⟨_, rfl, HF.out.1, HF.out.2.1, HF.out.2.2⟩
def midRow (cur : List Value) (X : List Value) (a n1 z : Nat) : List Value :=
 let R1 := cur.take (a + z) ++ (cur.drop a).take (n1 - a) ++ cur.drop (a + z + (n1 - a))
 R1.take a ++ X ++ R1.drop (a + z)
theorem midRow_take (cur X : List Value) (a n1 z : Nat) (ha : a ≤ n1) (hX : X.length = z) (hc : n1 + z ≤ cur.length) : (midRow cur X a n1 z).take (n1 + z) = cur.take a ++ X ++ (cur.take n1).drop a ∧ (midRow cur X a n1 z).length = cur.length := by
 unfold midRow
 simp only
 have e1 : (cur.take (a + z) ++ (cur.drop a).take (n1 - a) ++ cur.drop (a + z + (n1 - a))).take a = cur.take a := by
   rw [List.append_assoc, List.take_append_of_le_length (by simp; omega), List.take_take]; congr 1; omega
 have e2 : (cur.take (a + z) ++ (cur.drop a).take (n1 - a) ++ cur.drop (a + z + (n1 - a))).drop (a + z) = (cur.drop a).take (n1 - a) ++ cur.drop (a + z + (n1 - a)) := by
   rw [List.append_assoc, List.drop_append_of_le_length (by simp; omega), List.drop_eq_nil_of_le (by simp; omega), List.nil_append]
 rw [e1, e2]
 constructor
 · rw [← List.append_assoc, List.take_append_of_le_length (by simp; omega), List.take_of_length_le (by simp; omega), List.drop_take]
 · simp; omega
set_option maxHeartbeats 8000000 in
theorem insertSe_shift (w : World) (b n c k : Nat) (cur : Array Value) (vb vc : Nat) (vcur : Array Value) (X : List Value) (hb : w.heap[b]? = some (.cells cur 75 (0, 0))) (hcur : cur.size = c * 3) (hk : k < n) (hroom : n + 1 ≤ c) (hc63 : c ≤ 9223372036854775807)
   (hv : w.heap[vb]? = some (.cells vcur 75 (0, 0))) (hne : vb ≠ b) (hX : X.length = 3) (hXc : ∀ (j : Nat) (u : Value), X[j]? = some u → vcur[j]? = some u) (h1X : ∀ u ∈ X, u.oneCell' = true) (h1c : ∀ u ∈ cur.toList.take (n * 3), u.oneCell' = true) (hc0 : 0 < vcur.size) :
   Calls Tryz.prog 91 #[.slice (some ⟨b, 0, none⟩) n c, .int .i64 k, .slice (some ⟨vb, 0, none⟩) 1 vc] w fun e w' => e = .returned (.slice (some ⟨b, 0, none⟩) (n + 1) c) ∧ w'.heap[b]? = some (.cells (midRow cur.toList X (k * 3) (n * 3) 3).toArray 75 (0, 0)) ∧ w.grownBy w' (some b) := by
 have hov : ∀ o lb cb, (callFunc 131 #[.slice (some ⟨vb, 0, none⟩) 1 vc, .slice (some ⟨b, o, none⟩) lb cb]).run Tryz.prog w = .ok (.value (.bool false)) w := fun o lb cb => by
   rw [run_callFunc_extern Tryz.func131 (by kernel_rfl) (by kernel_rfl) (by kernel_rfl) (e := Extern.SlicesOverlaps.overlaps #[23, 23] #[4]) (by kernel_rfl),
     Lib.run_overlaps_apart w 23 4 75 U23 3 (fun w => Sz.run (by unfold Sz; kernel_rfl) w) ⟨vb, 0, none⟩ ⟨b, o, none⟩ 1 vc lb cb hne 75 75 vcur.size cur.size (by simp [World.shape?, hv]) (by simp [World.shape?, hb]) (by omega) (by simp [World.frozen?, hv]) (by simp [World.frozen?, hv])]
   rfl
 have hsz : Sz Tryz.prog 75 3 := by unfold Sz; kernel_rfl
 have hz2 : ((k : Int) == (n : Int)) = false := by simp; omega
 have hz3 : decide ((c : Int) < (n : Int) + 1) = false := by simp; omega
 have hb4 : ¬ (c = k) := by omega
 have hb2 : ¬ (c = k + 1) := by omega
 have hkc : k ≤ c := by omega
 have hk1 : IntKind.i64.wrap ((k : Int) + 1) = (k : Int) + 1 := IntWalk.i64_in _ (by omega)
 have hk2 : (0 : Int) ≤ (k : Int) + 1 := by omega
 have hk3 : ((k : Int) + 1).toNat = k + 1 := by omega
 have hk4 : (k : Int) + 1 ≤ (n : Int) + 1 := by omega
 have hk5 : (k : Int) ≤ (n : Int) + 1 := by omega
 have hk6 : (n : Int) + 1 ≤ (c : Int) := by omega
 have hd : ((cur.toList.drop (k * 3)).take (n * 3 - k * 3)).length = (n - k) * 3 := by simp [hcur]; omega
 have HB := Lib.hid hb
 have HV := Lib.hid hv
 have H1 := Lib.hid h1c
 have HX := Lib.hid hXc
 clear hb hv h1c hXc
 go_enter Tryz.func91, Tryz.ntmps91
 go_wp2_with (simp only [hov])
 (apply rg_region_tail 8 (by kernel_rfl) (by kernel_rfl) (by kernel_rfl); intro env)
 (apply rg_det rfl; (intro W K hW _ hK; obtain ⟨hc, hf⟩ := bcell hW; go_simp; first | (rw [IntWalk.i64_in]; (exact hK _ (Below.refl _ _)); omega) | exact hK _ (Below.refl _ _)); rfl)
 repeat (apply rg_det rfl; (intro W K hW _ hK; obtain ⟨hc, hf⟩ := bcell hW; go_simp; first | (rw [IntWalk.i64_in]; (exact hK _ (Below.refl _ _)); omega) | exact hK _ (Below.refl _ _)); rfl)
 (apply rg_tail; rfl; (simp only [List.drop_succ_cons, List.drop_zero]; rfl); intro W hW hF)
 have hWb : W.heap[b]? = some (.cells cur 75 (0, 0)) := (hW.block b (Array.getElem?_eq_some_iff.1 HB.out).1).trans HB.out
 have hWv : W.heap[vb]? = some (.cells vcur 75 (0, 0)) := (hW.block vb (Array.getElem?_eq_some_iff.1 HV.out).1).trans HV.out
 have hcp1 := run_copy_row (P := Tryz.prog) W 23 23 3 75 3 b ((k + 1) * 3) (n - k) (c - (k + 1)) cur 75 ⟨b, k * 3, none⟩ (n + 1 - k) (c - k) ((cur.toList.drop (k * 3)).take (n * 3 - k * 3)) (n - k) U23 hsz (by simp only [Nat.min_def]; split <;> omega) hd hWb
   (fun j u hj => by
     rw [aadd, rowL hWb]
     rw [List.getElem?_take] at hj
     split at hj
     · rw [List.getElem?_drop, Array.getElem?_toList] at hj; exact hj
     · cases hj) (by rw [hd, hcur]; omega) (fun u hu => H1.out u (by
     obtain ⟨q, hq, rfl⟩ := List.mem_iff_getElem.1 hu
     simp only [List.getElem_take, List.getElem_drop]
     rw [hd] at hq
     refine List.mem_iff_getElem.2 ⟨k * 3 + q, by simp [hcur]; omega, by simp⟩))
 refine wpList_copy_eq W rfl _ _ 23 23 rfl _ _ rfl rfl hcp1 ?_
 have hgr : w.grownBy W (some b) := ⟨hW.os, hW.tape, hW.output, hW.size, fun q hq _ => hW.block q hq⟩
 have hW1b := setRow_heap W b cur (cur.toList.take ((k + 1) * 3) ++ (cur.toList.drop (k * 3)).take (n * 3 - k * 3) ++ cur.toList.drop ((k + 1) * 3 + ((cur.toList.drop (k * 3)).take (n * 3 - k * 3)).length)).toArray 75 (0, 0) hWb
 have hW1v := (setRow_other W b vb (cur.toList.take ((k + 1) * 3) ++ (cur.toList.drop (k * 3)).take (n * 3 - k * 3) ++ cur.toList.drop ((k + 1) * 3 + ((cur.toList.drop (k * 3)).take (n * 3 - k * 3)).length)).toArray hne).trans hWv
 have hgr1 : w.grownBy (W.setRow b (cur.toList.take ((k + 1) * 3) ++ (cur.toList.drop (k * 3)).take (n * 3 - k * 3) ++ cur.toList.drop ((k + 1) * 3 + ((cur.toList.drop (k * 3)).take (n * 3 - k * 3)).length)).toArray) (some b) :=
   ⟨by simp [hgr.os], by simp [hgr.tape], by simp [hgr.output], by simpa using hgr.size, fun q hq hne2 => (setRow_other W b q _ (fun e => hne2 (by rw [e]))).trans (hgr.block q hq hne2)⟩
 have hR1 : (cur.toList.take ((k + 1) * 3) ++ (cur.toList.drop (k * 3)).take (n * 3 - k * 3) ++ cur.toList.drop ((k + 1) * 3 + ((cur.toList.drop (k * 3)).take (n * 3 - k * 3)).length)) = (cur.toList.take (k * 3 + 3) ++ (cur.toList.drop (k * 3)).take (n * 3 - k * 3) ++ cur.toList.drop (k * 3 + 3 + (n * 3 - k * 3))) := by
   rw [hd, Nat.add_mul, Nat.one_mul, Nat.sub_mul]
 rw [hR1] at hW1b hgr1 hW1v ⊢
 have hMid : midRow cur.toList X (k * 3) (n * 3) 3 = (cur.toList.take (k * 3 + 3) ++ (cur.toList.drop (k * 3)).take (n * 3 - k * 3) ++ cur.toList.drop (k * 3 + 3 + (n * 3 - k * 3))).take (k * 3) ++ X ++ (cur.toList.take (k * 3 + 3) ++ (cur.toList.drop (k * 3)).take (n * 3 - k * 3) ++ cur.toList.drop (k * 3 + 3 + (n * 3 - k * 3))).drop (k * 3 + 3) := rfl
 have hRl : (cur.toList.take (k * 3 + 3) ++ (cur.toList.drop (k * 3)).take (n * 3 - k * 3) ++ cur.toList.drop (k * 3 + 3 + (n * 3 - k * 3))).length = c * 3 := by simp [hcur]; omega
 have HM := Lib.hid hMid
 clear hMid
 generalize cur.toList.take (k * 3 + 3) ++ (cur.toList.drop (k * 3)).take (n * 3 - k * 3) ++ cur.toList.drop (k * 3 + 3 + (n * 3 - k * 3)) = R1 at *
 generalize W.setRow b R1.toArray = W1 at *
 clear hcp1 hWb hWv hW hF hgr hR1
 have hcp2 := run_copy_row (P := Tryz.prog) W1 23 23 3 75 3 b (k * 3) (n + 1 - k) (c - k) R1.toArray 75 ⟨vb, 0, none⟩ 1 vc X 1 U23 hsz (by simp only [Nat.min_def]; split <;> omega) (by omega) hW1b
   (fun j u hj => by rw [aadd, Nat.zero_add, rowL hW1v]; exact HX.out j u hj) (by simp [hRl, hX]; omega) h1X
 have hfin := setRow_heap W1 b R1.toArray (R1.take (k * 3) ++ X ++ R1.drop (k * 3 + 3)).toArray 75 (0, 0) hW1b
 have hgr2 : w.grownBy (W1.setRow b (R1.take (k * 3) ++ X ++ R1.drop (k * 3 + 3)).toArray) (some b) :=
   ⟨by simp [hgr1.os], by simp [hgr1.tape], by simp [hgr1.output], by simpa using hgr1.size, fun q hq hne2 => (setRow_other W1 b q _ (fun e => hne2 (by rw [e]))).trans (hgr1.block q hq hne2)⟩
 rw [hX] at hcp2
 have HFIN := Lib.hid (And.intro hfin hgr2)
 have HCP := Lib.hid hcp2
 clear hfin hgr2 hcp2 hgr1 hW1b hW1v
 go_wp2_with (refine wpList_copy_eq W1 rfl _ _ 23 23 rfl _ _ rfl rfl HCP.out ?_)
 go_ret
 have e := HFIN.out
 simp only [List.append_assoc] at e
 exact ⟨rfl, by rw [HM.out]; simp only [List.append_assoc]; exact e.1, e.2⟩
set_option maxHeartbeats 8000000 in
theorem insertSe_grow (w : World) (b n c k : Nat) (cur : Array Value) (vb vc : Nat) (vcur : Array Value) (X : List Value) (hb : w.heap[b]? = some (.cells cur 75 (0, 0))) (hcur : cur.size = c * 3) (hk : k < n) (hnc : n ≤ c) (hroom : c < n + 1) (hn : n + 1 ≤ 1000000)
   (hv : w.heap[vb]? = some (.cells vcur 75 (0, 0))) (hX : X.length = 3) (hXc : ∀ (j : Nat) (u : Value), X[j]? = some u → vcur[j]? = some u) (h1X : ∀ u ∈ X, u.oneCell' = true) (h1c : ∀ u ∈ cur.toList.take (n * 3), u.oneCell' = true) :
   Calls Tryz.prog 91 #[.slice (some ⟨b, 0, none⟩) n c, .int .i64 k, .slice (some ⟨vb, 0, none⟩) 1 vc] w fun e w' => ∃ (C : Nat) (row : List Value), e = .returned (.slice (some ⟨w.heap.size, 0, none⟩) (n + 1) C) ∧ n + 1 ≤ C ∧ C ≤ maxLen ∧ w'.heap[w.heap.size]? = some (.cells row.toArray 75 (0, 0)) ∧ row.length = C * 3 ∧ row.take ((n + 1) * 3) = cur.toList.take (k * 3) ++ X ++ (cur.toList.take (n * 3)).drop (k * 3) ∧ w.grownBy w' none := by
 obtain rfl : n = c := by omega
 obtain ⟨i0, hi, hz0, hz1, hz2⟩ : ∃ i0, Tryz.prog.info? 75 = some i0 ∧ i0.zero = some (.agg #[.int .i64 0, .int .i64 0, .string ⟨#[]⟩]) ∧ i0.size = 3 ∧ i0.bytes = 32 := by
   have hT : Ti Tryz.prog 75 (.agg #[.int .i64 0, .int .i64 0, .string ⟨#[]⟩]) 3 32 := by unfold Ti; kernel_rfl
   unfold Ti at hT
   cases hi : Tryz.prog.info? 75 with
   | none => rw [hi] at hT; cases hT
   | some i => rw [hi] at hT; simp at hT; exact ⟨i, rfl, hT⟩
 have hsz : Sz Tryz.prog 75 3 := by unfold Sz; kernel_rfl
 have hbw := (Array.getElem?_eq_some_iff.1 hb).1
 have hvw := (Array.getElem?_eq_some_iff.1 hv).1
 have hold : (Builtin.firstCells i0.size k (.slice (some ⟨b, 0, none⟩) k n)).run Tryz.prog w.drew = .ok (cur.toList.take (k * 3)).toArray w.drew := by
   rw [hz1]
   exact run_firstCells_some (P := Tryz.prog) w.drew 3 k ⟨b, 0, none⟩ k n (cur.toList.take (k * 3)) (by rw [List.length_take, Array.length_toList, hcur]; omega) (fun j v hj => by
     rw [aadd, Nat.zero_add]
     show w.cell? _ = _
     rw [rowL hb]
     rw [List.getElem?_take] at hj
     split at hj
     · simpa using hj
     · cases hj)
 have hrz : ∀ ty, (Builtin.append_ #[23, 3] ty #[.slice (some ⟨b, 0, none⟩) k n, .int .i64 ((n : Int) + 1 - (k : Int))]).run Tryz.prog w =
     .ok (.slice (some ⟨w.heap.size, 0, none⟩) (n + 1) (grownCap w (n + 1) n 75)) (w.drew.alloc (.cells ((cur.toList.take (k * 3)).toArray ++ Builtin.zeroCells (Value.cells (.agg #[.int .i64 0, .int .i64 0, .string ⟨#[]⟩])) (n + 1 - k) ++ Builtin.zeroCells (Value.cells (.agg #[.int .i64 0, .int .i64 0, .string ⟨#[]⟩])) (grownCap w (n + 1) n 75 - (n + 1))) 75)) := fun ty => by
   have h := Lib.run_append_grow_zeros w 23 3 ty 75 i0 _ .i64 .i64 U23 U3 hi hz0 (some ⟨b, 0, none⟩) k n (cur.toList.take (k * 3)) hold (n + 1 - k) (by omega) (by omega) (by omega) (by omega) (by rw [hz2]; omega) (by rw [hz2, show k + (n + 1 - k) = n + 1 by omega]; exact growslice_fits (by omega) (by omega))
   rw [show k + (n + 1 - k) = n + 1 by omega, show ((n + 1 - k : Nat) : Int) = (n : Int) + 1 - (k : Int) by omega] at h
   exact h
 have hC1 : n + 1 ≤ grownCap w (n + 1) n 75 := grownCap_ge w _ _ _
 have hC2 : grownCap w (n + 1) n 75 ≤ maxLen := grownCap_le_maxLen w (n + 1) n 75 (by unfold maxLen; omega)
 generalize grownCap w (n + 1) n 75 = C at *
 have hRs : ((cur.toList.take (k * 3)).toArray ++ Builtin.zeroCells (Value.cells (.agg #[.int .i64 0, .int .i64 0, .string ⟨#[]⟩])) (n + 1 - k) ++ Builtin.zeroCells (Value.cells (.agg #[.int .i64 0, .int .i64 0, .string ⟨#[]⟩])) (C - (n + 1))).size = C * 3 := by
   simp [Builtin.zeroCells, Value.cells, hcur]; omega
 have hRt : ((cur.toList.take (k * 3)).toArray ++ Builtin.zeroCells (Value.cells (.agg #[.int .i64 0, .int .i64 0, .string ⟨#[]⟩])) (n + 1 - k) ++ Builtin.zeroCells (Value.cells (.agg #[.int .i64 0, .int .i64 0, .string ⟨#[]⟩])) (C - (n + 1))).toList.take (k * 3) = cur.toList.take (k * 3) := by
   simp only [Array.toList_append, List.append_assoc]
   rw [List.take_append_of_le_length (by simp [hcur]; omega), List.take_of_length_le (by simp; omega)]
 generalize (cur.toList.take (k * 3)).toArray ++ Builtin.zeroCells (Value.cells (.agg #[.int .i64 0, .int .i64 0, .string ⟨#[]⟩])) (n + 1 - k) ++ Builtin.zeroCells (Value.cells (.agg #[.int .i64 0, .int .i64 0, .string ⟨#[]⟩])) (C - (n + 1)) = ROW at *
 have hk4 : ((k : Int) == (n : Int)) = false := by simp; omega
 have hk5 : decide ((n : Int) < (n : Int) + 1) = true := by simp; omega
 have hk6 : ¬ (n = k) := by omega
 have hk7 : k ≤ n := by omega
 have hk8 : ¬ (C = k) := by omega
 have hk9 : ¬ (C = k + 1) := by omega
 obtain ⟨W1, hW1⟩ : ∃ W1, W1 = w.drew.alloc (.cells ROW 75) := ⟨_, rfl⟩
 rw [← hW1] at hrz
 have hW1n : W1.heap[w.heap.size]? = some (.cells ROW 75 (0, 0)) := by rw [hW1]; exact heap_alloc_new w.drew _
 have hW1o : ∀ q, q < w.heap.size → W1.heap[q]? = w.heap[q]? := fun q hq => by rw [hW1]; exact heap_alloc_old w.drew _ hq
 have hg1 : w.grownBy W1 none := by rw [hW1]; exact ⟨rfl, rfl, rfl, by simp, fun q hq _ => heap_alloc_old w.drew _ hq⟩
 have hs1 : W1.heap.size = w.heap.size + 1 := by rw [hW1]; simp
 have hcpA := fun ty => run_copy_row (P := Tryz.prog) W1 23 23 ty 75 3 w.heap.size (k * 3) (n + 1 - k) (C - k) ROW 75 ⟨vb, 0, none⟩ 1 vc X 1 U23 hsz (by simp only [Nat.min_def]; split <;> omega) (by omega) hW1n
   (fun j u hj => by rw [aadd, Nat.zero_add, rowL ((hW1o vb hvw).trans hv)]; exact hXc j u hj) (by rw [hRs, hX]; omega) h1X
 rw [hX] at hcpA
 have hRl : ROW.toList.length = C * 3 := by simpa using hRs
 obtain ⟨R1, hR1⟩ : ∃ R1, R1 = ROW.toList.take (k * 3) ++ X ++ ROW.toList.drop (k * 3 + 3) := ⟨_, rfl⟩
 rw [← hR1] at hcpA
 have hR1l : R1.length = C * 3 := by rw [hR1]; simp [hRs, hX]; omega
 have hR1t : R1.take (k * 3 + 3) = cur.toList.take (k * 3) ++ X := by
   rw [hR1, List.take_append_of_le_length (by simp [hRs, hX]; omega), List.take_of_length_le (by simp [hX]; omega), hRt]
 obtain ⟨W2, hW2⟩ : ∃ W2, W2 = W1.setRow w.heap.size R1.toArray := ⟨_, rfl⟩
 rw [← hW2] at hcpA
 have hW2n : W2.heap[w.heap.size]? = some (.cells R1.toArray 75 (0, 0)) := by rw [hW2]; exact setRow_heap W1 _ ROW _ 75 (0, 0) hW1n
 have hW2o : ∀ q, q < w.heap.size → W2.heap[q]? = w.heap[q]? := fun q hq => by rw [hW2]; exact (setRow_other W1 _ q _ (by omega)).trans (hW1o q hq)
 have hg2 : w.grownBy W2 none := by rw [hW2]; exact ⟨by simp [hg1.os], by simp [hg1.tape], by simp [hg1.output], by simpa using hg1.size, fun q hq h => (setRow_other W1 _ q _ (by omega)).trans (hg1.block q hq h)⟩
 have hs2 : W2.heap.size = w.heap.size + 1 := by rw [hW2]; simpa using hs1
 have hd : ((cur.toList.drop (k * 3)).take (n * 3 - k * 3)).length = (n - k) * 3 := by simp [hcur]; omega
 have HRZ := Lib.hid hrz
 have HCPA := Lib.hid hcpA
 have HB := Lib.hid (And.intro hb hv)
 have H1 := Lib.hid h1c
 have HC := Lib.hid (And.intro hC1 hC2)
 have HR := Lib.hid (And.intro hR1l hR1t)
 have HW := Lib.hid (And.intro hW2n (And.intro hW2o hg2))
 have HS2 := Lib.hid hs2
 have HD := Lib.hid hd
 have HCUR := Lib.hid hcur
 have hCb : C ≤ 9223372036854775807 := by unfold maxLen at hC2; omega
 have hCk : k + 1 ≤ C := by omega
 have hCn : (n : Int) + 1 ≤ (C : Int) := by omega
 have hk1 : IntKind.i64.wrap ((k : Int) + 1) = (k : Int) + 1 := IntWalk.i64_in _ (by omega)
 have hk2 : (0 : Int) ≤ (k : Int) + 1 := by omega
 have hk3 : ((k : Int) + 1).toNat = k + 1 := by omega
 have hkb : (k : Int) + 1 ≤ (n : Int) + 1 := by omega
 have hkn : (k : Int) ≤ (n : Int) := by omega
 clear hb hv h1c hXc h1X hold hrz hC1 hC2 hRs hRt hi hz0 hz1 hz2 i0 hW1 hW1n hW1o hg1 hs1 hcpA hRl hR1 hR1l hR1t hW2 hW2n hW2o hg2 hs2 hd hcur ROW
 go_enter Tryz.func91, Tryz.ntmps91
 go_wp2_with (first | (refine wpList_append_eq w rfl _ _ 23 3 rfl _ _ rfl rfl (HRZ.out _) ?_) | (refine wpList_copy_eq W1 rfl _ _ 23 23 rfl _ _ rfl rfl (HCPA.out _) ?_))
 (apply rg_region_tail 8 (by kernel_rfl) (by kernel_rfl) (by kernel_rfl); intro env)
 repeat (apply rg_det rfl; (intro W K hW _ hK; obtain ⟨hc, hf⟩ := bcell hW; go_simp; first | (rw [IntWalk.i64_in]; (exact hK _ (Below.refl _ _)); omega) | exact hK _ (Below.refl _ _)); rfl)
 (apply rg_tail; rfl; (simp only [List.drop_succ_cons, List.drop_zero]; rfl); intro W hW hF)
 have hcur := HCUR.out
 have hd := HD.out
 have hWn : W.heap[w.heap.size]? = some (.cells R1.toArray 75 (0, 0)) := (hW.block _ (by rw [HS2.out]; omega)).trans HW.out.1
 have hWb : W.heap[b]? = some (.cells cur 75 (0, 0)) := (hW.block b (by rw [HS2.out]; omega)).trans ((HW.out.2.1 b hbw).trans HB.out.1)
 have hcpB := run_copy_row (P := Tryz.prog) W 23 23 3 75 3 w.heap.size ((k + 1) * 3) (n - k) (C - (k + 1)) R1.toArray 75 ⟨b, k * 3, none⟩ (n - k) (n - k) ((cur.toList.drop (k * 3)).take (n * 3 - k * 3)) (n - k) U23 hsz (by simp) hd hWn
   (fun j u hj => by
     rw [aadd, rowL hWb]
     rw [List.getElem?_take] at hj
     split at hj
     · rw [List.getElem?_drop, Array.getElem?_toList] at hj; exact hj
     · cases hj) (by have := HR.out.1; rw [hd]; simp [this]; omega) (fun u hu => H1.out u (by
     obtain ⟨q, hq, rfl⟩ := List.mem_iff_getElem.1 hu
     simp only [List.getElem_take, List.getElem_drop]
     rw [hd] at hq
     refine List.mem_iff_getElem.2 ⟨k * 3 + q, by simp [hcur]; omega, by simp⟩))
 rw [hd] at hcpB
 obtain ⟨R2, hR2⟩ : ∃ R2, R2 = R1.toArray.toList.take ((k + 1) * 3) ++ (cur.toList.drop (k * 3)).take (n * 3 - k * 3) ++ R1.toArray.toList.drop ((k + 1) * 3 + (n - k) * 3) := ⟨_, rfl⟩
 rw [← hR2] at hcpB
 have hfin := setRow_heap W w.heap.size R1.toArray R2.toArray 75 (0, 0) hWn
 have hgr : w.grownBy (W.setRow w.heap.size R2.toArray) none := by
   have h3 := HW.out.2.2
   exact ⟨by simp [hW.os, h3.os], by simp [hW.tape, h3.tape], by simp [hW.output, h3.output], by simpa using Nat.le_trans h3.size hW.size, fun q hq h => (setRow_other W _ q _ (by omega)).trans ((hW.block q (by rw [HS2.out]; omega)).trans (h3.block q hq h))⟩
 have hr2l : R2.length = C * 3 := by rw [hR2]; have := HR.out.1; simp [this, hcur]; omega
 have hr2t : R2.take ((n + 1) * 3) = cur.toList.take (k * 3) ++ X ++ (cur.toList.take (n * 3)).drop (k * 3) := by
   rw [hR2, List.toList_toArray, show (k + 1) * 3 = k * 3 + 3 by omega, HR.out.2, List.take_append_of_le_length (by simp [hcur, hX]; omega), List.take_of_length_le (by simp [hcur, hX]; omega), List.drop_take]
 have HF := Lib.hid (And.intro hfin (And.intro hgr (And.intro hr2l hr2t)))
 clear hfin hgr hr2l hr2t hR2 hWn hWb hW hF hd hcur
 refine wpList_copy_eq W rfl _ _ 23 23 rfl _ _ rfl rfl hcpB ?_
 clear hcpB
 go_wp2_with fail
 go_ret
 exact ⟨C, R2, rfl, HC.out.1, HC.out.2, HF.out.1, HF.out.2.2.1, HF.out.2.2.2, HF.out.2.1⟩
theorem flat_take {z : Nat} : ∀ (xs : List AV) (k : Nat), (∀ x, x ∈ xs → x.cells.length = z) → k ≤ xs.length → (xs.take k).flatMap AV.cells = (xs.flatMap AV.cells).take (k * z) ∧ (xs.drop k).flatMap AV.cells = (xs.flatMap AV.cells).drop (k * z) := by
 intro xs
 induction xs with
 | nil => intro k _ hk; simp
 | cons x xs ih =>
   intro k hz hk
   cases k with
   | zero => simp
   | succ k =>
     have hx := hz x List.mem_cons_self
     obtain ⟨h1, h2⟩ := ih k (fun y hy => hz y (List.mem_cons_of_mem _ hy)) (by simpa using hk)
     rw [List.take_succ_cons, List.drop_succ_cons, List.flatMap_cons, List.flatMap_cons, h1, h2]
     rw [show (k + 1) * z = x.cells.length + k * z by rw [hx, Nat.add_mul]; omega, List.take_length_add_append, List.drop_length_add_append]
     exact ⟨rfl, rfl⟩
theorem insRow_one {β : List Hd} {w : World} {us : List Value} {xs : List AV} (h4 : ∀ (j : Nat) (u : Value) (y : AV), us[j]? = some u → (xs.flatMap AV.cells)[j]? = some y → VRep β w u y) (hl : us.length = (xs.flatMap AV.cells).length) (ho : (xs.all fun x => x.cells.all AV.one) = true) : ∀ u ∈ us, u.oneCell' = true := by
 intro u hu
 obtain ⟨q, hq, rfl⟩ := List.mem_iff_getElem.1 hu
 have hq2 : q < (xs.flatMap AV.cells).length := by omega
 refine (h4 q _ _ (List.getElem?_eq_getElem hq) (List.getElem?_eq_getElem hq2)).one ?_
 obtain ⟨x, hx, hy⟩ := List.mem_flatMap.1 (List.getElem_mem hq2)
 exact List.all_eq_true.1 (List.all_eq_true.1 ho x hx) _ hy
theorem insertSe_fn (xs : List AV) (y : AV) (k : Nat) (hk : k ≤ xs.length) (hl : xs.length + 1 ≤ 1000000) (ho : (xs.all fun x => x.cells.all AV.one) = true) (hoy : y.cells.all AV.one = true) {H : List AO} {i g i2 g2 : Nat}
   {q : Int} (hq : q = (k : Int)) (hi : H[i]? = some (.row g 75 3 xs)) (hi2 : H[i2]? = some (.row g2 75 3 [y])) (hne : i ≠ i2) :
   FnH Tryz.prog 91 [.own i g, .int .i64 q, .own i2 g2] H (.own i (g + 1)) (H.set i (.row (g + 1) 75 3 (xs.take k ++ [y] ++ xs.drop k))) := by
 subst hq
 intro w β vs hH hv
 obtain ⟨hsz, hvr⟩ := hv
 obtain ⟨v, v1, v2, rfl⟩ : ∃ v v1 v2, vs = #[v, v1, v2] := by
   have h3 : vs.size = 3 := hsz
   exact ⟨vs[0], vs[1], vs[2], Array.ext (by simpa using h3) fun q h1 h2 => by
     have : q = 0 ∨ q = 1 ∨ q = 2 := by simp at h2; omega
     rcases this with rfl | rfl | rfl <;> rfl⟩
 obtain rfl := (hvr 1 v1 _ rfl rfl).int_inv
 obtain ⟨us, e1, e2, e3, e4⟩ := (hvr 0 v _ rfl rfl).own_at hH hi
 obtain ⟨X, f1, f2, f3, f4⟩ := (hvr 2 v2 _ rfl rfl).own_at hH hi2
 have hy : y.cells.length = 3 := f3 y (by simp)
 have hul : us.length = (xs.flatMap AV.cells).length := by rw [e2.1, flat_len' xs e3]
 have hXl : X.length = 3 := by have := f2.1; simpa using this
 have h1us := insRow_one e4 hul ho
 have h1X := insRow_one f4 (by rw [f2.1, flat_len' [y] f3]) (by simpa using hoy)
 have hflat : (xs.take k ++ [y] ++ xs.drop k).flatMap AV.cells = (xs.flatMap AV.cells).take (k * 3) ++ y.cells ++ (xs.flatMap AV.cells).drop (k * 3) := by
   obtain ⟨a1, a2⟩ := flat_take xs k e3 hk
   rw [List.flatMap_append, List.flatMap_append, a1, a2]; simp
 have hzz : ∀ x, x ∈ xs.take k ++ [y] ++ xs.drop k → x.cells.length = 3 := by
   intro x hx
   simp only [List.mem_append, List.mem_singleton] at hx
   rcases hx with (hx | rfl) | hx
   · exact e3 x (List.mem_of_mem_take hx)
   · exact hy
   · exact e3 x (List.mem_of_mem_drop hx)
 have hlen : (xs.take k ++ [y] ++ xs.drop k).length = xs.length + 1 := by simp; omega
 have hkz : k * 3 ≤ us.length := by rw [e2.1]; omega
 have fin : ∀ (v' : Value) (w' : World), w'.ownsRow 0 75 3 v' (xs.length + 1) (us.take (k * 3) ++ X ++ us.drop (k * 3)) → w.grownBy w' v.ownBlock → (v'.ownBlock = v.ownBlock ∨ v'.ownBlock = some w.heap.size) →
     ∃ v β', Ending.returned v' = .returned v ∧ Ext β w β' w' ∧ HRel β' (H.set i (.row (g + 1) 75 3 (xs.take k ++ [y] ++ xs.drop k))) w' ∧ VRep β' w' v (.own i (g + 1)) := by
   intro v' w' q1 q2 q3
   have hlt := (List.getElem?_eq_some_iff.1 e1).1
   have hgrow := hH.grow e1 q2 q3 (o := .row (g + 1) 75 3 (xs.take k ++ [y] ++ xs.drop k)) (fun hx => ⟨rfl, _, by rw [hlen]; exact q1, hzz, fun q u y' p1 p2 => by
     refine VRep.ext hx ?_
     rw [hflat] at p2
     have hfl : (xs.flatMap AV.cells).length = us.length := hul.symm
     by_cases c1 : q < k * 3
     · rw [List.append_assoc, List.getElem?_append_left (by rw [List.length_take]; omega), List.getElem?_take_of_lt c1] at p1
       rw [List.append_assoc, List.getElem?_append_left (by rw [List.length_take]; omega), List.getElem?_take_of_lt c1] at p2
       exact e4 q u y' p1 p2
     · by_cases c2 : q < k * 3 + 3
       · rw [List.append_assoc, List.getElem?_append_right (by rw [List.length_take]; omega), List.length_take, Nat.min_eq_left hkz, List.getElem?_append_left (by rw [hXl]; omega)] at p1
         rw [List.append_assoc, List.getElem?_append_right (by rw [List.length_take]; omega), List.length_take, Nat.min_eq_left (by omega), List.getElem?_append_left (by rw [hy]; omega)] at p2
         exact f4 _ u y' p1 (by simpa using p2)
       · rw [List.getElem?_append_right (by rw [List.length_append, List.length_take, hXl]; omega), List.getElem?_drop, List.length_append, List.length_take, hXl, Nat.min_eq_left hkz] at p1
         rw [List.getElem?_append_right (by rw [List.length_append, List.length_take, hy]; omega), List.getElem?_drop, List.length_append, List.length_take, hy, Nat.min_eq_left (by omega)] at p2
         exact e4 _ u y' p1 p2⟩)
   refine ⟨v', _, rfl, hgrow.1, hgrow.2, .own _ _ _ (by simpa using hlt) (fun u g' hb => ?_) (ownsRow_one q1)⟩
   rw [List.getElem?_set_self hlt] at hb
   cases hb
   exact ⟨Nat.le_refl _, fun _ => rfl⟩
 by_cases hkn : k = xs.length
 · subst hkn
   refine (insertSe_end w v v2 xs.length us X e2 (by simpa using f2) h1X hl).mono ?_
   rintro e w' ⟨v', rfl, q1, q2, q3⟩
   have hull : us.length = xs.length * 3 := e2.1
   exact fin v' w' (by rw [List.take_of_length_le (by omega), List.drop_eq_nil_of_le (by omega), List.append_nil]; exact q1) q2 q3
 · rcases e2.2 with ⟨_, h0⟩ | ⟨b, cap, cur, hvv, _, hg, hnc, hcm, hcs, htk⟩
   · omega
   rcases f2.2 with ⟨_, h0⟩ | ⟨vb, vc, vcur, hvv2, _, hg2, hnc2, hcm2, hcs2, htk2⟩
   · simp at h0
   subst hvv
   subst hvv2
   have hnb : vb ≠ b := fun e => by subst e; exact hH.ap i i2 _ _ vb hne e1 f1 (opt_mem.2 rfl) (opt_mem.2 rfl)
   have hXc : ∀ (j : Nat) (u : Value), X[j]? = some u → vcur[j]? = some u := by
     intro j u hj
     rw [← htk2, List.getElem?_take] at hj
     split at hj
     · simpa using hj
     · cases hj
   have hc0 : 0 < vcur.size := by simp at hnc2; omega
   have h1c : ∀ u ∈ cur.toList.take (xs.length * 3), u.oneCell' = true := by rw [htk]; exact h1us
   have hulz : us.length = xs.length * 3 := e2.1
   have hmid : cur.toList.take (k * 3) = us.take (k * 3) ∧ (cur.toList.take (xs.length * 3)).drop (k * 3) = us.drop (k * 3) := by
     constructor
     · rw [← htk, List.take_take]; congr 1; omega
     · rw [htk]
   by_cases hroom : xs.length + 1 ≤ cap
   · unfold maxLen at hcm
     refine (insertSe_shift w b xs.length cap k cur vb vc vcur X hg hcs (by omega) hroom hcm hg2 hnb hXl hXc h1X h1c hc0).mono ?_
     rintro e w' ⟨rfl, q1, q2⟩
     have hcl : cur.toList.length = cap * 3 := by simpa using hcs
     obtain ⟨m1, m2⟩ := midRow_take cur.toList X (k * 3) (xs.length * 3) 3 (by omega) hXl (by rw [hcl]; omega)
     rw [hmid.1, hmid.2] at m1
     have hull : us.length = xs.length * 3 := hulz
     exact fin _ w' ⟨by simp [hXl]; omega, .inr ⟨b, cap, _, rfl, Nat.zero_le _, q1, hroom, by unfold maxLen; omega, by simp [m2, hcs], by rw [show (xs.length + 1) * 3 = xs.length * 3 + 3 by omega]; simpa using m1⟩⟩ q2 (.inl rfl)
   · refine (insertSe_grow w b xs.length cap k cur vb vc vcur X hg hcs (by omega) hnc (by omega) hl hg2 hXl hXc h1X h1c).mono ?_
     rintro e w' ⟨C, row, rfl, q1, q2, q3, q4, q5, q6⟩
     rw [hmid.1, hmid.2] at q5
     have hull : us.length = xs.length * 3 := hulz
     exact fin _ w' ⟨by simp [hXl]; omega, .inr ⟨_, C, _, rfl, Nat.zero_le _, q3, q1, q2, by simp [q4], by simpa using q5⟩⟩ ⟨q6.os, q6.tape, q6.output, q6.size, fun q hq h => q6.block q hq (by simp)⟩ (.inr rfl)
end Go.Proofs.YtcndnllmlhhjiaaGreatDoor.Ssn
namespace Go.Proofs.YtcndnllmlhhjiaaGreatDoor.Ssn
open Go.RowKit
open SessP
def putP (l : List Se) (s : Se) : List Se :=
 if 0 ≤ idxOf (fun x => decide (x.client = s.client)) l then l.set (idxOf (fun x => decide (x.client = s.client)) l).toNat s
 else if idxOf (fun x => decide (s.client < x.client)) l < 0 then l.take l.length ++ [s] ++ l.drop l.length
 else l.take (idxOf (fun x => decide (s.client < x.client)) l).toNat ++ [s] ++ l.drop (idxOf (fun x => decide (s.client < x.client)) l).toNat
def noteP (l : List Se) (s : Se) : List Se × Int :=
 if (askP l s.client s.seq).2.2 = 0 then if may s = true then if (askP l s.client s.seq).2.1 = true then ([], 41) else (putP l s, 0) else ([], 2)
 else ([], (askP l s.client s.seq).2.2)
theorem ins_map (l : List Se) (s : Se) (k : Nat) : (l.take k ++ [s] ++ l.drop k).map aSe = (l.map aSe).take k ++ [aSe s] ++ (l.map aSe).drop k := by
 rw [List.map_append, List.map_append, List.map_take, List.map_drop]; rfl
theorem set_cells {z : Nat} {xs : List AV} {k : Nat} {X : AV} (h : ∀ x, x ∈ xs → x.cells.length = z) (hX : X.cells.length = z) : ∀ x, x ∈ xs.set k X → x.cells.length = z := by
 intro x hx
 rcases List.mem_or_eq_of_mem_set hx with hx | rfl
 · exact h x hx
 exact hX
theorem clone_new (l : List Se) (hl : l.length ≤ 1000000) : FnNew Tryz.prog 87 [.sl (l.map aSe)] 75 3 (l.map aSe) :=
 FnNew.of_owns encSe aSe 3 encSe_len (fun x => rfl) (fun x u hu => by simp [encSe] at hu; rcases hu with rfl | rfl | rfl <;> rfl) l (fun w a cap hr _ _ _ => cloneSe_any a cap l w hr hl)
theorem noteF_fn (x s : Se) : FnP Tryz.prog 90 [aSe x, .pe (aSe s).cells] (.bool (decide (s.client < x.client))) := by
 refine FnP.of Tryz.func90 rfl rfl (by simp) (by simp [AV.cells, aSe]) (fun G hG => ?_)
 have hN : NoH G.length (.bool (decide (s.client < x.client))) := (by simp [AV.cells, aSe])
 refine sr fun _ => ?_
 refine ARun.box (j := 0) hG rfl rfl rfl rfl rfl (ep rfl) rfl rfl optN ?_
 refine mz (sr fun _ => ?_)
 refine ρ6 (fo := 0) U75 sz3 ?_
 refine ρd U3 ?_
 refine ρ4 U75 sz3 ?_
 refine ρ7 U3 ?_
 refine ρ2 ?_
 refine mz ?_
 refine AWP.ret ?_
 refine ρi ?_
 rfl
theorem note_fn (l : List Se) (s : Se) (hl : l.length ≤ 1000) (hs : s.reply.size ≤ 9223372036854775807) : FnP Tryz.prog 56 [.sl (l.map aSe), aSe s] (.tup [.sl ((noteP l s).1.map aSe), .int .i64 (noteP l s).2]) := by
 have hr1 := idx_range (fun x : Se => decide (x.client = s.client)) l
 have hr2 := idx_range (fun x : Se => decide (s.client < x.client)) l
 refine FnP.of Tryz.func56 rfl rfl (by simp) (by simp [AV.cells, aSe]) (fun G hG => ?_)
 have hN : NoH G.length (.tup [.sl ((noteP l s).1.map aSe), .int .i64 (noteP l s).2]) := (by simp [AV.cells, aSe])
 refine sr fun _ => ?_
 refine ARun.box (j := 0) hG rfl rfl rfl rfl rfl (ep rfl) rfl rfl optN ?_
 refine ma ?_
 refine mz (sr fun _ => ?_)
 refine mv ?_
 refine ρ6 (fo := 0) U75 sz3 ?_
 refine ρd U3 ?_
 refine ρ6 (fo := 1) U75 sz3 ?_
 refine ρd U3 ?_
 refine ARun.call rfl rfl rfl rfl cf54 (ep rfl) (.cons (ep rfl) (.cons (ep rfl) (.cons (ep rfl) .nil))) rfl (fun hg => ask_fn l s.client s.seq (by omega)) optN ?_
 refine mv ?_
 refine ρ9 ?_
 refine ρ9 ?_
 refine ρ9 ?_
 refine ma ?_
 refine ma ?_
 refine mz ?_
 refine AWP.seq (AWP.block (sr fun _ => ?_))
 refine mv ?_
 refine ρ2 ?_
 refine mz ?_
 refine ρp (fun h0 => ?_) (fun h0 => ?_)
 · try simp at h0
   refine sr fun _ => ?_
   refine mv ?_
   refine ma ?_
   refine mz ?_
   refine AWP.ret (blockA_r (thenA_r ?_))
   refine ρj (rs := [.tmp 4, .tmp 5]) (.cons (.tmp rfl) (.cons (.tmp rfl) .nil)) ?_
   rw [show noteP l s = ([], (askP l s.client s.seq).2.2) from by unfold noteP; rw [if_neg h0]]; rfl
 try simp at h0
 refine sr fun _ => ?_
 refine ρn U75 sz75 ?_
 refine ρm cf86 (fun hg => may_fn s) ?_
 refine ρC ?_
 refine mz ?_
 refine ρp (fun h1 => ?_) (fun h1 => ?_)
 · try simp at h1
   refine sr fun _ => ?_
   refine ma ?_
   refine mz ?_
   refine AWP.ret (blockA_r (thenA_r ?_))
   refine ρj (rs := [.tmp 4, .tmp 5]) (.cons (.tmp rfl) (.cons (.tmp rfl) .nil)) ?_
   rw [show noteP l s = ([], 2) from by unfold noteP; rw [if_pos h0, if_neg (by simp [h1])]]; rfl
 try simp at h1
 refine sr fun _ => ?_
 refine mv ?_
 refine mz ?_
 refine ρp (fun h2 => ?_) (fun h2 => ?_)
 · try simp at h2
   refine sr fun _ => ?_
   refine ma ?_
   refine mz ?_
   refine AWP.ret (blockA_r (thenA_r ?_))
   refine ρj (rs := [.tmp 4, .tmp 5]) (.cons (.tmp rfl) (.cons (.tmp rfl) .nil)) ?_
   rw [show noteP l s = ([], 41) from by unfold noteP; rw [if_pos h0, if_pos h1, if_pos h2]]; rfl
 try simp at h2
 refine AWP.skip (blockA_n (thenA_n (sr fun _ => ?_)))
 refine mv ?_
 refine ARun.callNew (j := 1) hG rfl rfl rfl rfl rfl cf87 (ep rfl) (.cons (ep rfl) .nil) rfl (clone_new l (by omega)) optN ?_
 refine mz ?_
 refine AWP.seq (sr fun _ => ?_)
 refine mv ?_
 refine ρ6 (fo := 0) U75 sz3 ?_
 refine ρd U3 ?_
 refine ρm cf89 (fun hg => of_fn _) ?_
 refine ARun.callLent rfl rfl rfl rfl cf88 (ep rfl) (.cons (ep rfl) (.cons (ep rfl) .nil)) rfl (.own ((hG.at _ _).trans rfl) (by simp [maxLen]; omega) (.same .nil)) (indexSe 130 [] [.pe [.int .i64 s.client]] (fun x => decide (x.client = s.client)) l (by omega) cf130 (by simp) (fun x _ => off_fn x s.client)) (by simp [AV.cells, aSe]) optN ?_
 refine mz (sr fun _ => ?_)
 refine mv ?_
 refine ρ2 ?_
 refine ez ?_
 refine ρp (fun h3 => ?_) (fun h3 => ?_)
 · try simp at h3
   refine sr fun _ => ?_
   refine mv ?_
   refine mv ?_
   refine ρn U75 sz75 ?_
   refine ARun.indexOwn (j := (idxOf (fun x => decide (x.client = s.client)) l).toNat) rfl rfl rfl rfl U23 sz75 ((hG.at _ _).trans rfl) (ep rfl) (ep rfl) (fun hg => ofNonneg (by omega)) (fun hg => (by simp; omega)) optN ?_
   refine ARun.storeEltL (zs := (l.map aSe).set (idxOf (fun x => decide (x.client = s.client)) l).toNat (aSe s)) hG rfl rfl rfl sz75 (ep rfl) (ep rfl) rfl rfl rfl rfl rfl (by simp; omega) (flat_set _ _ (aSe s) (by simp [aSe, AV.cells]) rfl (by simp; omega)) (by simp) (set_cells (by simp [aSe, AV.cells]) rfl) rfl ?_
   refine ez (sr fun _ => ?_)
   refine mv ?_
   refine ma ?_
   refine mz ?_
   refine AWP.frzOwn 4 hG rfl rfl (by decide) (by simp [maxLen]; omega) rfl ?_
   refine AWP.ret (thenA_r ?_)
   refine ρj (rs := [.tmp 4, .tmp 5]) (.cons (.tmp rfl) (.cons (.tmp rfl) .nil)) ?_
   rw [show noteP l s = (putP l s, 0) from by unfold noteP; rw [if_pos h0, if_pos h1, if_neg (by simp [h2])], show (putP l s).map aSe = _ from by unfold putP; rw [if_pos (by omega), List.map_set]]; rfl
 try simp at h3
 refine AWP.skip (thenA_n (AWP.seq ?_))
 refine AWP.frzBox 3 hG rfl rfl rfl ?_
 refine AWP.region (fun _ => ?_)
 refine mv ?_
 refine ARun.makeFunc rfl rfl rfl rfl .nil (.cons (ep rfl) .nil) optN ?_
 refine ARun.callLent rfl rfl rfl rfl cf88 (ep rfl) (.cons (ep rfl) (.cons (ep rfl) .nil)) rfl (.own ((hG.at _ _).trans rfl) (by simp [maxLen]; omega) (.same .nil)) (indexSe 90 [] [.pe (aSe s).cells] (fun x => decide (s.client < x.client)) l (by omega) cf90 (by simp [aSe, AV.cells]) (fun x _ => noteF_fn x s)) (by simp [AV.cells, aSe]) optN ?_
 refine mz ?_
 refine AWP.seq (sr fun _ => ?_)
 refine mv ?_
 refine ρ2 ?_
 refine ez ?_
 refine ρp (fun h4 => ?_) (fun h4 => ?_)
 · try simp at h4
   refine AWP.region (fun _ => ?_)
   refine mv ?_
   refine ARun.lenOwn rfl rfl rfl rfl U23 (ep rfl) ((hG.at _ _).trans rfl) optN ?_
   refine mz (sr fun _ => ?_)
   refine mv ?_
   refine mv ?_
   refine ρl U75 sz75 ?_
   refine ARun.buildOwn (j := 2) hG rfl rfl rfl rfl rfl U23 sz75 zv75 rfl (by decide) (.cons (ep rfl) .nil) rfl rfl rfl rfl (by decide) rfl rfl optN ?_
   refine ARun.callSet (j := 1) hG rfl rfl rfl rfl cf91 (ep rfl) (.cons (ep rfl) (.cons (ep rfl) (.cons (ep rfl) .nil))) rfl (insertSe_fn (l.map aSe) (aSe s) l.length (by simp) (by simp; omega) (by simp [aSe, AV.cells, AV.one]) rfl (i := G.length + 1) (i2 := G.length + 2) (by simp) ((hG.at _ _).trans rfl) ((hG.at _ _).trans rfl) (by omega)) rfl optN ?_
   refine ma ?_
   refine mz ?_
   refine AWP.frzOwn 4 hG rfl rfl (by decide) (by simp [maxLen]; omega) rfl ?_
   refine AWP.ret ?_
   refine ρj (rs := [.tmp 4, .tmp 5]) (.cons (.tmp rfl) (.cons (.tmp rfl) .nil)) ?_
   rw [show noteP l s = (putP l s, 0) from by unfold noteP; rw [if_pos h0, if_pos h1, if_neg (by simp [h2])], show (putP l s).map aSe = (l.map aSe).take l.length ++ [aSe s] ++ (l.map aSe).drop l.length from by unfold putP; rw [if_neg (by omega), if_pos (by omega)]; exact ins_map _ _ _]; rfl
 try simp at h4
 refine AWP.skip (thenA_n (sr fun _ => ?_))
 refine mv ?_
 refine mv ?_
 refine ρl U75 sz75 ?_
 refine ARun.buildOwn (j := 2) hG rfl rfl rfl rfl rfl U23 sz75 zv75 rfl (by decide) (.cons (ep rfl) .nil) rfl rfl rfl rfl (by decide) rfl rfl optN ?_
 refine ARun.callSet (j := 1) hG rfl rfl rfl rfl cf91 (ep rfl) (.cons (ep rfl) (.cons (ep rfl) (.cons (ep rfl) .nil))) rfl (insertSe_fn (l.map aSe) (aSe s) (idxOf (fun x => decide (s.client < x.client)) l).toNat (by simp; omega) (by simp; omega) (by simp [aSe, AV.cells, AV.one]) rfl (i := G.length + 1) (i2 := G.length + 2) (by omega) ((hG.at _ _).trans rfl) ((hG.at _ _).trans rfl) (by omega)) rfl optN ?_
 refine ma ?_
 refine mz ?_
 refine AWP.frzOwn 4 hG rfl rfl (by decide) (by simp [maxLen]; omega) rfl ?_
 refine AWP.ret ?_
 refine ρj (rs := [.tmp 4, .tmp 5]) (.cons (.tmp rfl) (.cons (.tmp rfl) .nil)) ?_
 rw [show noteP l s = (putP l s, 0) from by unfold noteP; rw [if_pos h0, if_pos h1, if_neg (by simp [h2])], show (putP l s).map aSe = (l.map aSe).take (idxOf (fun x => decide (s.client < x.client)) l).toNat ++ [aSe s] ++ (l.map aSe).drop (idxOf (fun x => decide (s.client < x.client)) l).toNat from by unfold putP; rw [if_neg (by omega), if_neg (by omega)]; exact ins_map _ _ _]; rfl
end Go.Proofs.YtcndnllmlhhjiaaGreatDoor.Ssn
namespace Go.Proofs.YtcndnllmlhhjiaaGreatDoor.Ssn
open SessP
theorem idxOf_nil {α : Type} (p : α → Bool) : idxOf p [] = -1 := by simp [idxOf]
theorem idxOf_cons {α : Type} (p : α → Bool) (x : α) (l : List α) : idxOf p (x :: l) = if p x = true then 0 else if 0 ≤ idxOf p l then idxOf p l + 1 else -1 := by
 unfold idxOf
 rw [List.findIdx?_cons]
 by_cases h : p x = true
 · simp [h]
 · rw [if_neg h, if_neg h]
   cases l.findIdx? p with
   | none => simp
   | some i => simp
theorem idxOf_hit {α : Type} {p : α → Bool} {x : α} (l : List α) (h : p x = true) : idxOf p (x :: l) = 0 := by rw [idxOf_cons, if_pos h]
theorem idxOf_far {α : Type} {p : α → Bool} {x : α} {l : List α} (h : p x = false) (h2 : 0 ≤ idxOf p l) : idxOf p (x :: l) = idxOf p l + 1 := by rw [idxOf_cons, if_neg (by simp [h]), if_pos h2]
theorem idxOf_mis {α : Type} {p : α → Bool} {x : α} {l : List α} (h : p x = false) (h2 : ¬ 0 ≤ idxOf p l) : idxOf p (x :: l) = -1 := by rw [idxOf_cons, if_neg (by simp [h]), if_neg h2]
theorem idxOf_ge {α : Type} (p : α → Bool) (l : List α) : -1 ≤ idxOf p l := (idx_range p l).1
def asc : Int → List Se → Prop
 | _, [] => True
 | p, x :: l => p < x.client ∧ asc x.client l
theorem asc_of_ok : ∀ (l : List Se) (p : Int), okFrom p l = true → asc p l := by
 intro l
 induction l with
 | nil => intro p _; trivial
 | cons x l ih =>
   intro p h
   simp only [okFrom, Bool.and_eq_true, decide_eq_true_eq] at h
   exact ⟨h.1.2, ih _ h.2⟩
theorem asc_all : ∀ (l : List Se) (p : Int), asc p l → ∀ x, x ∈ l → p < x.client := by
 intro l
 induction l with
 | nil => intro p _ x hx; cases hx
 | cons y l ih =>
   intro p h x hx
   rcases List.mem_cons.1 hx with rfl | hx
   · exact h.1
   · exact Int.lt_trans h.1 (ih _ h.2 x hx)
theorem idxOf_no {α : Type} (p : α → Bool) (l : List α) (h : ∀ x, x ∈ l → p x = false) : idxOf p l = -1 := by
 unfold idxOf
 rw [List.findIdx?_eq_none_iff.2 (fun x hx => by simp [h x hx])]
def putR : List Se → Se → List Se
 | [], s => [s]
 | x :: t, s => if x.client < s.client then x :: putR t s else if x.client = s.client then s :: t else s :: x :: t
theorem putP_eq : ∀ (l : List Se) (s : Se) (p : Int), asc p l → putP l s = putR l s := by
 intro l
 induction l with
 | nil => intro s p _; simp [putP, putR, idxOf_nil]
 | cons x l ih =>
   intro s p h
   have hr1 := idxOf_ge (fun x : Se => decide (x.client = s.client)) l
   have hr2 := idxOf_ge (fun x : Se => decide (s.client < x.client)) l
   unfold putR
   by_cases h1 : x.client < s.client
   · rw [if_pos h1, ← ih s _ h.2]
     have n1 : (fun x : Se => decide (x.client = s.client)) x = false := by simp; omega
     have n2 : (fun x : Se => decide (s.client < x.client)) x = false := by simp; omega
     unfold putP
     by_cases c1 : 0 ≤ idxOf (fun x : Se => decide (x.client = s.client)) l
     · rw [idxOf_far (p := fun x : Se => decide (x.client = s.client)) (x := x) (l := l) n1 c1, if_pos (by omega), if_pos c1, show (idxOf (fun x : Se => decide (x.client = s.client)) l + 1).toNat = (idxOf (fun x : Se => decide (x.client = s.client)) l).toNat + 1 by omega]
       rfl
     · rw [idxOf_mis (p := fun x : Se => decide (x.client = s.client)) (x := x) (l := l) n1 c1, if_neg (by omega), if_neg c1]
       by_cases c2 : 0 ≤ idxOf (fun x : Se => decide (s.client < x.client)) l
       · rw [idxOf_far (p := fun x : Se => decide (s.client < x.client)) (x := x) (l := l) n2 c2, if_neg (by omega), if_neg (by omega), show (idxOf (fun x : Se => decide (s.client < x.client)) l + 1).toNat = (idxOf (fun x : Se => decide (s.client < x.client)) l).toNat + 1 by omega]
         rfl
       · rw [idxOf_mis (p := fun x : Se => decide (s.client < x.client)) (x := x) (l := l) n2 c2, if_pos (by omega), if_pos (by omega)]
         rfl
   · rw [if_neg h1]
     by_cases h2 : x.client = s.client
     · rw [if_pos h2]
       unfold putP
       rw [idxOf_hit l (p := fun x : Se => decide (x.client = s.client)) (by simpa using h2), if_pos (by omega)]
       rfl
     · rw [if_neg h2]
       have hn := asc_all l _ h.2
       have n1 : (fun x : Se => decide (x.client = s.client)) x = false := by simpa using h2
       have n2 : (fun x : Se => decide (s.client < x.client)) x = true := by simp; omega
       unfold putP
       rw [idxOf_mis (p := fun x : Se => decide (x.client = s.client)) (x := x) (l := l) n1 (by rw [idxOf_no _ l (fun y hy => by have := hn y hy; simp; omega)]; omega), if_neg (by omega), idxOf_hit (p := fun x : Se => decide (s.client < x.client)) (x := x) l n2, if_neg (by omega)]
       rfl
theorem flt_none (l : List Se) (q : Se → Bool) (h : ∀ x, x ∈ l → q x = false) : l.filter q = [] := List.filter_eq_nil_iff.2 fun x hx => by simp [h x hx]
theorem flt_all (l : List Se) (q : Se → Bool) (h : ∀ x, x ∈ l → q x = true) : l.filter q = l := List.filter_eq_self.2 h
theorem putR_eq : ∀ (l : List Se) (s : Se) (p : Int), asc p l → putR l s = l.filter (fun x => decide (x.client < s.client)) ++ [s] ++ l.filter (fun x => decide (s.client < x.client)) := by
 intro l
 induction l with
 | nil => intro s p _; rfl
 | cons x l ih =>
   intro s p h
   have hn := asc_all l _ h.2
   unfold putR
   by_cases h1 : x.client < s.client
   · rw [if_pos h1, ih s _ h.2, List.filter_cons_of_pos (by simpa using h1), List.filter_cons_of_neg (by simp; omega)]; rfl
   · rw [if_neg h1, List.filter_cons_of_neg (by simpa using h1), flt_none l (fun x => decide (x.client < s.client)) (fun y hy => by have := hn y hy; simp; omega)]
     by_cases h2 : x.client = s.client
     · rw [if_pos h2, List.filter_cons_of_neg (by simp; omega), flt_all l _ (fun y hy => by have := hn y hy; simp; omega)]; rfl
     · rw [if_neg h2, List.filter_cons_of_pos (by simp; omega), flt_all l _ (fun y hy => by have := hn y hy; simp; omega)]; rfl
theorem okE_ok {l : List Se} (h : okE l = 0) : l.length ≤ 20 ∧ okFrom 0 l = true := by
 unfold okE ok at h
 split at h
 · rename_i h2; simpa using h2
 · cases h
theorem askP_ok {l : List Se} {c q : Int} (h : (askP l c q).2.2 = 0) : okE l = 0 ∧ numB c = true ∧ numB q = true := by
 unfold askP at h
 split at h
 · assumption
 · cases h
theorem put_filter {l : List Se} {s : Se} (h : (askP l s.client s.seq).2.2 = 0) : putP l s = l.filter (fun x => decide (x.client < s.client)) ++ [s] ++ l.filter (fun x => decide (s.client < x.client)) := by
 have ha := asc_of_ok l 0 (okE_ok (askP_ok h).1).2
 rw [putP_eq l s 0 ha, putR_eq l s 0 ha]
theorem may_of_ask {l : List Se} {s : Se} (h : (askP l s.client s.seq).2.2 = 0) : may s = decide (s.reply.size ≤ 300) := by
 obtain ⟨_, h1, h2⟩ := askP_ok h
 unfold may; rw [h1, h2]; rfl
theorem numB_iff (n : Int) : numB n = true ↔ 1 ≤ n ∧ n ≤ 99999 := by unfold numB; simp
theorem map_snoc {α β : Type} (f : α → β) (l : List α) (x : α) : l.map f ++ [f x] = (l ++ [x]).map f := by simp
theorem flt_yes {q : Se → Bool} {l : List Se} {k : Nat} (hk : k < l.length) (h : q (l.getD k default) = true) : (l.take k).filter q ++ [l.getD k default] = (l.take (k + 1)).filter q := by
 rw [List.take_succ_eq_append_getElem hk, List.filter_append, ← Se_idx hk]; congr 1; simp only [List.filter, h]
theorem flt_no {q : Se → Bool} {l : List Se} {k : Nat} (hk : k < l.length) (h : q (l.getD k default) = false) : (l.take k).filter q = (l.take (k + 1)).filter q := by
 rw [List.take_succ_eq_append_getElem hk, List.filter_append, ← Se_idx hk]; simp only [List.filter, h, List.append_nil]
/-! ### what the laws ask -/
theorem okFrom_iff : ∀ (l : List Se) (p : Int), okFrom p l = true ↔ (∀ x, x ∈ l → may x = true) ∧ asc p l := by
 intro l
 induction l with
 | nil => intro p; simp [okFrom, asc]
 | cons x l ih =>
   intro p
   simp only [okFrom, Bool.and_eq_true, decide_eq_true_eq, ih, asc, List.mem_cons, forall_eq_or_imp]
   constructor
   · rintro ⟨⟨a, b⟩, c, d⟩; exact ⟨⟨a, c⟩, b, d⟩
   · rintro ⟨⟨a, c⟩, b, d⟩; exact ⟨⟨a, b⟩, c, d⟩
theorem putR_asc : ∀ (l : List Se) (s : Se) (p : Int), asc p l → p < s.client → asc p (putR l s) := by
 intro l
 induction l with
 | nil => intro s p _ h; exact ⟨h, trivial⟩
 | cons x l ih =>
   intro s p h hp
   unfold putR
   split
   · rename_i h1; exact ⟨h.1, ih s _ h.2 h1⟩
   · split
     · rename_i h1 h2; exact ⟨hp, h2 ▸ h.2⟩
     · rename_i h1 h2; exact ⟨hp, by omega, h.2⟩
theorem putR_mem : ∀ (l : List Se) (s x : Se), x ∈ putR l s → x = s ∨ x ∈ l := by
 intro l
 induction l with
 | nil => intro s x h; simpa [putR] using h
 | cons y l ih =>
   intro s x h
   unfold putR at h
   split at h
   · rcases List.mem_cons.1 h with rfl | h
     · exact .inr List.mem_cons_self
     · rcases ih s x h with h | h
       · exact .inl h
       · exact .inr (List.mem_cons_of_mem _ h)
   · split at h
     · rcases List.mem_cons.1 h with rfl | h
       · exact .inl rfl
       · exact .inr (List.mem_cons_of_mem _ h)
     · rcases List.mem_cons.1 h with rfl | h
       · exact .inl rfl
       · exact .inr h
theorem findP_nil (c : Int) : findP [] c = (default, false) := by unfold findP; rw [idxOf_nil, if_neg (by omega)]
theorem findP_cons (x : Se) (l : List Se) (c : Int) : findP (x :: l) c = if x.client = c then (x, true) else findP l c := by
 by_cases h : x.client = c
 · rw [if_pos h]
   unfold findP
   rw [idxOf_hit l (p := fun x : Se => decide (x.client = c)) (by simpa using h), if_pos (by omega)]; rfl
 · rw [if_neg h]
   have n1 : (fun x : Se => decide (x.client = c)) x = false := by simpa using h
   unfold findP
   by_cases h2 : 0 ≤ idxOf (fun x : Se => decide (x.client = c)) l
   · rw [idxOf_far (p := fun x : Se => decide (x.client = c)) (x := x) (l := l) n1 h2, if_pos h2, if_pos (by omega), show (idxOf (fun x : Se => decide (x.client = c)) l + 1).toNat = (idxOf (fun x : Se => decide (x.client = c)) l).toNat + 1 by omega]; rfl
   · rw [idxOf_mis (p := fun x : Se => decide (x.client = c)) (x := x) (l := l) n1 h2, if_neg h2, if_neg (by omega)]
theorem findP_no {l : List Se} {c : Int} (h : ∀ x, x ∈ l → x.client ≠ c) : findP l c = (default, false) := by
 unfold findP
 rw [idxOf_no _ l (fun x hx => by simpa using h x hx), if_neg (by omega)]
theorem putR_len : ∀ (l : List Se) (s : Se) (p : Int), asc p l → (putR l s).length ≤ l.length + 1 ∧ ((findP l s.client).2 = true → (putR l s).length = l.length) := by
 intro l
 induction l with
 | nil => intro s p _; simp [putR, findP_nil]
 | cons x l ih =>
   intro s p h
   obtain ⟨h1, h2⟩ := ih s _ h.2
   have hn := asc_all l _ h.2
   unfold putR
   rw [findP_cons]
   split
   · rename_i hx
     rw [if_neg (by omega)]
     simp only [List.length_cons]
     exact ⟨by omega, fun h => by rw [h2 h]⟩
   · split
     · simp
     · rename_i a b
       rw [findP_no (fun y hy => by have := hn y hy; omega)]
       simp
end Go.Proofs.YtcndnllmlhhjiaaGreatDoor.Ssn
namespace Go.Proofs.YtcndnllmlhhjiaaGreatDoor.Ssn
open Go.RowKit
open SessP
theorem askR_fn (l : List Se) (c q : Int) (hl : l.length ≤ 9223372036854775807) : FnP Tryz.prog 60 [.sl (l.map aSe), .int .i64 c, .int .i64 q] (.tup [.str (askP l c q).1, .bool (askP l c q).2.1, .int .i64 (askP l c q).2.2]) := by
 have hid := findP_id (l := l) (c := c)
 have h20 := fun h : okE l = 0 => (okE_ok h).1
 have hn := fun n => numB_iff n
 refine FnP.of Tryz.func60 rfl rfl (by simp) (by simp [AV.cells, aSe]) (fun G hG => ?_)
 have hN : NoH G.length (.tup [.str (askP l c q).1, .bool (askP l c q).2.1, .int .i64 (askP l c q).2.2]) := (by simp [AV.cells, aSe])
 refine sr fun _ => ?_
 refine ma ?_
 refine ma ?_
 refine mz ?_
 refine AWP.seq (sr fun _ => ?_)
 refine mv ?_
 refine ρm cf47 (fun hg => checkR_fn l) ?_
 refine ρ2 ?_
 refine mv ?_
 refine ρg ?_
 refine ρb ?_
 refine ρ3 ?_
 refine mv ?_
 refine ρg ?_
 refine ρb ?_
 refine ρ3 ?_
 refine mv ?_
 refine ρg ?_
 refine ρb ?_
 refine ρ3 ?_
 refine mv ?_
 refine ρg ?_
 refine ρb ?_
 refine ρ3 ?_
 refine ez ?_
 refine ρp (fun h0 => ?_) (fun h0 => ?_)
 · simp at h0
   refine sr fun _ => ?_
   refine ma ?_
   refine ma ?_
   refine mz ?_
   refine AWP.ret (thenA_r ?_)
   refine ρj (rs := [.tmp 6, .tmp 7, .tmp 8]) (.cons (.tmp rfl) (.cons (.tmp rfl) (.cons (.tmp rfl) .nil))) ?_
   unfold askP; rw [if_neg (by rintro ⟨a, b, c⟩; rw [hn] at b c; omega)]; rfl
 simp at h0
 refine AWP.skip (thenA_n (sr fun _ => ?_))
 refine mv ?_
 refine mv ?_
 refine ρh cf93 (fun hg => findR_fn l c hl) ?_
 refine mv ?_
 refine ρ9 ?_
 refine ρ9 ?_
 refine ρo (j := 0) zv75 ?_
 refine ρ1 sz75 ?_
 refine mz ?_
 refine AWP.seq (sr fun _ => ?_)
 refine mv ?_
 refine ρC ?_
 refine ez ?_
 refine ρp (fun h1 => ?_) (fun h1 => ?_)
 · simp at h1
   refine AWP.seq (sr fun _ => ?_)
   refine mv ?_
   refine ρv U23 ?_
   refine ρ2 ?_
   refine ez ?_
   refine ρp (fun h2 => ?_) (fun h2 => ?_)
   · simp at h2
     refine sr fun _ => ?_
     refine ma ?_
     refine ma ?_
     refine mz ?_
     refine AWP.ret (thenA_r (thenA_r ?_))
     refine ρj (rs := [.tmp 6, .tmp 7, .tmp 8]) (.cons (.tmp rfl) (.cons (.tmp rfl) (.cons (.tmp rfl) .nil))) ?_
     unfold askP; rw [if_pos ⟨by omega, (hn _).2 (by omega), (hn _).2 (by omega)⟩, if_neg (by simp [h1]), if_pos (by omega)]; rfl
   simp at h2
   refine AWP.skip (thenA_n (sr fun _ => ?_))
   refine ma ?_
   refine ma ?_
   refine mz ?_
   refine AWP.ret (thenA_r ?_)
   refine ρj (rs := [.tmp 6, .tmp 7, .tmp 8]) (.cons (.tmp rfl) (.cons (.tmp rfl) (.cons (.tmp rfl) .nil))) ?_
   unfold askP; rw [if_pos ⟨by omega, (hn _).2 (by omega), (hn _).2 (by omega)⟩, if_neg (by simp [h1]), if_neg (by have := h20 (by omega); omega)]; rfl
 simp at h1
 refine AWP.skip (thenA_n (AWP.seq (sr fun _ => ?_)))
 refine ρ6 (fo := 1) U75 sz3 ?_
 refine ρd U3 ?_
 refine mv ?_
 refine ρ2 ?_
 refine ez ?_
 refine ρp (fun h3 => ?_) (fun h3 => ?_)
 · simp at h3
   refine sr fun _ => ?_
   refine ρ6 (fo := 2) U75 sz9 ?_
   refine ρd U9 ?_
   refine ma ?_
   refine ma ?_
   refine mz ?_
   refine AWP.ret (thenA_r ?_)
   refine ρj (rs := [.tmp 6, .tmp 7, .tmp 8]) (.cons (.tmp rfl) (.cons (.tmp rfl) (.cons (.tmp rfl) .nil))) ?_
   unfold askP; rw [if_pos ⟨by omega, (hn _).2 (by omega), (hn _).2 (by omega)⟩, if_pos h1, if_pos h3]; rfl
 simp at h3
 refine AWP.skip (thenA_n (AWP.seq (sr fun _ => ?_)))
 refine ρ6 (fo := 1) U75 sz3 ?_
 refine ρd U3 ?_
 refine mv ?_
 refine ρ2 ?_
 refine ez ?_
 refine ρp (fun h4 => ?_) (fun h4 => ?_)
 · simp at h4
   refine sr fun _ => ?_
   refine ma ?_
   refine ma ?_
   refine mz ?_
   refine AWP.ret (thenA_r ?_)
   refine ρj (rs := [.tmp 6, .tmp 7, .tmp 8]) (.cons (.tmp rfl) (.cons (.tmp rfl) (.cons (.tmp rfl) .nil))) ?_
   unfold askP; rw [if_pos ⟨by omega, (hn _).2 (by omega), (hn _).2 (by omega)⟩, if_pos h1, if_neg h3, if_pos h4]; rfl
 simp at h4
 refine AWP.skip (thenA_n (sr fun _ => ?_))
 refine ma ?_
 refine ma ?_
 refine mz ?_
 refine AWP.ret ?_
 refine ρj (rs := [.tmp 6, .tmp 7, .tmp 8]) (.cons (.tmp rfl) (.cons (.tmp rfl) (.cons (.tmp rfl) .nil))) ?_
 unfold askP; rw [if_pos ⟨by omega, (hn _).2 (by omega), (hn _).2 (by omega)⟩, if_pos h1, if_neg h3, if_neg (by omega)]; rfl
theorem noteR_fn (l : List Se) (s : Se) (hl : l.length ≤ 1000) : FnP Tryz.prog 62 [.sl (l.map aSe), aSe s] (.tup [.sl ((noteP l s).1.map aSe), .int .i64 (noteP l s).2]) := by
 refine FnP.of Tryz.func62 rfl rfl (by simp) (by simp [AV.cells, aSe]) (fun G hG => ?_)
 have hN : NoH G.length (.tup [.sl ((noteP l s).1.map aSe), .int .i64 (noteP l s).2]) := (by simp [AV.cells, aSe])
 refine sr fun _ => ?_
 refine ARun.box (j := 0) hG rfl rfl rfl rfl rfl (ep rfl) rfl rfl optN ?_
 refine ma ?_
 refine mz (sr fun _ => ?_)
 refine mv ?_
 refine ρ6 (fo := 0) U75 sz3 ?_
 refine ρd U3 ?_
 refine ρ6 (fo := 1) U75 sz3 ?_
 refine ρd U3 ?_
 refine ARun.call rfl rfl rfl rfl cf60 (ep rfl) (.cons (ep rfl) (.cons (ep rfl) (.cons (ep rfl) .nil))) rfl (fun hg => askR_fn l s.client s.seq (by omega)) optN ?_
 refine mv ?_
 refine ρ9 ?_
 refine ρ9 ?_
 refine ρ9 ?_
 refine ma ?_
 refine ma ?_
 refine mz ?_
 refine AWP.seq (sr fun _ => ?_)
 refine mv ?_
 refine ρ2 ?_
 refine ez ?_
 refine ρp (fun h0 => ?_) (fun h0 => ?_)
 · try simp [-List.getD_eq_getElem?_getD] at h0
   refine sr fun _ => ?_
   refine mv ?_
   refine ma ?_
   refine mz ?_
   refine AWP.ret (thenA_r ?_)
   refine ρj (rs := [.tmp 4, .tmp 5]) (.cons (.tmp rfl) (.cons (.tmp rfl) .nil)) ?_
   rw [show noteP l s = ([], (askP l s.client s.seq).2.2) from by unfold noteP; rw [if_neg h0]]; rfl
 try simp [-List.getD_eq_getElem?_getD] at h0
 refine AWP.skip (thenA_n (AWP.seq (sr fun _ => ?_)))
 refine ρ6 (fo := 2) U75 sz9 ?_
 refine ρd U9 ?_
 refine ARun.lenStr rfl rfl rfl rfl U9 (ep rfl) optN ?_
 refine ρ2 ?_
 refine ez ?_
 refine ρp (fun h1 => ?_) (fun h1 => ?_)
 · try simp [-List.getD_eq_getElem?_getD] at h1
   refine sr fun _ => ?_
   refine ma ?_
   refine mz ?_
   refine AWP.ret (thenA_r ?_)
   refine ρj (rs := [.tmp 4, .tmp 5]) (.cons (.tmp rfl) (.cons (.tmp rfl) .nil)) ?_
   rw [show noteP l s = ([], 2) from by unfold noteP; rw [if_pos h0, if_neg (by rw [may_of_ask h0]; simp; omega)]]; rfl
 try simp [-List.getD_eq_getElem?_getD] at h1
 refine AWP.skip (thenA_n (AWP.seq (sr fun _ => ?_)))
 refine mv ?_
 refine ez ?_
 refine ρp (fun h2 => ?_) (fun h2 => ?_)
 · try simp [-List.getD_eq_getElem?_getD] at h2
   refine sr fun _ => ?_
   refine ma ?_
   refine mz ?_
   refine AWP.ret (thenA_r ?_)
   refine ρj (rs := [.tmp 4, .tmp 5]) (.cons (.tmp rfl) (.cons (.tmp rfl) .nil)) ?_
   rw [show noteP l s = ([], 41) from by unfold noteP; rw [if_pos h0, if_pos (by rw [may_of_ask h0]; simp; omega), if_pos h2]]; rfl
 try simp [-List.getD_eq_getElem?_getD] at h2
 refine AWP.skip (thenA_n (sr fun _ => ?_))
 refine ARun.nilOwn (e := 75) (z := 3) (j := 1) hG rfl ⟨.inl rfl, rfl⟩ (fun _ => rfl) rfl rfl rfl optN ?_
 refine ez ?_
 refine AWP.seq (sr fun _ => ?_)
 refine mz ?_
 refine AWP.block ?_
 refine AWP.rounds (fun x => x.1 ≤ l.length ∧ x.2.2 = (l.take x.1).filter (fun x => decide (x.client < s.client)) ∧ x.2.2.length ≤ x.1) (fun x => [(0, .sl (l.map aSe)), (3, .box (G.length + 0) 0), (9, .own (G.length + 1) x.2.1), (10, .int .i64 (x.1 : Int))]) (fun x => [.box [.int .i64 s.client, .int .i64 s.seq, .str s.reply], .row x.2.1 75 3 (x.2.2.map aSe)]) (fun x => l.length - x.1) 2 ((0, 0, []) : Nat × Nat × List Se) ⟨by omega, rfl, by simp⟩ (by repeat (first | exact .nil | refine .cons rfl ?_)) rfl (fun _ => rfl) (fun _ => (by simp [AO.conts, AV.cells, aSe]; rintro x a _ (rfl | rfl | rfl) <;> simp)) (fun x hI => ?_)
 obtain ⟨kk, gg, acc⟩ := x
 dsimp only at hI
 show AWP _ _ _ _ _ [(0, .sl (l.map aSe)), (3, .box (G.length + 0) 0), (9, .own (G.length + 1) gg), (10, .int .i64 (kk : Int))] _ [.box [.int .i64 s.client, .int .i64 s.seq, .str s.reply], .row gg 75 3 (acc.map aSe)]
 obtain ⟨hk, hacc, hlen⟩ := hI
 refine AWP.seq (sr fun _ => ?_)
 refine mv ?_
 refine mv ?_
 refine ρv U23 ?_
 refine ρ2 ?_
 refine ez ?_
 refine ρp (fun h3 => ?_) (fun h3 => ?_)
 · try simp [-List.getD_eq_getElem?_getD] at h3
   refine AWP.skip (thenA_n ?_)
   refine AWP.seq (AWP.block (AWP.seq ?_))
   refine ρE mixed (fun _ => ?_)
   refine mv ?_
   refine mv ?_
   refine ρf U23 sz75 ?_
   refine ρ4 U75 sz3 ?_
   refine ρ7 U3 ?_
   refine ρ6 (fo := 0) U75 sz3 ?_
   refine ρd U3 ?_
   refine ρ2 ?_
   refine ⟨by kernel_rfl, _, _, rfl, hG, ?_⟩
   refine thenA_n ?_
   refine ρp (fun h4 => ?_) (fun h4 => ?_)
   · try simp [-List.getD_eq_getElem?_getD] at h4
     refine AWP.region (fun _ => ?_)
     refine mv ?_
     refine mv ?_
     refine mv ?_
     refine ρf U23 sz75 ?_
     refine ρl U75 sz75 ?_
     refine ρy U23 sz75 zv75 ?_
     refine ARun.appendL hG rfl rfl rfl rfl U23 ti75 rfl (by decide) (ep rfl) (ep rfl) rfl rfl (by simp [maxLen]; omega) (by simp; omega) (map_snoc aSe acc (l.getD kk default)) optN rfl ?_
     refine ma ?_
     refine ⟨_, _, rfl, hG, ?_⟩
     refine blockA_n (thenA_n ?_)
     refine AWP.region (fun _ => ?_)
     refine mv ?_
     refine ρa ?_
     refine ma ?_
     refine ⟨_, _, rfl, hG, ?_⟩
     refine thenA_n ⟨rfl, (kk + 1, gg + 1, acc ++ [l.getD kk default]), _, ?_, ?_, rfl, ?_⟩
     · refine ⟨by dsimp only; omega, ?_, by simp; omega⟩
       dsimp only; rw [hacc]; exact flt_yes h3 (by simpa using h4)
     · repeat (first | exact .nil | refine .cons rfl ?_)
     dsimp only; omega
   try simp [-List.getD_eq_getElem?_getD] at h4
   refine AWP.skip (blockA_n (thenA_n ?_))
   refine AWP.region (fun _ => ?_)
   refine mv ?_
   refine ρa ?_
   refine ma ?_
   refine ⟨_, _, rfl, hG, ?_⟩
   refine thenA_n ⟨rfl, (kk + 1, gg, acc), _, ?_, ?_, rfl, ?_⟩
   · refine ⟨by dsimp only; omega, ?_, by dsimp only; omega⟩
     dsimp only; rw [hacc]; exact flt_no h3 (by simpa using h4)
   · repeat (first | exact .nil | refine .cons rfl ?_)
   dsimp only; omega
 try simp [-List.getD_eq_getElem?_getD] at h3
 refine AWP.exit ?_
 refine thenA_x ?_
 refine thenA_x ?_
 refine blockA_h ?_
 refine thenA_n (sr fun _ => ?_)
 refine mv ?_
 refine ρn U75 sz75 ?_
 refine ρy U23 sz75 zv75 ?_
 refine ARun.appendL hG rfl rfl rfl rfl U23 ti75 rfl (by decide) (ep rfl) (ep rfl) rfl rfl (by simp [maxLen]; omega) (by simp; omega) (map_snoc aSe acc s) optN rfl ?_
 refine mz ?_
 refine AWP.seq (sr fun _ => ?_)
 refine mz ?_
 refine AWP.block ?_
 refine AWP.rounds (fun x => x.1 ≤ l.length ∧ x.2.2 = l.filter (fun x => decide (x.client < s.client)) ++ [s] ++ (l.take x.1).filter (fun x => decide (s.client < x.client)) ∧ x.2.2.length ≤ l.length + 1 + x.1) (fun x => [(0, .sl (l.map aSe)), (3, .box (G.length + 0) 0), (9, .own (G.length + 1) x.2.1), (11, .int .i64 (x.1 : Int))]) (fun x => [.box [.int .i64 s.client, .int .i64 s.seq, .str s.reply], .row x.2.1 75 3 (x.2.2.map aSe)]) (fun x => l.length - x.1) 2 ((0, gg + 1, acc ++ [s]) : Nat × Nat × List Se) ⟨by dsimp only; omega, by dsimp only; rw [hacc, List.take_of_length_le h3]; simp, by simp; omega⟩ (by repeat (first | exact .nil | refine .cons rfl ?_)) rfl (fun _ => rfl) (fun _ => (by simp [AO.conts, AV.cells, aSe]; rintro x a _ (rfl | rfl | rfl) <;> simp)) (fun x hI => ?_)
 obtain ⟨kk, gg, acc⟩ := x
 dsimp only at hI
 show AWP _ _ _ _ _ [(0, .sl (l.map aSe)), (3, .box (G.length + 0) 0), (9, .own (G.length + 1) gg), (11, .int .i64 (kk : Int))] _ [.box [.int .i64 s.client, .int .i64 s.seq, .str s.reply], .row gg 75 3 (acc.map aSe)]
 obtain ⟨hk, hacc, hlen⟩ := hI
 refine AWP.seq (sr fun _ => ?_)
 refine mv ?_
 refine mv ?_
 refine ρv U23 ?_
 refine ρ2 ?_
 refine ez ?_
 refine ρp (fun h5 => ?_) (fun h5 => ?_)
 · try simp [-List.getD_eq_getElem?_getD] at h5
   refine AWP.skip (thenA_n ?_)
   refine AWP.seq (AWP.block (AWP.seq ?_))
   refine ρE mixed (fun _ => ?_)
   refine mv ?_
   refine mv ?_
   refine ρf U23 sz75 ?_
   refine ρ4 U75 sz3 ?_
   refine ρ7 U3 ?_
   refine ρ6 (fo := 0) U75 sz3 ?_
   refine ρd U3 ?_
   refine ρ2 ?_
   refine ⟨by kernel_rfl, _, _, rfl, hG, ?_⟩
   refine thenA_n ?_
   refine ρp (fun h6 => ?_) (fun h6 => ?_)
   · try simp [-List.getD_eq_getElem?_getD] at h6
     refine AWP.region (fun _ => ?_)
     refine mv ?_
     refine mv ?_
     refine mv ?_
     refine ρf U23 sz75 ?_
     refine ρl U75 sz75 ?_
     refine ρy U23 sz75 zv75 ?_
     refine ARun.appendL hG rfl rfl rfl rfl U23 ti75 rfl (by decide) (ep rfl) (ep rfl) rfl rfl (by simp [maxLen]; omega) (by simp; omega) (map_snoc aSe acc (l.getD kk default)) optN rfl ?_
     refine ma ?_
     refine ⟨_, _, rfl, hG, ?_⟩
     refine blockA_n (thenA_n ?_)
     refine AWP.region (fun _ => ?_)
     refine mv ?_
     refine ρa ?_
     refine ma ?_
     refine ⟨_, _, rfl, hG, ?_⟩
     refine thenA_n ⟨rfl, (kk + 1, gg + 1, acc ++ [l.getD kk default]), _, ?_, ?_, rfl, ?_⟩
     · refine ⟨by dsimp only; omega, ?_, by simp; omega⟩
       dsimp only; rw [hacc, List.append_assoc]; congr 1; exact flt_yes h5 (by simpa using h6)
     · repeat (first | exact .nil | refine .cons rfl ?_)
     dsimp only; omega
   try simp [-List.getD_eq_getElem?_getD] at h6
   refine AWP.skip (blockA_n (thenA_n ?_))
   refine AWP.region (fun _ => ?_)
   refine mv ?_
   refine ρa ?_
   refine ma ?_
   refine ⟨_, _, rfl, hG, ?_⟩
   refine thenA_n ⟨rfl, (kk + 1, gg, acc), _, ?_, ?_, rfl, ?_⟩
   · refine ⟨by dsimp only; omega, ?_, by dsimp only; omega⟩
     dsimp only; rw [hacc]; congr 1; exact flt_no h5 (by simpa using h6)
   · repeat (first | exact .nil | refine .cons rfl ?_)
   dsimp only; omega
 try simp [-List.getD_eq_getElem?_getD] at h5
 refine AWP.exit ?_
 refine thenA_x ?_
 refine thenA_x ?_
 refine blockA_h ?_
 refine thenA_n (sr fun _ => ?_)
 refine mv ?_
 refine ma ?_
 refine mz ?_
 refine AWP.frzOwn 4 hG rfl rfl (by decide) (by simp [maxLen]; omega) rfl ?_
 refine AWP.ret ?_
 refine ρj (rs := [.tmp 4, .tmp 5]) (.cons (.tmp rfl) (.cons (.tmp rfl) .nil)) ?_
 rw [show noteP l s = (putP l s, 0) from by unfold noteP; rw [if_pos h0, if_pos (by rw [may_of_ask h0]; simp; omega), if_neg (by simp [h2])], put_filter h0, hacc, List.take_of_length_le h5]; rfl
def fewB (l : List Se) : Bool := decide (l.length ≤ 60) && l.all fun x => decide (x.reply.size ≤ 1000)
theorem few_bad {l : List Se} {k : Nat} (hk : k < l.length) (h : 1000 < (l.getD k default).reply.size) : fewB l = false := by
 unfold fewB
 rw [Bool.and_eq_false_iff]; right
 rw [List.all_eq_false]
 exact ⟨l[k], List.getElem_mem hk, by rw [Se_idx hk] at h; simp; omega⟩
theorem few_good {l : List Se} (h : l.length ≤ 60) (h2 : ∀ j, j < l.length → (l.getD j default).reply.size ≤ 1000) : fewB l = true := by
 unfold fewB
 rw [decide_eq_true h, Bool.true_and, List.all_eq_true]
 intro x hx
 obtain ⟨j, hj, rfl⟩ := List.mem_iff_getElem.1 hx
 have := h2 j hj
 rw [Se_idx hj] at this
 exact decide_eq_true this
theorem few_fn (l : List Se) : FnP Tryz.prog 22 [.sl (l.map aSe)] (.bool (fewB l)) := by
 refine FnP.of Tryz.func22 rfl rfl (by simp) (by simp [AV.cells, aSe]) (fun G hG => ?_)
 have hN : NoH G.length (.bool (fewB l)) := (by simp [AV.cells, aSe])
 refine sr fun _ => ?_
 refine mz ?_
 refine AWP.seq (sr fun _ => ?_)
 refine mv ?_
 refine ρv U23 ?_
 refine ρ2 ?_
 refine ez ?_
 refine ρp (fun h0 => ?_) (fun h0 => ?_)
 · simp [-List.getD_eq_getElem?_getD] at h0
   refine sr fun _ => ?_
   refine mz ?_
   refine AWP.ret (thenA_r ?_)
   refine ρi ?_
   rw [show fewB l = false from by unfold fewB; rw [decide_eq_false (by omega)]; rfl]; rfl
 simp [-List.getD_eq_getElem?_getD] at h0
 refine AWP.skip (thenA_n (AWP.seq (sr fun _ => ?_)))
 refine mz ?_
 refine AWP.block ?_
 refine AWP.rounds (fun k => k ≤ l.length ∧ ∀ j, j < k → (l.getD j default).reply.size ≤ 1000) (fun k => [(0, .sl (l.map aSe)), (3, .int .i64 (k : Int))]) (fun k => []) (fun k => l.length - k) 0 0 ⟨by omega, fun j h => by omega⟩ (by repeat (first | exact .nil | refine .cons rfl ?_)) rfl (fun _ => rfl) (fun _ => (by simp [AO.conts, AV.cells, aSe])) (fun k hI => ?_)
 obtain ⟨hk, hno⟩ := hI
 refine AWP.seq (sr fun _ => ?_)
 refine mv ?_
 refine mv ?_
 refine ρv U23 ?_
 refine ρ2 ?_
 refine ez ?_
 refine ρp (fun h1 => ?_) (fun h1 => ?_)
 · simp [-List.getD_eq_getElem?_getD] at h1
   refine AWP.skip (thenA_n ?_)
   refine AWP.seq (AWP.block (sr fun _ => ?_))
   refine mv ?_
   refine mv ?_
   refine ρf U23 sz75 ?_
   refine ρ4 U75 sz9 ?_
   refine ρ7 U9 ?_
   refine ARun.lenStr rfl rfl rfl rfl U9 (ep rfl) optN ?_
   refine ρ2 ?_
   refine ez ?_
   refine ρp (fun h2 => ?_) (fun h2 => ?_)
   · simp [-List.getD_eq_getElem?_getD] at h2
     refine sr fun _ => ?_
     refine mz ?_
     refine AWP.ret (blockA_r ?_)
     refine thenA_r (thenA_r ?_)
     refine blockA_r (thenA_r ?_)
     refine ρi ?_
     rw [few_bad h1 (by omega)]; rfl
   simp [-List.getD_eq_getElem?_getD] at h2
   refine AWP.skip (blockA_n (thenA_n ?_))
   refine AWP.region (fun _ => ?_)
   refine mv ?_
   refine ρa ?_
   refine ma ?_
   refine ⟨_, _, rfl, hG, ?_⟩
   refine thenA_n ⟨rfl, k + 1, _, ?_, ?_, rfl, ?_⟩
   · refine ⟨by omega, fun j hj => ?_⟩
     by_cases e : j = k
     · subst e; omega
     exact hno j (by omega)
   · repeat (first | exact .nil | refine .cons rfl ?_)
   omega
 simp [-List.getD_eq_getElem?_getD] at h1
 refine AWP.exit ?_
 refine thenA_x ?_
 refine thenA_x ?_
 refine blockA_h ?_
 refine thenA_n (sr fun _ => ?_)
 refine mz ?_
 refine AWP.ret ?_
 refine ρi ?_
 rw [few_good (by omega) (fun j hj => hno j (by omega))]; rfl
end Go.Proofs.YtcndnllmlhhjiaaGreatDoor.Ssn
namespace Go.Proofs.YtcndnllmlhhjiaaGreatDoor.Ssn
open SessP
theorem note_good {l : List Se} {s : Se} (h : (noteP l s).2 = 0) : (askP l s.client s.seq).2.2 = 0 ∧ may s = true ∧ (askP l s.client s.seq).2.1 = false ∧ (noteP l s).1 = putR l s := by
 unfold noteP at h ⊢
 by_cases h1 : (askP l s.client s.seq).2.2 = 0
 · rw [if_pos h1] at h ⊢
   by_cases h2 : may s = true
   · rw [if_pos h2] at h ⊢
     by_cases h3 : (askP l s.client s.seq).2.1 = true
     · rw [if_pos h3] at h; cases h
     · rw [if_neg h3]
       exact ⟨h1, h2, by simpa using h3, putP_eq l s 0 (asc_of_ok l 0 (okE_ok (askP_ok h1).1).2)⟩
   · rw [if_neg h2] at h; cases h
 · rw [if_neg h1] at h; exact absurd h h1
theorem ask_room {l : List Se} {c q : Int} (h : (askP l c q).2.2 = 0) (hf : (findP l c).2 = false) : l.length < 20 := by
 have h1 := askP_ok h
 unfold askP at h
 rw [if_pos h1, if_neg (by simp [hf])] at h
 split at h
 · cases h
 · omega
theorem note_ok {l : List Se} {s : Se} (h : (noteP l s).2 = 0) : okE (noteP l s).1 = 0 := by
 obtain ⟨h1, h2, h3, h4⟩ := note_good h
 obtain ⟨hl, ho⟩ := okE_ok (askP_ok h1).1
 have ha := (okFrom_iff l 0).1 ho
 have hlen := putR_len l s 0 ha.2
 rw [h4]
 refine okE_good ?_ ((okFrom_iff _ _).2 ⟨fun x hx => ?_, putR_asc l s 0 ha.2 (may_pos h2)⟩)
 · cases hf : (findP l s.client).2 with
   | true => rw [hlen.2 hf]; exact hl
   | false => have := ask_room h1 hf; omega
 · rcases putR_mem l s x hx with rfl | hx
   · exact h2
   · exact ha.1 x hx
end Go.Proofs.YtcndnllmlhhjiaaGreatDoor.Ssn
namespace Go.Proofs.YtcndnllmlhhjiaaGreatDoor.StockP
def okLFrom : Int → List Ln → Bool
 | _, [] => true
 | p, x :: l => decide (p < x.item ∧ x.item ≤ 99999 ∧ 1 ≤ x.qty ∧ x.qty ≤ 1000000) && okLFrom x.item l
def okL (l : List Ln) : Bool := decide (1 ≤ l.length ∧ l.length ≤ 5) && okLFrom 0 l
def okLE (l : List Ln) : Int := if okL l = true then 0 else 2
def lastL : Int → List Ln → Int
 | p, [] => p
 | _, x :: l => lastL x.item l
theorem okLFrom_snoc (l : List Ln) (x : Ln) : ∀ p, okLFrom p (l ++ [x]) = (okLFrom p l && decide (lastL p l < x.item ∧ x.item ≤ 99999 ∧ 1 ≤ x.qty ∧ x.qty ≤ 1000000)) := by
 induction l with
 | nil => intro p; simp only [List.nil_append, okLFrom, lastL, Bool.and_true, Bool.true_and]; rfl
 | cons y l ih => intro p; simp only [List.cons_append, okLFrom, ih, lastL, Bool.and_assoc]; rfl
theorem okLFrom_prefix (l m : List Ln) : ∀ p, okLFrom p (l ++ m) = true → okLFrom p l = true := by
 induction l with
 | nil => intro p _; rfl
 | cons y l ih =>
   intro p h
   simp only [List.cons_append, okLFrom, Bool.and_eq_true] at h ⊢
   exact ⟨h.1, ih _ h.2⟩
theorem lastL_snoc (l : List Ln) (x : Ln) : ∀ p, lastL p (l ++ [x]) = x.item := by
 induction l with
 | nil => intro p; rfl
 | cons y l ih => intro p; exact ih y.item
theorem okLFrom_cut {xs : List Ln} {k : Nat} (h : okLFrom 0 (xs.take k) = false) : okLFrom 0 xs = false := by
 cases h2 : okLFrom 0 xs with
 | false => rfl
 | true =>
   rw [← List.take_append_drop k xs] at h2
   rw [okLFrom_prefix _ _ _ h2] at h
   exact absurd h (by decide)
theorem okLFrom_mem {l : List Ln} : ∀ {p : Int}, okLFrom p l = true → ∀ x, x ∈ l → p < x.item ∧ x.item ≤ 99999 ∧ 1 ≤ x.qty ∧ x.qty ≤ 1000000 := by
 induction l with
 | nil => intro p _ x hx; cases hx
 | cons y l ih =>
   intro p h x hx
   simp only [okLFrom, Bool.and_eq_true, decide_eq_true_eq] at h
   cases hx with
   | head => exact h.1
   | tail _ hx => have := ih h.2 x hx; omega
def goesP (f : List It → Int → Int → List It × Int) : Int → List It → List Ln → List It × Int × Int
 | i, items, [] => (items, i, 0)
 | i, items, x :: l => if (f items x.item x.qty).2 ≠ 0 then ([], i, (f items x.item x.qty).2) else goesP f (i + 1) (f items x.item x.qty).1 l
theorem goesP_cons (f : List It → Int → Int → List It × Int) (i : Int) (items : List It) (x : Ln) (l : List Ln) : goesP f i items (x :: l) = if (f items x.item x.qty).2 ≠ 0 then ([], i, (f items x.item x.qty).2) else goesP f (i + 1) (f items x.item x.qty).1 l := rfl
def allP (f : List It → Int → Int → List It × Int) (items : List It) (l : List Ln) : List It × Int × Int :=
 if ok items = true ∧ okL l = true then goesP f 0 items l else ([], 0, 2)
def sumF : List Ln → Int
 | [] => 0
 | x :: l => x.qty + sumF l
theorem sumF_snoc (l : List Ln) (x : Ln) : sumF (l ++ [x]) = sumF l + x.qty := by
 induction l with
 | nil => simp [sumF]
 | cons y l ih => simp only [List.cons_append, sumF, ih]; omega
def totalP (l : List Ln) : Int := if okL l = true then sumF l else 0
end Go.Proofs.YtcndnllmlhhjiaaGreatDoor.StockP
namespace Go.Proofs.YtcndnllmlhhjiaaGreatDoor.StockP
def can (ys : List It) (l : Ln) : Prop := (findT ys l.item).2 = true ∧ l.qty ≤ (findT ys l.item).1.free
def canF (ys : List It) (l : Ln) : Prop := (findT ys l.item).2 = true ∧ l.qty ≤ (findT ys l.item).1.held
instance (ys : List It) (l : Ln) : Decidable (can ys l) := by unfold can; infer_instance
instance (ys : List It) (l : Ln) : Decidable (canF ys l) := by unfold canF; infer_instance
end Go.Proofs.YtcndnllmlhhjiaaGreatDoor.StockP
namespace Go.Proofs.YtcndnllmlhhjiaaGreatDoor.StockP
abbrev holdF (ys : List It) (i q : Int) : List It × Int := withP (holdG q) ys i q
end Go.Proofs.YtcndnllmlhhjiaaGreatDoor.StockP
namespace Go.Proofs.YtcndnllmlhhjiaaGreatDoor.Stk
open Go.RowKit
open StockP
theorem checkR_fn (l : List It) : FnP Tryz.prog 46 [.sl (l.map aIt)] (.int .i64 (okE l)) := by
 refine FnP.of Tryz.func46 rfl rfl (by simp) (by simp [AV.cells, aIt]) (fun G hG => ?_)
 have hN : NoH G.length (.int .i64 (okE l)) := (by simp [AV.cells, aIt])
 refine sr fun _ => ?_
 refine mz ?_
 refine AWP.seq (sr fun _ => ?_)
 refine mv ?_
 refine ρv U22 ?_
 refine ρ2 ?_
 refine ez ?_
 refine ρp (fun h0 => ?_) (fun h0 => ?_)
 · try simp [-List.getD_eq_getElem?_getD] at h0
   refine sr fun _ => ?_
   refine mz ?_
   refine AWP.ret (thenA_r ?_)
   refine ρi ?_
   rw [okE_big (by omega)]; rfl
 try simp [-List.getD_eq_getElem?_getD] at h0
 refine AWP.skip (thenA_n (AWP.seq (sr fun _ => ?_)))
 refine mz ?_
 refine AWP.block ?_
 refine AWP.rounds (fun k => k ≤ l.length ∧ okFrom 0 (l.take k) = true) (fun k => [(0, .sl (l.map aIt)), (3, .int .i64 (k : Int))]) (fun k => []) (fun k => l.length - k) 0 0 ⟨by omega, rfl⟩ (by repeat (first | exact .nil | refine .cons rfl ?_)) rfl (fun _ => rfl) (fun _ => (by simp [AO.conts, AV.cells, aIt])) (fun k hI => ?_)
 obtain ⟨hk, hok⟩ := hI
 have hmy := may_iff (x := l.getD k default)
 refine AWP.seq (sr fun _ => ?_)
 refine mv ?_
 refine mv ?_
 refine ρv U22 ?_
 refine ρ2 ?_
 refine ez ?_
 refine ρp (fun h1 => ?_) (fun h1 => ?_)
 · try simp [-List.getD_eq_getElem?_getD] at h1
   refine AWP.skip (thenA_n ?_)
   refine AWP.seq (AWP.block (sr fun _ => ?_))
   refine mv ?_
   refine mv ?_
   refine ARun.indexSl rfl rfl rfl rfl U22 sz108 (ep rfl) (ep rfl) (fun _ => rfl) (fun hg => getMap _ _ _ (by (try simp [-List.getD_eq_getElem?_getD] at hg); omega)) rfl rfl optN ?_
   refine ρl U108 sz108 ?_
   refine ρo (j := 0) zv108 ?_
   refine ρ1 sz108 ?_
   refine ez ?_
   refine AWP.seq ?_
   refine ρE mixed (fun _ => ?_)
   refine ρ6 (fo := 0) U108 sz3 ?_
   refine ρd U3 ?_
   refine ρ2 ?_
   refine mv ?_
   refine ρx (fo := 0) U108 sz3 ?_
   refine ρw U3 ?_
   refine ρb ?_
   refine ρ3 ?_
   refine mv ?_
   refine ρx (fo := 1) U108 sz3 ?_
   refine ρw U3 ?_
   refine ρb ?_
   refine ρ3 ?_
   refine mv ?_
   refine ρx (fo := 2) U108 sz3 ?_
   refine ρw U3 ?_
   refine ρb ?_
   refine ρ3 ?_
   refine mv ?_
   refine ρx (fo := 3) U108 sz3 ?_
   refine ρw U3 ?_
   refine ρb ?_
   refine ρ3 ?_
   refine mv ?_
   refine ρx (fo := 1) U108 sz3 ?_
   refine ρw U3 ?_
   refine ρb ?_
   refine ρ3 ?_
   refine mv ?_
   refine ρx (fo := 2) U108 sz3 ?_
   refine ρw U3 ?_
   refine ρx (fo := 1) U108 sz3 ?_
   refine ρw U3 ?_
   refine ARun.arith rfl rfl rfl rfl (ep rfl) (Ev.opt rfl (fun h => h)) rfl (fun hg => i64w (by (try simp [-List.getD_eq_getElem?_getD] at hg); omega)) optS ?_
   refine ρs ?_
   refine ρ3 ?_
   refine mv ?_
   refine ρx (fo := 3) U108 sz3 ?_
   refine ρw U3 ?_
   refine ρx (fo := 1) U108 sz3 ?_
   refine ρw U3 ?_
   refine ARun.arith rfl rfl rfl rfl (ep rfl) (Ev.opt rfl (fun h => h)) rfl (fun hg => i64w (by (try simp [-List.getD_eq_getElem?_getD] at hg); omega)) optS ?_
   refine ρx (fo := 2) U108 sz3 ?_
   refine ρw U3 ?_
   refine ARun.arith rfl rfl rfl rfl (Ev.opt rfl (fun h => h)) (Ev.opt rfl (fun h => h)) rfl (fun hg => i64w (by (try simp [-List.getD_eq_getElem?_getD] at hg); omega)) optS ?_
   refine ρs ?_
   refine ρ3 ?_
   refine mv ?_
   refine ρg ?_
   refine ρb ?_
   refine ARun.move (.inl rfl) rfl rfl rfl (Ev.opt rfl (fun h => h)) optS ?_
   refine ρg ?_
   refine ρg ?_
   refine ARun.arith rfl rfl rfl rfl (Ev.opt rfl (fun h => h)) (ep rfl) rfl (fun hg => i64w (by (try simp [-List.getD_eq_getElem?_getD] at hg); omega)) optS ?_
   refine ARun.indexSl rfl rfl rfl rfl U22 sz108 (Ev.opt rfl (fun h => h)) (Ev.opt rfl (fun h => h)) (fun hg => ofNonneg (by (try simp [-List.getD_eq_getElem?_getD] at hg); omega)) (fun hg => getMap _ _ _ (by (try simp [-List.getD_eq_getElem?_getD] at hg); omega)) rfl rfl optS ?_
   refine ρB U108 sz3 ?_
   refine ρ5 U3 ?_
   refine ρx (fo := 0) U108 sz3 ?_
   refine ρw U3 ?_
   refine ρs ?_
   refine ρD ?_
   refine ρ3 ?_
   refine ⟨by kernel_rfl, _, _, rfl, hG, ?_⟩
   refine thenA_n ?_
   refine ρp (fun h2 => ?_) (fun h2 => ?_)
   · try simp [-List.getD_eq_getElem?_getD] at h2
     refine sr fun _ => ?_
     refine mz ?_
     refine AWP.ret (blockA_r ?_)
     refine thenA_r (thenA_r ?_)
     refine blockA_r (thenA_r ?_)
     refine ρi ?_
     rw [chk_bad h1 (by
       cases hm : may (l.getD k default) with
       | false => exact .inl rfl
       | true => rw [hm] at hmy; have := hmy.1 rfl; right; omega)]; rfl
   try simp [-List.getD_eq_getElem?_getD] at h2
   refine AWP.skip (blockA_n (thenA_n ?_))
   refine AWP.region (fun _ => ?_)
   refine mv ?_
   refine ARun.arith rfl rfl rfl rfl (ep rfl) (ep rfl) rfl (fun hg => i64w (by (try simp [-List.getD_eq_getElem?_getD] at hg); omega)) optN ?_
   refine ma ?_
   refine ⟨_, _, rfl, hG, ?_⟩
   refine thenA_n ⟨rfl, k + 1, _, ?_, ?_, rfl, ?_⟩
   · exact ⟨by omega, chk_go h1 hok ⟨hmy.2 (by omega), fun hk0 => by omega⟩⟩
   · repeat (first | exact .nil | refine .cons rfl ?_)
   omega
 try simp [-List.getD_eq_getElem?_getD] at h1
 refine AWP.exit ?_
 refine thenA_x ?_
 refine thenA_x ?_
 refine blockA_h ?_
 refine thenA_n (sr fun _ => ?_)
 refine mz ?_
 refine AWP.ret ?_
 refine ρi ?_
 rw [okE_good (by omega) (by rw [← List.take_of_length_le h1]; exact hok)]; rfl
theorem findR_fn (l : List It) (id : Int) (hl : l.length ≤ 9223372036854775807) : FnP Tryz.prog 98 [.sl (l.map aIt), .int .i64 id] (.tup [aIt (findT l id).1, .bool (findT l id).2]) := by
 refine FnP.of Tryz.func98 rfl rfl (by simp) (by simp [AV.cells, aIt]) (fun G hG => ?_)
 have hN : NoH G.length (.tup [aIt (findT l id).1, .bool (findT l id).2]) := (by simp [AV.cells, aIt])
 refine sr fun _ => ?_
 refine ρo (j := 0) zv108 ?_
 refine mz ?_
 refine AWP.seq (sr fun _ => ?_)
 refine mz ?_
 refine AWP.block ?_
 refine AWP.rounds (fun k => k ≤ l.length ∧ ∀ j, j < k → ((l.getD j default).id == id) = false) (fun k => [(0, .sl (l.map aIt)), (1, .int .i64 id), (4, .box (G.length + 0) 0), (5, .bool false), (6, .int .i64 (k : Int))]) (fun k => [.box [.int .i64 0, .int .i64 0, .int .i64 0, .int .i64 0]]) (fun k => l.length - k) 1 0 ⟨by omega, fun j h => by omega⟩ (by repeat (first | exact .nil | refine .cons rfl ?_)) rfl (fun _ => rfl) (fun _ => (by simp [AO.conts, AV.cells, aIt])) (fun k hI => ?_)
 obtain ⟨hk, hno⟩ := hI
 refine AWP.seq (sr fun _ => ?_)
 refine mv ?_
 refine mv ?_
 refine ρv U22 ?_
 refine ρ2 ?_
 refine ez ?_
 refine ρp (fun h0 => ?_) (fun h0 => ?_)
 · try simp [-List.getD_eq_getElem?_getD] at h0
   refine AWP.skip (thenA_n ?_)
   refine AWP.seq (AWP.block (sr fun _ => ?_))
   refine mv ?_
   refine mv ?_
   refine ρf U22 sz108 ?_
   refine ρ4 U108 sz3 ?_
   refine ρ7 U3 ?_
   refine mv ?_
   refine ρ2 ?_
   refine ez ?_
   refine ρp (fun h1 => ?_) (fun h1 => ?_)
   · try simp [-List.getD_eq_getElem?_getD] at h1
     refine sr fun _ => ?_
     refine mv ?_
     refine mv ?_
     refine ρf U22 sz108 ?_
     refine ρl U108 sz108 ?_
     refine ρ1 sz108 ?_
     refine mz ?_
     refine AWP.ret (blockA_r ?_)
     refine thenA_r (thenA_r ?_)
     refine blockA_r (thenA_r ?_)
     refine ρj (rs := [.cell 4 108, .tmp 5]) (.cons (.cellA rfl ((hG.at _ _).trans rfl) U108 rfl sz108 rfl rfl) (.cons (.tmp rfl) .nil)) ?_
     have hi := (idxOf_idx (fun x : It => x.id == id) l).symm.trans (idx_hit (p := fun x : It => x.id == id) h0 hno (by simp [-List.getD_eq_getElem?_getD]; omega))
     rw [find_yes (by omega), hi, Int.toNat_natCast]; rfl
   try simp [-List.getD_eq_getElem?_getD] at h1
   refine AWP.skip (blockA_n (thenA_n ?_))
   refine AWP.region (fun _ => ?_)
   refine mv ?_
   refine ρa ?_
   refine ma ?_
   refine ⟨_, _, rfl, hG, ?_⟩
   refine thenA_n ⟨rfl, k + 1, _, ?_, ?_, rfl, ?_⟩
   · refine ⟨by omega, fun j hj => ?_⟩
     by_cases e : j = k
     · subst e; simp [-List.getD_eq_getElem?_getD]; omega
     exact hno j (by omega)
   · repeat (first | exact .nil | refine .cons rfl ?_)
   omega
 try simp [-List.getD_eq_getElem?_getD] at h0
 refine AWP.exit ?_
 refine thenA_x ?_
 refine thenA_x ?_
 refine blockA_h ?_
 refine thenA_n (sr fun _ => ?_)
 refine ARun.build rfl rfl rfl rfl so108 .nil rfl rfl optN ?_
 refine ρ1 sz108 ?_
 refine mz ?_
 refine AWP.ret ?_
 refine ρj (rs := [.cell 4 108, .tmp 5]) (.cons (.cellA rfl ((hG.at _ _).trans rfl) U108 rfl sz108 rfl rfl) (.cons (.tmp rfl) .nil)) ?_
 have hi := (idxOf_idx (fun x : It => x.id == id) l).symm.trans (idx_none (p := fun x : It => x.id == id) (l := l) (fun j hj => hno j (by omega)))
 rw [find_no (by omega)]; rfl
theorem put_fn (l : List It) (x : It) (hl : l.length ≤ 1000) : FnP Tryz.prog 135 [.sl (l.map aIt), aIt x] (.sl ((put l x).map aIt)) := by
 refine FnP.of Tryz.func135 rfl rfl (by simp) (by simp [AV.cells, aIt]) (fun G hG => ?_)
 have hN : NoH G.length (.sl ((put l x).map aIt)) := (by simp [AV.cells, aIt])
 refine sr fun _ => ?_
 refine ARun.box (j := 0) hG rfl rfl rfl rfl rfl (ep rfl) rfl rfl optN ?_
 refine mz (sr fun _ => ?_)
 refine ARun.nilOwn (e := 108) (z := 4) (j := 1) hG rfl ⟨.inl rfl, rfl⟩ (fun _ => rfl) rfl rfl rfl optN ?_
 refine ez ?_
 refine AWP.seq (sr fun _ => ?_)
 refine mz ?_
 refine AWP.block ?_
 refine AWP.rounds (fun s => s.1 ≤ l.length ∧ s.2 = l.take s.1 ∧ ∀ j, j < s.1 → (l.getD j default).id < x.id) (fun s => [(0, .sl (l.map aIt)), (3, .box (G.length + 0) 0), (5, .own (G.length + 1) s.1), (6, .int .i64 (s.1 : Int))]) (fun s => [.box [.int .i64 x.id, .int .i64 x.free, .int .i64 x.held, .int .i64 x.gone], .row s.1 108 4 (s.2.map aIt)]) (fun s => l.length - s.1) 2 ((0, []) : Nat × List It) ⟨by dsimp only; omega, rfl, fun j h => by dsimp only at h; omega⟩ (by repeat (first | exact .nil | refine .cons rfl ?_)) rfl (fun _ => rfl) (fun _ => (by simp [AO.conts, AV.cells, aIt]; rintro y a _ (rfl | rfl | rfl | rfl) <;> simp)) (fun s hI => ?_)
 obtain ⟨k, acc⟩ := s
 dsimp only at hI
 show AWP _ _ _ _ _ [(0, .sl (l.map aIt)), (3, .box (G.length + 0) 0), (5, .own (G.length + 1) k), (6, .int .i64 (k : Int))] _ [.box [.int .i64 x.id, .int .i64 x.free, .int .i64 x.held, .int .i64 x.gone], .row k 108 4 (acc.map aIt)]
 obtain ⟨hk, hacc0, hno⟩ := hI
 have hl0 : acc.length ≤ 1000 := by rw [hacc0]; simp; omega
 refine AWP.seq (AWP.seq ?_)
 refine ρE mixed (fun _ => ?_)
 refine mv ?_
 refine mv ?_
 refine ρv U22 ?_
 refine ρ2 ?_
 refine mv ?_
 refine ρg ?_
 refine ρg ?_
 refine ρu U22 sz108 ?_
 refine ρB U108 sz3 ?_
 refine ρ5 U3 ?_
 refine ρx (fo := 0) U108 sz3 ?_
 refine ρw U3 ?_
 refine ρs ?_
 refine ρ0 ?_
 refine ⟨by kernel_rfl, _, _, rfl, hG, ?_⟩
 refine thenA_n ?_
 refine ρp (fun h0 => ?_) (fun h0 => ?_)
 · try simp [-List.getD_eq_getElem?_getD] at h0
   refine AWP.skip (thenA_n ?_)
   refine AWP.seq (AWP.block ?_)
   refine AWP.region (fun _ => ?_)
   refine mv ?_
   refine mv ?_
   refine mv ?_
   refine ρf U22 sz108 ?_
   refine ρl U108 sz108 ?_
   refine ρy U22 sz108 zv108 ?_
   refine ARun.appendL hG rfl rfl rfl rfl U22 ti108 rfl (by decide) (ep rfl) (ep rfl) rfl rfl (by simp [maxLen]; omega) (by simp; omega) (map_snoc aIt acc (l.getD k default)) optN rfl ?_
   refine ma ?_
   refine ⟨_, _, rfl, hG, ?_⟩
   refine blockA_n (thenA_n ?_)
   refine AWP.region (fun _ => ?_)
   refine mv ?_
   refine ρa ?_
   refine ma ?_
   refine ⟨_, _, rfl, hG, ?_⟩
   refine thenA_n ⟨rfl, (k + 1, acc ++ [l.getD k default]), _, ?_, ?_, rfl, ?_⟩
   · refine ⟨by dsimp only; omega, by dsimp only; rw [hacc0]; exact (take_snoc2 h0.1), fun j hj => ?_⟩
     dsimp only at hj
     by_cases e : j = k
     · subst e; omega
     exact hno j (by omega)
   · repeat (first | exact .nil | refine .cons rfl ?_)
   dsimp only; omega
 try simp [-List.getD_eq_getElem?_getD] at h0
 refine AWP.exit ?_
 refine thenA_x ?_
 refine thenA_x ?_
 refine blockA_h ?_
 refine thenA_n (sr fun _ => ?_)
 refine mv ?_
 refine ρn U108 sz108 ?_
 refine ρy U22 sz108 zv108 ?_
 refine ARun.appendL hG rfl rfl rfl rfl U22 ti108 rfl (by decide) (ep rfl) (ep rfl) rfl rfl (by simp [maxLen]; omega) (by simp; omega) (map_snoc aIt acc x) optN rfl ?_
 refine mz ?_
 refine AWP.seq (sr fun _ => ?_)
 refine mz ?_
 refine AWP.block ?_
 refine AWP.rounds (fun s => s.1 ≤ l.length ∧ s.2.2 = l.takeWhile (fun y => decide (y.id < x.id)) ++ [x] ++ (l.take s.1).filter (fun y => decide (x.id < y.id)) ∧ s.2.2.length ≤ l.length + 1 + s.1) (fun s => [(0, .sl (l.map aIt)), (3, .box (G.length + 0) 0), (5, .own (G.length + 1) s.2.1), (7, .int .i64 (s.1 : Int))]) (fun s => [.box [.int .i64 x.id, .int .i64 x.free, .int .i64 x.held, .int .i64 x.gone], .row s.2.1 108 4 (s.2.2.map aIt)]) (fun s => l.length - s.1) 2 ((0, k + 1, acc ++ [x]) : Nat × Nat × List It) ⟨by dsimp only; omega, by dsimp only; rw [hacc0, tw_is hk hno (by omega)]; simp, by rw [hacc0]; simp; omega⟩ (by repeat (first | exact .nil | refine .cons rfl ?_)) rfl (fun _ => rfl) (fun _ => (by simp [AO.conts, AV.cells, aIt]; rintro y a _ (rfl | rfl | rfl | rfl) <;> simp)) (fun s hI => ?_)
 obtain ⟨kk, gg, acc⟩ := s
 dsimp only at hI
 show AWP _ _ _ _ _ [(0, .sl (l.map aIt)), (3, .box (G.length + 0) 0), (5, .own (G.length + 1) gg), (7, .int .i64 (kk : Int))] _ [.box [.int .i64 x.id, .int .i64 x.free, .int .i64 x.held, .int .i64 x.gone], .row gg 108 4 (acc.map aIt)]
 obtain ⟨hk2, hacc, hlen⟩ := hI
 refine AWP.seq (sr fun _ => ?_)
 refine mv ?_
 refine mv ?_
 refine ρv U22 ?_
 refine ρ2 ?_
 refine ez ?_
 refine ρp (fun h1 => ?_) (fun h1 => ?_)
 · try simp [-List.getD_eq_getElem?_getD] at h1
   refine AWP.skip (thenA_n ?_)
   refine AWP.seq (AWP.block (AWP.seq ?_))
   refine ρE mixed (fun _ => ?_)
   refine mv ?_
   refine mv ?_
   refine ρf U22 sz108 ?_
   refine ρ4 U108 sz3 ?_
   refine ρ7 U3 ?_
   refine ρ6 (fo := 0) U108 sz3 ?_
   refine ρd U3 ?_
   refine ρ2 ?_
   refine ⟨by kernel_rfl, _, _, rfl, hG, ?_⟩
   refine thenA_n ?_
   refine ρp (fun h2 => ?_) (fun h2 => ?_)
   · try simp [-List.getD_eq_getElem?_getD] at h2
     refine AWP.region (fun _ => ?_)
     refine mv ?_
     refine mv ?_
     refine mv ?_
     refine ρf U22 sz108 ?_
     refine ρl U108 sz108 ?_
     refine ρy U22 sz108 zv108 ?_
     refine ARun.appendL hG rfl rfl rfl rfl U22 ti108 rfl (by decide) (ep rfl) (ep rfl) rfl rfl (by simp [maxLen]; omega) (by simp; omega) (map_snoc aIt acc (l.getD kk default)) optN rfl ?_
     refine ma ?_
     refine ⟨_, _, rfl, hG, ?_⟩
     refine blockA_n (thenA_n ?_)
     refine AWP.region (fun _ => ?_)
     refine mv ?_
     refine ρa ?_
     refine ma ?_
     refine ⟨_, _, rfl, hG, ?_⟩
     refine thenA_n ⟨rfl, (kk + 1, gg + 1, acc ++ [l.getD kk default]), _, ?_, ?_, rfl, ?_⟩
     · refine ⟨by dsimp only; omega, ?_, by simp; omega⟩
       dsimp only; rw [hacc, List.append_assoc]; congr 1; exact flt_yes h1 (by simpa using h2)
     · repeat (first | exact .nil | refine .cons rfl ?_)
     dsimp only; omega
   try simp [-List.getD_eq_getElem?_getD] at h2
   refine AWP.skip (blockA_n (thenA_n ?_))
   refine AWP.region (fun _ => ?_)
   refine mv ?_
   refine ρa ?_
   refine ma ?_
   refine ⟨_, _, rfl, hG, ?_⟩
   refine thenA_n ⟨rfl, (kk + 1, gg, acc), _, ?_, ?_, rfl, ?_⟩
   · refine ⟨by dsimp only; omega, ?_, by dsimp only; omega⟩
     dsimp only; rw [hacc]; congr 1; exact flt_no h1 (by simpa using h2)
   · repeat (first | exact .nil | refine .cons rfl ?_)
   dsimp only; omega
 try simp [-List.getD_eq_getElem?_getD] at h1
 refine AWP.exit ?_
 refine thenA_x ?_
 refine thenA_x ?_
 refine blockA_h ?_
 refine thenA_n (sr fun _ => ?_)
 refine mv ?_
 refine mz ?_
 refine AWP.frzOwn 4 hG rfl rfl (by decide) (by simp [maxLen]; omega) rfl ?_
 refine AWP.ret ?_
 refine ρi ?_
 unfold put; rw [hacc, List.take_of_length_le h1, List.append_assoc]; rfl
theorem item_fn (l : List It) (id q : Int) (hl : l.length ≤ 1000) : FnP Tryz.prog 136 [.sl (l.map aIt), .int .i64 id, .int .i64 q] (.tup [aIt (itemP l id q).1, .int .i64 (itemP l id q).2]) := by
 have hi := itemP_cases l id q
 have hab := asked_iff l q
 refine FnP.of Tryz.func136 rfl rfl (by simp) (by simp [AV.cells, aIt]) (fun G hG => ?_)
 have hN : NoH G.length (.tup [aIt (itemP l id q).1, .int .i64 (itemP l id q).2]) := (by simp [AV.cells, aIt])
 refine sr fun _ => ?_
 refine ρo (j := 0) zv108 ?_
 refine mz ?_
 refine AWP.seq (sr fun _ => ?_)
 refine mv ?_
 refine ρm cf46 (fun hg => checkR_fn l) ?_
 refine ρ2 ?_
 refine mv ?_
 refine ρg ?_
 refine ρb ?_
 refine ρ3 ?_
 refine mv ?_
 refine ρg ?_
 refine ρb ?_
 refine ρ3 ?_
 refine ez ?_
 refine ρp (fun h0 => ?_) (fun h0 => ?_)
 · try simp at h0
   refine sr fun _ => ?_
   refine ARun.build rfl rfl rfl rfl so108 .nil rfl rfl optN ?_
   refine ρ1 sz108 ?_
   refine mz ?_
   refine AWP.ret (thenA_r ?_)
   refine ρj (rs := [.cell 6 108, .tmp 7]) (.cons (.cellA rfl ((hG.at _ _).trans rfl) U108 rfl sz108 rfl rfl) (.cons (.tmp rfl) .nil)) ?_
   rcases hi with ⟨_, hi⟩ | ⟨ha, _, hi⟩ | ⟨ha, _, hi⟩
   · rw [hi]; rfl
   · have := hab.1 ha; omega
   have := hab.1 ha; omega
 try simp at h0
 refine AWP.skip (thenA_n (sr fun _ => ?_))
 refine mv ?_
 refine mv ?_
 refine ρk cf98 ?_ (hF := fun hg => findR_fn l id (by omega))
 refine mv ?_
 refine ρ9 ?_
 refine ρ9 ?_
 refine ρo (j := 1) zv108 ?_
 refine ρ1 sz108 ?_
 refine mz ?_
 refine AWP.seq (sr fun _ => ?_)
 refine mv ?_
 refine ρC ?_
 refine ez ?_
 refine ρp (fun h1 => ?_) (fun h1 => ?_)
 · try simp at h1
   refine sr fun _ => ?_
   refine ρn U108 sz108 ?_
   refine ρ1 sz108 ?_
   refine mz ?_
   refine AWP.ret (thenA_r ?_)
   refine ρj (rs := [.cell 6 108, .tmp 7]) (.cons (.cellA rfl ((hG.at _ _).trans rfl) U108 rfl sz108 rfl rfl) (.cons (.tmp rfl) .nil)) ?_
   rcases hi with ⟨ha, hi⟩ | ⟨ha, _, hi⟩ | ⟨ha, hf, hi⟩
   · rw [hab.2 (by omega)] at ha; cases ha
   · rw [hi, find_no2 h1]; rfl
   rw [h1] at hf; cases hf
 try simp at h1
 refine AWP.skip (thenA_n (sr fun _ => ?_))
 refine ρn U108 sz108 ?_
 refine ρ1 sz108 ?_
 refine mz ?_
 refine AWP.ret ?_
 refine ρj (rs := [.cell 6 108, .tmp 7]) (.cons (.cellA rfl ((hG.at _ _).trans rfl) U108 rfl sz108 rfl rfl) (.cons (.tmp rfl) .nil)) ?_
 rcases hi with ⟨ha, hi⟩ | ⟨ha, hf, hi⟩ | ⟨ha, hf, hi⟩
 · rw [hab.2 (by omega)] at ha; cases ha
 · rw [h1] at hf; cases hf
 rw [hi]; rfl
theorem restockR_fn (l : List It) (id q : Int) (hl : l.length ≤ 1000) : FnP Tryz.prog 95 [.sl (l.map aIt), .int .i64 id, .int .i64 q] (.tup [.sl ((withP (inG q) l id q).1.map aIt), .int .i64 (withP (inG q) l id q).2]) := by
 refine FnP.of Tryz.func95 rfl rfl (by simp) (by simp [AV.cells, aIt]) (fun G hG => ?_)
 have hN : NoH G.length (.tup [.sl ((withP (inG q) l id q).1.map aIt), .int .i64 (withP (inG q) l id q).2]) := (by simp [AV.cells, aIt])
 refine sr fun _ => ?_
 refine ma ?_
 refine mz (sr fun _ => ?_)
 refine mv ?_
 refine mv ?_
 refine mv ?_
 refine ARun.call rfl rfl rfl rfl cf136 (ep rfl) (.cons (ep rfl) (.cons (ep rfl) (.cons (ep rfl) .nil))) rfl (fun hg => item_fn l id q hl) optN ?_
 refine mv ?_
 refine ρ9 ?_
 refine ρ9 ?_
 refine ρo (j := 0) zv108 ?_
 refine ρ1 sz108 ?_
 refine mz ?_
 refine AWP.seq (sr fun _ => ?_)
 refine mv ?_
 refine ρ2 ?_
 refine ez ?_
 refine ρp (fun h0 => ?_) (fun h0 => ?_)
 · try simp at h0
   refine sr fun _ => ?_
   refine mv ?_
   refine ma ?_
   refine mz ?_
   refine AWP.ret (thenA_r ?_)
   refine ρj (rs := [.tmp 6, .tmp 7]) (.cons (.tmp rfl) (.cons (.tmp rfl) .nil)) ?_
   rw [item_bad h0]; rfl
 simp at h0
 have hb := item_bd h0
 refine AWP.skip (thenA_n (AWP.seq (sr fun _ => ?_)))
 refine mv ?_
 refine ρ6 (fo := 1) U108 sz3 ?_
 refine ρd U3 ?_
 refine ρa ?_
 refine ρ6 (fo := 2) U108 sz3 ?_
 refine ρd U3 ?_
 refine ρa ?_
 refine ρ6 (fo := 3) U108 sz3 ?_
 refine ρd U3 ?_
 refine ρa ?_
 refine ρ2 ?_
 refine ez ?_
 refine ρp (fun h1 => ?_) (fun h1 => ?_)
 · try simp at h1
   refine sr fun _ => ?_
   refine ma ?_
   refine mz ?_
   refine AWP.ret (thenA_r ?_)
   refine ρj (rs := [.tmp 6, .tmp 7]) (.cons (.tmp rfl) (.cons (.tmp rfl) .nil)) ?_
   rw [restock_bad h0 (by omega)]; rfl
 try simp at h1
 refine AWP.skip (thenA_n (sr fun _ => ?_))
 refine ρ6 (fo := 1) U108 sz3 ?_
 refine ρd U3 ?_
 refine mv ?_
 refine ρa ?_
 refine ρ6 (fo := 1) U108 sz3 ?_
 refine ρt sz3 ?_
 refine ez (sr fun _ => ?_)
 refine mv ?_
 refine ρn U108 sz108 ?_
 refine ρh cf135 (fun hg => put_fn l ⟨(itemP l id q).1.id, (itemP l id q).1.free + q, (itemP l id q).1.held, (itemP l id q).1.gone⟩ hl) ?_
 refine ma ?_
 refine mz ?_
 refine AWP.ret ?_
 refine ρj (rs := [.tmp 6, .tmp 7]) (.cons (.tmp rfl) (.cons (.tmp rfl) .nil)) ?_
 rw [restock_good h0 (by omega)]; rfl
theorem goesR_fn (l : List It) (id q how : Int) (hl : l.length ≤ 1000) : FnP Tryz.prog 96 [.sl (l.map aIt), .int .i64 id, .int .i64 q, .int .i64 how] (.tup [.sl ((goesM l id q how).1.map aIt), .int .i64 (goesM l id q how).2]) := by
 refine FnP.of Tryz.func96 rfl rfl (by simp) (by simp [AV.cells, aIt]) (fun G hG => ?_)
 have hN : NoH G.length (.tup [.sl ((goesM l id q how).1.map aIt), .int .i64 (goesM l id q how).2]) := (by simp [AV.cells, aIt])
 refine sr fun _ => ?_
 refine ma ?_
 refine mz (sr fun _ => ?_)
 refine mv ?_
 refine mv ?_
 refine mv ?_
 refine ARun.call rfl rfl rfl rfl cf136 (ep rfl) (.cons (ep rfl) (.cons (ep rfl) (.cons (ep rfl) .nil))) rfl (fun hg => item_fn l id q hl) optN ?_
 refine mv ?_
 refine ρ9 ?_
 refine ρ9 ?_
 refine ρo (j := 0) zv108 ?_
 refine ρ1 sz108 ?_
 refine mz ?_
 refine AWP.seq (sr fun _ => ?_)
 refine mv ?_
 refine ρ2 ?_
 refine ez ?_
 refine ρp (fun h0 => ?_) (fun h0 => ?_)
 · try simp at h0
   refine sr fun _ => ?_
   refine mv ?_
   refine ma ?_
   refine mz ?_
   refine AWP.ret (thenA_r ?_)
   refine ρj (rs := [.tmp 8, .tmp 9]) (.cons (.tmp rfl) (.cons (.tmp rfl) .nil)) ?_
   rw [goes_none h0]; rfl
 simp at h0
 have hb := item_bd h0
 refine AWP.skip (thenA_n (AWP.seq (sr fun _ => ?_)))
 refine mv ?_
 refine ρ2 ?_
 refine mv ?_
 refine ρx (fo := 1) U108 sz3 ?_
 refine ρw U3 ?_
 refine ρg ?_
 refine ρs ?_
 refine ρ0 ?_
 refine mv ?_
 refine ρg ?_
 refine ρb ?_
 refine ARun.move (.inl rfl) rfl rfl rfl (Ev.opt rfl (fun h => h)) optS ?_
 refine ρx (fo := 2) U108 sz3 ?_
 refine ρw U3 ?_
 refine ρg ?_
 refine ρs ?_
 refine ρD ?_
 refine ρ3 ?_
 refine ez ?_
 refine ρp (fun h1 => ?_) (fun h1 => ?_)
 · try simp at h1
   refine sr fun _ => ?_
   refine ma ?_
   refine mz ?_
   refine AWP.ret (thenA_r ?_)
   refine ρj (rs := [.tmp 8, .tmp 9]) (.cons (.tmp rfl) (.cons (.tmp rfl) .nil)) ?_
   rw [goes_bad h0 (by omega)]; rfl
 try simp at h1
 refine AWP.skip (thenA_n (AWP.seq (sr fun _ => ?_)))
 refine mv ?_
 refine ez ?_
 refine AWP.block (sr fun _ => ?_)
 refine ρ2 ?_
 refine mz ?_
 refine ρp (fun h2 => ?_) (fun h2 => ?_)
 · try simp at h2
   refine AWP.region (fun _ => ?_)
   refine ρ6 (fo := 1) U108 sz3 ?_
   refine ρd U3 ?_
   refine mv ?_
   refine ρa ?_
   refine ρ6 (fo := 2) U108 sz3 ?_
   refine ρd U3 ?_
   refine mv ?_
   refine ρa ?_
   refine ρ6 (fo := 1) U108 sz3 ?_
   refine ρt sz3 ?_
   refine ρ6 (fo := 2) U108 sz3 ?_
   refine ρt sz3 ?_
   refine ⟨_, _, rfl, hG, ?_⟩
   refine blockA_n (thenA_n ?_)
   refine sr fun _ => ?_
   refine mv ?_
   refine ρn U108 sz108 ?_
   refine ρh cf135 (fun hg => put_fn l ⟨(itemP l id q).1.id, (itemP l id q).1.free - q, (itemP l id q).1.held + q, (itemP l id q).1.gone⟩ hl) ?_
   refine ma ?_
   refine mz ?_
   refine AWP.ret ?_
   refine ρj (rs := [.tmp 8, .tmp 9]) (.cons (.tmp rfl) (.cons (.tmp rfl) .nil)) ?_
   rw [goes_1 h0 (by omega) (by omega)]; rfl
 try simp at h2
 refine sr fun _ => ?_
 refine ρ2 ?_
 refine mz ?_
 refine ρp (fun h3 => ?_) (fun h3 => ?_)
 · try simp at h3
   refine AWP.region (fun _ => ?_)
   refine ρ6 (fo := 1) U108 sz3 ?_
   refine ρd U3 ?_
   refine mv ?_
   refine ρa ?_
   refine ρ6 (fo := 2) U108 sz3 ?_
   refine ρd U3 ?_
   refine mv ?_
   refine ρa ?_
   refine ρ6 (fo := 1) U108 sz3 ?_
   refine ρt sz3 ?_
   refine ρ6 (fo := 2) U108 sz3 ?_
   refine ρt sz3 ?_
   refine ⟨_, _, rfl, hG, ?_⟩
   refine blockA_n (thenA_n ?_)
   refine sr fun _ => ?_
   refine mv ?_
   refine ρn U108 sz108 ?_
   refine ρh cf135 (fun hg => put_fn l ⟨(itemP l id q).1.id, (itemP l id q).1.free + q, (itemP l id q).1.held - q, (itemP l id q).1.gone⟩ hl) ?_
   refine ma ?_
   refine mz ?_
   refine AWP.ret ?_
   refine ρj (rs := [.tmp 8, .tmp 9]) (.cons (.tmp rfl) (.cons (.tmp rfl) .nil)) ?_
   rw [goes_2 h0 (by omega) (by omega)]; rfl
 try simp at h3
 refine AWP.region (fun _ => ?_)
 refine ρ6 (fo := 2) U108 sz3 ?_
 refine ρd U3 ?_
 refine mv ?_
 refine ρa ?_
 refine ρ6 (fo := 3) U108 sz3 ?_
 refine ρd U3 ?_
 refine mv ?_
 refine ρa ?_
 refine ρ6 (fo := 2) U108 sz3 ?_
 refine ρt sz3 ?_
 refine ρ6 (fo := 3) U108 sz3 ?_
 refine ρt sz3 ?_
 refine ⟨_, _, rfl, hG, ?_⟩
 refine blockA_n (thenA_n ?_)
 refine sr fun _ => ?_
 refine mv ?_
 refine ρn U108 sz108 ?_
 refine ρh cf135 (fun hg => put_fn l ⟨(itemP l id q).1.id, (itemP l id q).1.free, (itemP l id q).1.held - q, (itemP l id q).1.gone + q⟩ hl) ?_
 refine ma ?_
 refine mz ?_
 refine AWP.ret ?_
 refine ρj (rs := [.tmp 8, .tmp 9]) (.cons (.tmp rfl) (.cons (.tmp rfl) .nil)) ?_
 rw [goes_3 h0 (by omega) (by omega) (by omega)]; rfl
theorem createR_fn (l : List It) (id q : Int) (hl : l.length ≤ 1000) : FnP Tryz.prog 94 [.sl (l.map aIt), .int .i64 id, .int .i64 q] (.tup [.sl ((createP l id q).1.map aIt), .int .i64 (createP l id q).2]) := by
 refine FnP.of Tryz.func94 rfl rfl (by simp) (by simp [AV.cells, aIt]) (fun G hG => ?_)
 have hN : NoH G.length (.tup [.sl ((createP l id q).1.map aIt), .int .i64 (createP l id q).2]) := (by simp [AV.cells, aIt])
 refine sr fun _ => ?_
 refine ma ?_
 refine mz ?_
 refine AWP.seq (sr fun _ => ?_)
 refine mv ?_
 refine ρm cf46 (fun hg => checkR_fn l) ?_
 refine ρ2 ?_
 refine mv ?_
 refine ρg ?_
 refine ρb ?_
 refine ρ3 ?_
 refine mv ?_
 refine ρg ?_
 refine ρb ?_
 refine ρ3 ?_
 refine mv ?_
 refine ρg ?_
 refine ρb ?_
 refine ρ3 ?_
 refine mv ?_
 refine ρg ?_
 refine ρb ?_
 refine ρ3 ?_
 refine ez ?_
 refine ρp (fun h0 => ?_) (fun h0 => ?_)
 · try simp at h0
   refine sr fun _ => ?_
   refine ma ?_
   refine mz ?_
   refine AWP.ret (thenA_r ?_)
   refine ρj (rs := [.tmp 6, .tmp 7]) (.cons (.tmp rfl) (.cons (.tmp rfl) .nil)) ?_
   rw [create_arg (by omega)]; rfl
 simp at h0
 have hc := create_ok (l := l) (id := id) (q := q) (by omega) (by omega) (by omega)
 have h20 := ok_len (okE_ok.1 (show okE l = 0 by omega))
 refine AWP.skip (thenA_n (sr fun _ => ?_))
 refine mv ?_
 refine mv ?_
 refine ρk cf98 ?_ (hF := fun hg => findR_fn l id (by omega))
 refine mv ?_
 refine ρ9 ?_
 refine ρ9 ?_
 refine ρo (j := 0) zv108 ?_
 refine ρ1 sz108 ?_
 refine mz ?_
 refine AWP.seq (sr fun _ => ?_)
 refine mv ?_
 refine ez ?_
 refine ρp (fun h1 => ?_) (fun h1 => ?_)
 · try simp at h1
   refine sr fun _ => ?_
   refine ma ?_
   refine mz ?_
   refine AWP.ret (thenA_r ?_)
   refine ρj (rs := [.tmp 6, .tmp 7]) (.cons (.tmp rfl) (.cons (.tmp rfl) .nil)) ?_
   rw [hc, if_pos h1]; rfl
 try simp at h1
 refine AWP.skip (thenA_n (AWP.seq (sr fun _ => ?_)))
 refine mv ?_
 refine ρv U22 ?_
 refine ρ2 ?_
 refine ez ?_
 refine ρp (fun h2 => ?_) (fun h2 => ?_)
 · try simp at h2
   refine sr fun _ => ?_
   refine ma ?_
   refine mz ?_
   refine AWP.ret (thenA_r ?_)
   refine ρj (rs := [.tmp 6, .tmp 7]) (.cons (.tmp rfl) (.cons (.tmp rfl) .nil)) ?_
   rw [hc, if_neg (by simp [h1]), if_pos (by omega)]; rfl
 try simp at h2
 refine AWP.skip (thenA_n (sr fun _ => ?_))
 refine mv ?_
 refine mv ?_
 refine mv ?_
 refine ARun.build rfl rfl rfl rfl so108 (.cons (ep rfl) (.cons (ep rfl) .nil)) rfl rfl optN ?_
 refine ρh cf135 (fun hg => put_fn l ⟨id, q, 0, 0⟩ hl) ?_
 refine ma ?_
 refine mz ?_
 refine AWP.ret ?_
 refine ρj (rs := [.tmp 6, .tmp 7]) (.cons (.tmp rfl) (.cons (.tmp rfl) .nil)) ?_
 rw [hc, if_neg (by simp [h1]), if_neg (by omega)]; rfl
theorem moveR_fn (l : List It) (a b q : Int) (hl : l.length ≤ 400) : FnP Tryz.prog 97 [.sl (l.map aIt), .int .i64 a, .int .i64 b, .int .i64 q] (.tup [.sl ((moveP l a b q).1.map aIt), .int .i64 (moveP l a b q).2]) := by
 refine FnP.of Tryz.func97 rfl rfl (by simp) (by simp [AV.cells, aIt]) (fun G hG => ?_)
 have hN : NoH G.length (.tup [.sl ((moveP l a b q).1.map aIt), .int .i64 (moveP l a b q).2]) := (by simp [AV.cells, aIt])
 refine sr fun _ => ?_
 refine ma ?_
 refine mz (sr fun _ => ?_)
 refine mv ?_
 refine mv ?_
 refine mv ?_
 refine ARun.call rfl rfl rfl rfl cf136 (ep rfl) (.cons (ep rfl) (.cons (ep rfl) (.cons (ep rfl) .nil))) rfl (fun hg => item_fn l a q (by omega)) optN ?_
 refine mv ?_
 refine ρ9 ?_
 refine ρ9 ?_
 refine ρo (j := 0) zv108 ?_
 refine ρ1 sz108 ?_
 refine mz (sr fun _ => ?_)
 refine mv ?_
 refine mv ?_
 refine mv ?_
 refine ARun.call rfl rfl rfl rfl cf136 (ep rfl) (.cons (ep rfl) (.cons (ep rfl) (.cons (ep rfl) .nil))) rfl (fun hg => item_fn l b q (by omega)) optN ?_
 refine mv ?_
 refine ρ9 ?_
 refine ρ9 ?_
 refine ρo (j := 1) zv108 ?_
 refine ρ1 sz108 ?_
 refine mz ?_
 refine AWP.seq (sr fun _ => ?_)
 refine mv ?_
 refine ρ2 ?_
 refine mv ?_
 refine ρg ?_
 refine ρg ?_
 refine ρs ?_
 refine ρ3 ?_
 refine ez ?_
 refine ρp (fun h0 => ?_) (fun h0 => ?_)
 · try simp at h0
   refine sr fun _ => ?_
   refine ma ?_
   refine mz ?_
   refine AWP.ret (thenA_r ?_)
   refine ρj (rs := [.tmp 8, .tmp 9]) (.cons (.tmp rfl) (.cons (.tmp rfl) .nil)) ?_
   rw [move_arg h0]; rfl
 try simp at h0
 refine AWP.skip (thenA_n (AWP.seq (sr fun _ => ?_)))
 refine mv ?_
 refine ρ2 ?_
 refine mv ?_
 refine ρg ?_
 refine ρb ?_
 refine ρ3 ?_
 refine ez ?_
 refine ρp (fun h1 => ?_) (fun h1 => ?_)
 · try simp at h1
   refine sr fun _ => ?_
   refine ma ?_
   refine mz ?_
   refine AWP.ret (thenA_r ?_)
   refine ρj (rs := [.tmp 8, .tmp 9]) (.cons (.tmp rfl) (.cons (.tmp rfl) .nil)) ?_
   rw [move_none (by omega) (by omega)]; rfl
 simp at h1
 have hb1 := item_bd h1.1
 have hb2 := item_bd h1.2
 obtain ⟨m1, m2, m3⟩ := move_item h1.1 h1.2 (by omega)
 refine AWP.skip (thenA_n (AWP.seq (sr fun _ => ?_)))
 refine ρ6 (fo := 1) U108 sz3 ?_
 refine ρd U3 ?_
 refine mv ?_
 refine ρ2 ?_
 refine ez ?_
 refine ρp (fun h2 => ?_) (fun h2 => ?_)
 · try simp at h2
   refine sr fun _ => ?_
   refine ma ?_
   refine mz ?_
   refine AWP.ret (thenA_r ?_)
   refine ρj (rs := [.tmp 8, .tmp 9]) (.cons (.tmp rfl) (.cons (.tmp rfl) .nil)) ?_
   rw [m1 (by omega)]; rfl
 try simp at h2
 refine AWP.skip (thenA_n (AWP.seq (sr fun _ => ?_)))
 refine mv ?_
 refine ρ6 (fo := 1) U108 sz3 ?_
 refine ρd U3 ?_
 refine ρa ?_
 refine ρ6 (fo := 2) U108 sz3 ?_
 refine ρd U3 ?_
 refine ρa ?_
 refine ρ6 (fo := 3) U108 sz3 ?_
 refine ρd U3 ?_
 refine ρa ?_
 refine ρ2 ?_
 refine ez ?_
 refine ρp (fun h3 => ?_) (fun h3 => ?_)
 · try simp at h3
   refine sr fun _ => ?_
   refine ma ?_
   refine mz ?_
   refine AWP.ret (thenA_r ?_)
   refine ρj (rs := [.tmp 8, .tmp 9]) (.cons (.tmp rfl) (.cons (.tmp rfl) .nil)) ?_
   rw [m2 (by omega) (by omega)]; rfl
 try simp at h3
 refine AWP.skip (thenA_n (sr fun _ => ?_))
 refine ρ6 (fo := 1) U108 sz3 ?_
 refine ρd U3 ?_
 refine mv ?_
 refine ρa ?_
 refine ρ6 (fo := 1) U108 sz3 ?_
 refine ρt sz3 ?_
 refine ez (sr fun _ => ?_)
 refine ρ6 (fo := 1) U108 sz3 ?_
 refine ρd U3 ?_
 refine mv ?_
 refine ρa ?_
 refine ρ6 (fo := 1) U108 sz3 ?_
 refine ρt sz3 ?_
 refine ez ?_
 refine AWP.seq ?_
 refine ρE mixed (fun _ => ?_)
 refine mv ?_
 refine ρn U108 sz108 ?_
 refine ρk cf135 ?_ (hF := fun hg => put_fn l ⟨(itemP l a q).1.id, (itemP l a q).1.free - q, (itemP l a q).1.held, (itemP l a q).1.gone⟩ (by omega))
 refine ρn U108 sz108 ?_
 refine ρk cf135 ?_ (hF := fun hg => put_fn (put l ⟨(itemP l a q).1.id, (itemP l a q).1.free - q, (itemP l a q).1.held, (itemP l a q).1.gone⟩) ⟨(itemP l b q).1.id, (itemP l b q).1.free + q, (itemP l b q).1.held, (itemP l b q).1.gone⟩ (by have := put_len l ⟨(itemP l a q).1.id, (itemP l a q).1.free - q, (itemP l a q).1.held, (itemP l a q).1.gone⟩; omega))
 refine ma ?_
 refine ma ?_
 refine ⟨by kernel_rfl, _, _, rfl, hG, ?_⟩
 refine thenA_n (AWP.ret ?_)
 refine ρj (rs := [.tmp 8, .tmp 9]) (.cons (.tmp rfl) (.cons (.tmp rfl) .nil)) ?_
 rw [m3 (by omega) (by omega)]; rfl
end Go.Proofs.YtcndnllmlhhjiaaGreatDoor.Stk
namespace Go.Proofs.YtcndnllmlhhjiaaGreatDoor.Stk
open Go.RowKit
open StockP
abbrev holdF (ys : List It) (i q : Int) : List It × Int := withP (holdG q) ys i q
theorem ln_get {m : List Ln} {k : Nat} (h : k < m.length) : m.getD k default = m[k] := by simp [List.getD, h]
theorem stepL (m : List Ln) (k : Nat) (h : k < m.length) : okLFrom 0 (m.take (k + 1)) = (okLFrom 0 (m.take k) && decide (lastL 0 (m.take k) < (m.getD k default).item ∧ (m.getD k default).item ≤ 99999 ∧ 1 ≤ (m.getD k default).qty ∧ (m.getD k default).qty ≤ 1000000)) := by
 rw [ln_get h, show m.take (k + 1) = m.take k ++ [m[k]] by simp]; exact okLFrom_snoc _ _ _
theorem lastL_at (m : List Ln) (k : Nat) (h : k < m.length) : lastL 0 (m.take (k + 1)) = (m.getD k default).item := by
 rw [ln_get h, show m.take (k + 1) = m.take k ++ [m[k]] by simp]; exact lastL_snoc _ _ _
theorem lastL_prev (m : List Ln) (k : Nat) (h : k ≤ m.length) : (0 < k → lastL 0 (m.take k) = (m.getD (k - 1) default).item) ∧ (k = 0 → lastL 0 (m.take k) = 0) := by
 refine ⟨fun h0 => ?_, fun h0 => ?_⟩
 · rw [← lastL_at m (k - 1) (by omega), show k - 1 + 1 = k by omega]
 subst h0; rfl
theorem lastL_ge (l : List Ln) : ∀ p, okLFrom p l = true → p ≤ lastL p l := by
 induction l with
 | nil => intro p _; exact Int.le_refl _
 | cons x l ih =>
   intro p h
   simp only [okLFrom, Bool.and_eq_true, decide_eq_true_eq] at h
   have := ih _ h.2
   show p ≤ lastL x.item l
   omega
theorem okLE_bad {m : List Ln} {k : Nat} (h : okLFrom 0 (m.take (k + 1)) = false) : okLE m = 2 := by
 unfold okLE okL; rw [okLFrom_cut h]; simp
theorem okLE_big {m : List Ln} (h : m.length < 1 ∨ 5 < m.length) : okLE m = 2 := by
 unfold okLE okL; rw [decide_eq_false (by omega)]; simp
theorem okLE_good {m : List Ln} (h : 1 ≤ m.length ∧ m.length ≤ 5) (h2 : okLFrom 0 (m.take m.length) = true) : okLE m = 0 := by
 rw [List.take_length] at h2
 unfold okLE okL; rw [decide_eq_true h, h2]; simp
theorem okLE_ok {m : List Ln} : okLE m = 0 ↔ okL m = true := by unfold okLE; split <;> simp_all
theorem okL_len {m : List Ln} (h : okL m = true) : 1 ≤ m.length ∧ m.length ≤ 5 := by unfold okL at h; simp at h; exact h.1
theorem okL_at {m : List Ln} (h : okL m = true) {k : Nat} (hk : k < m.length) : 1 ≤ (m.getD k default).qty ∧ (m.getD k default).qty ≤ 1000000 := by
 have h2 : okLFrom 0 m = true := by unfold okL at h; simp at h; exact h.2
 have := okLFrom_mem h2 m[k] (List.getElem_mem hk)
 rw [ln_get hk]; omega
theorem sumF_at (m : List Ln) (k : Nat) (h : k < m.length) : sumF (m.take (k + 1)) = sumF (m.take k) + (m.getD k default).qty := by
 rw [ln_get h, show m.take (k + 1) = m.take k ++ [m[k]] by simp]; exact sumF_snoc _ _
theorem sumF_bd {m : List Ln} (h : okL m = true) : ∀ k, k ≤ m.length → 0 ≤ sumF (m.take k) ∧ sumF (m.take k) ≤ 1000000 * (k : Int) := by
 intro k
 induction k with
 | zero => intro _; simp [sumF]
 | succ k ih =>
   intro hk
   have h1 := ih (by omega)
   have h2 := okL_at h (k := k) (by omega)
   rw [sumF_at m k (by omega)]; omega
theorem goes_step {fn : List It → Int → Int → List It × Int} {cur : List It} {m : List Ln} {k : Nat} (h : k < m.length) : goesP fn k cur (m.drop k) = if (fn cur (m.getD k default).item (m.getD k default).qty).2 ≠ 0 then ([], (k : Int), (fn cur (m.getD k default).item (m.getD k default).qty).2) else goesP fn ((k + 1 : Nat) : Int) (fn cur (m.getD k default).item (m.getD k default).qty).1 (m.drop (k + 1)) := by
 rw [List.drop_eq_getElem_cons h, ← ln_get h, goesP_cons]; rfl
theorem goes_end {fn : List It → Int → Int → List It × Int} {cur : List It} {m : List Ln} : goesP fn m.length cur (m.drop m.length) = (cur, (m.length : Int), 0) := by
 rw [List.drop_length]; rfl
theorem hold_len (l : List It) (i q : Int) : (holdF l i q).1.length ≤ l.length := with_len (holdG q) l i q
theorem allP_no {fn : List It → Int → Int → List It × Int} {l : List It} {m : List Ln} (h : ¬ (ok l = true ∧ okL m = true)) : allP fn l m = ([], 0, 2) := if_neg h
theorem allP_yes {fn : List It → Int → Int → List It × Int} {l : List It} {m : List Ln} (h : ok l = true ∧ okL m = true) : allP fn l m = goesP fn 0 l m := if_pos h
theorem checkL_fn (m : List Ln) : FnP Tryz.prog 173 [.sl (m.map aLn)] (.int .i64 (okLE m)) := by
 refine FnP.of Tryz.func173 rfl rfl (by simp) (by simp [AV.cells, aIt, aLn]) (fun G hG => ?_)
 have hN : NoH G.length (.int .i64 (okLE m)) := (by simp [AV.cells, aIt, aLn])
 refine sr fun _ => ?_
 refine mz ?_
 refine AWP.seq (sr fun _ => ?_)
 refine mv ?_
 refine ρv U82 ?_
 refine ρ2 ?_
 refine mv ?_
 refine ρg ?_
 refine ARun.lenSl rfl rfl rfl rfl U82 (Ev.opt rfl (fun h => h)) optS ?_
 refine ρb ?_
 refine ρ3 ?_
 refine ez ?_
 refine ρp (fun h0 => ?_) (fun h0 => ?_)
 · simp only [Bool.or_eq_true, decide_eq_true_eq, List.length_map] at h0
   refine sr fun _ => ?_
   refine mz ?_
   refine AWP.ret (thenA_r ?_)
   refine ρi ?_
   rw [okLE_big (by omega)]; rfl
 simp only [Bool.or_eq_false_iff, decide_eq_false_iff_not, List.length_map] at h0
 refine AWP.skip (thenA_n (sr fun _ => ?_))
 refine mz ?_
 refine AWP.seq (sr fun _ => ?_)
 refine mv ?_
 refine ρv U82 ?_
 refine mv ?_
 refine ez ?_
 refine AWP.block ?_
 refine AWP.rounds (fun k => k ≤ m.length ∧ okLFrom 0 (m.take k) = true) (fun k => [(3, .int .i64 (lastL 0 (m.take k))), (14, .sl (m.map aLn)), (15, .int .i64 ((m.map aLn).length : Int)), (16, .int .i64 (k : Int))]) (fun k => []) (fun k => m.length - k) 0 0 ⟨by omega, rfl⟩ (by repeat (first | exact .nil | refine .cons rfl ?_)) rfl (fun _ => rfl) (fun _ => (by simp [AO.conts, AV.cells, aIt, aLn])) (fun k hI => ?_)
 obtain ⟨hk, hok⟩ := hI
 refine sr fun _ => ?_
 refine ρ2 ?_
 refine ez ?_
 refine AWP.seq ?_
 refine ρp (fun h1 => ?_) (fun h1 => ?_)
 · try simp [-List.getD_eq_getElem?_getD] at h1
   refine AWP.skip (thenA_n ?_)
   refine AWP.seq (AWP.block (sr fun _ => ?_))
   refine ρf U82 sz127 ?_
   refine ρl U127 sz127 ?_
   refine ρo (j := 0) zv127 ?_
   refine ρ1 sz127 ?_
   refine ez ?_
   refine AWP.seq (sr fun _ => ?_)
   refine ρ6 (fo := 0) U127 sz3 ?_
   refine ρd U3 ?_
   refine mv ?_
   refine ρ2 ?_
   refine mv ?_
   refine ρx (fo := 0) U127 sz3 ?_
   refine ρw U3 ?_
   refine ρb ?_
   refine ρ3 ?_
   refine mv ?_
   refine ρx (fo := 1) U127 sz3 ?_
   refine ρw U3 ?_
   refine ρb ?_
   refine ρ3 ?_
   refine mv ?_
   refine ρx (fo := 1) U127 sz3 ?_
   refine ρw U3 ?_
   refine ρb ?_
   refine ρ3 ?_
   refine ez ?_
   refine ρp (fun h2 => ?_) (fun h2 => ?_)
   · simp [-List.getD_eq_getElem?_getD] at h2
     have hst := stepL m k (by omega)
     have hln := lastL_ge (m.take k) 0 hok
     rw [decide_eq_false (by omega), Bool.and_false] at hst
     refine sr fun _ => ?_
     refine mz ?_
     refine AWP.ret (thenA_r ?_)
     refine blockA_r (thenA_r ?_)
     refine thenA_r (blockA_r (thenA_r ?_))
     refine ρi ?_
     rw [okLE_bad hst]; rfl
   simp [-List.getD_eq_getElem?_getD] at h2
   have hst := stepL m k (by omega)
   rw [decide_eq_true (by omega), hok, Bool.true_and] at hst
   refine AWP.skip (thenA_n ?_)
   refine AWP.region (fun _ => ?_)
   refine ρ6 (fo := 0) U127 sz3 ?_
   refine ρd U3 ?_
   refine ma ?_
   refine ⟨_, _, rfl, hG, ?_⟩
   refine blockA_n (thenA_n ?_)
   refine AWP.region (fun _ => ?_)
   refine ρa ?_
   refine mv ?_
   refine ⟨_, _, rfl, hG, ?_⟩
   refine thenA_n ⟨rfl, k + 1, _, ?_, ?_, rfl, ?_⟩
   · exact ⟨by omega, hst⟩
   · rw [lastL_at m k (by omega)]
     repeat (first | exact .nil | refine .cons rfl ?_)
   omega
 simp at h1
 obtain rfl : k = m.length := by omega
 refine AWP.exit ?_
 refine thenA_x ?_
 refine thenA_x ?_
 refine blockA_h ?_
 refine thenA_n (sr fun _ => ?_)
 refine mz ?_
 refine AWP.ret ?_
 refine ρi ?_
 rw [okLE_good (by omega) hok]; rfl
theorem checkLR_fn (m : List Ln) : FnP Tryz.prog 137 [.sl (m.map aLn)] (.int .i64 (okLE m)) := by
 refine FnP.of Tryz.func137 rfl rfl (by simp) (by simp [AV.cells, aIt, aLn]) (fun G hG => ?_)
 have hN : NoH G.length (.int .i64 (okLE m)) := (by simp [AV.cells, aIt, aLn])
 refine sr fun _ => ?_
 refine mz ?_
 refine AWP.seq (sr fun _ => ?_)
 refine mv ?_
 refine ρv U82 ?_
 refine ρ2 ?_
 refine mv ?_
 refine ρg ?_
 refine ARun.lenSl rfl rfl rfl rfl U82 (Ev.opt rfl (fun h => h)) optS ?_
 refine ρb ?_
 refine ρ3 ?_
 refine ez ?_
 refine ρp (fun h0 => ?_) (fun h0 => ?_)
 · simp only [Bool.or_eq_true, decide_eq_true_eq, List.length_map] at h0
   refine sr fun _ => ?_
   refine mz ?_
   refine AWP.ret (thenA_r ?_)
   refine ρi ?_
   rw [okLE_big (by omega)]; rfl
 simp only [Bool.or_eq_false_iff, decide_eq_false_iff_not, List.length_map] at h0
 refine AWP.skip (thenA_n (AWP.seq (sr fun _ => ?_)))
 refine mz ?_
 refine AWP.block ?_
 refine AWP.rounds (fun k => k ≤ m.length ∧ okLFrom 0 (m.take k) = true) (fun k => [(0, .sl (m.map aLn)), (3, .int .i64 (k : Int))]) (fun k => []) (fun k => m.length - k) 0 0 ⟨by omega, rfl⟩ (by repeat (first | exact .nil | refine .cons rfl ?_)) rfl (fun _ => rfl) (fun _ => (by simp [AO.conts, AV.cells, aIt, aLn])) (fun k hI => ?_)
 obtain ⟨hk, hok⟩ := hI
 have hlp := lastL_prev m k hk
 refine AWP.seq (sr fun _ => ?_)
 refine mv ?_
 refine mv ?_
 refine ρv U82 ?_
 refine ρ2 ?_
 refine ez ?_
 refine ρp (fun h1 => ?_) (fun h1 => ?_)
 · try simp [-List.getD_eq_getElem?_getD] at h1
   refine AWP.skip (thenA_n ?_)
   refine AWP.seq (AWP.block (AWP.seq ?_))
   refine ρE mixed (fun _ => ?_)
   refine mv ?_
   refine mv ?_
   refine ARun.indexSl rfl rfl rfl rfl U82 sz127 (ep rfl) (ep rfl) (fun _ => rfl) (fun hg => getMap _ _ _ (by (try simp [-List.getD_eq_getElem?_getD] at hg); omega)) rfl rfl optN ?_
   refine ρ4 U127 sz3 ?_
   refine ρ7 U3 ?_
   refine ρ2 ?_
   refine mv ?_
   refine ρg ?_
   refine ρg ?_
   refine ARun.indexSl rfl rfl rfl rfl U82 sz127 (Ev.opt rfl (fun h => h)) (Ev.opt rfl (fun h => h)) (fun _ => rfl) (fun hg => getMap _ _ _ (by (try simp [-List.getD_eq_getElem?_getD] at hg); omega)) rfl rfl optS ?_
   refine ρB U127 sz3 ?_
   refine ρ5 U3 ?_
   refine ρb ?_
   refine ρ3 ?_
   refine mv ?_
   refine ρg ?_
   refine ρg ?_
   refine ARun.indexSl rfl rfl rfl rfl U82 sz127 (Ev.opt rfl (fun h => h)) (Ev.opt rfl (fun h => h)) (fun _ => rfl) (fun hg => getMap _ _ _ (by (try simp [-List.getD_eq_getElem?_getD] at hg); omega)) rfl rfl optS ?_
   refine ρB U127 sz3 ?_
   refine ρ5 U3 ?_
   refine ρb ?_
   refine ρ3 ?_
   refine mv ?_
   refine ρg ?_
   refine ρg ?_
   refine ARun.indexSl rfl rfl rfl rfl U82 sz127 (Ev.opt rfl (fun h => h)) (Ev.opt rfl (fun h => h)) (fun _ => rfl) (fun hg => getMap _ _ _ (by (try simp [-List.getD_eq_getElem?_getD] at hg); omega)) rfl rfl optS ?_
   refine ρB U127 sz3 ?_
   refine ρ5 U3 ?_
   refine ρb ?_
   refine ρ3 ?_
   refine mv ?_
   refine ρg ?_
   refine ρb ?_
   refine ARun.move (.inl rfl) rfl rfl rfl (Ev.opt rfl (fun h => h)) optS ?_
   refine ρg ?_
   refine ρg ?_
   refine ARun.indexSl rfl rfl rfl rfl U82 sz127 (Ev.opt rfl (fun h => h)) (Ev.opt rfl (fun h => h)) (fun _ => rfl) (fun hg => getMap _ _ _ (by (try simp [-List.getD_eq_getElem?_getD] at hg); omega)) rfl rfl optS ?_
   refine ρB U127 sz3 ?_
   refine ρ5 U3 ?_
   refine ρg ?_
   refine ρg ?_
   refine ARun.arith rfl rfl rfl rfl (Ev.opt rfl (fun h => h)) (ep rfl) rfl (fun hg => i64w (by (try simp [-List.getD_eq_getElem?_getD] at hg); omega)) optS ?_
   refine ARun.indexSl rfl rfl rfl rfl U82 sz127 (Ev.opt rfl (fun h => h)) (Ev.opt rfl (fun h => h)) (fun hg => ofNonneg (by (try simp [-List.getD_eq_getElem?_getD] at hg); omega)) (fun hg => getMap _ _ _ (by (try simp [-List.getD_eq_getElem?_getD] at hg); omega)) rfl rfl optS ?_
   refine ρB U127 sz3 ?_
   refine ρ5 U3 ?_
   refine ρs ?_
   refine ρD ?_
   refine ρ3 ?_
   refine ⟨by kernel_rfl, _, _, rfl, hG, ?_⟩
   refine thenA_n ?_
   refine ρp (fun h2 => ?_) (fun h2 => ?_)
   · simp [-List.getD_eq_getElem?_getD] at h2
     have hst := stepL m k (by omega)
     have hln := lastL_ge (m.take k) 0 hok
     rw [decide_eq_false (by omega), Bool.and_false] at hst
     refine sr fun _ => ?_
     refine mz ?_
     refine AWP.ret (blockA_r ?_)
     refine thenA_r (thenA_r ?_)
     refine blockA_r (thenA_r ?_)
     refine ρi ?_
     rw [okLE_bad hst]; rfl
   simp [-List.getD_eq_getElem?_getD] at h2
   have hst := stepL m k (by omega)
   rw [decide_eq_true (by omega), hok, Bool.true_and] at hst
   refine AWP.skip (blockA_n (thenA_n ?_))
   refine AWP.region (fun _ => ?_)
   refine mv ?_
   refine ARun.arith rfl rfl rfl rfl (ep rfl) (ep rfl) rfl (fun hg => i64w (by (try simp [-List.getD_eq_getElem?_getD] at hg); omega)) optN ?_
   refine ma ?_
   refine ⟨_, _, rfl, hG, ?_⟩
   refine thenA_n ⟨rfl, k + 1, _, ?_, ?_, rfl, ?_⟩
   · exact ⟨by omega, hst⟩
   · repeat (first | exact .nil | refine .cons rfl ?_)
   omega
 simp at h1
 obtain rfl : k = m.length := by omega
 refine AWP.exit ?_
 refine thenA_x ?_
 refine thenA_x ?_
 refine blockA_h ?_
 refine thenA_n (sr fun _ => ?_)
 refine mz ?_
 refine AWP.ret ?_
 refine ρi ?_
 rw [okLE_good (by omega) hok]; rfl
theorem mayB_fn (l : List It) (m : List Ln) : FnP Tryz.prog 185 [.sl (l.map aIt), .sl (m.map aLn)] (.bool (ok l && okL m)) := by
 refine FnP.of Tryz.func185 rfl rfl (by simp) (by simp [AV.cells, aIt, aLn]) (fun G hG => ?_)
 have hN : NoH G.length (.bool (ok l && okL m)) := (by simp [AV.cells, aIt, aLn])
 refine sr fun _ => ?_
 refine mz (sr fun _ => ?_)
 refine mv ?_
 refine ρm cf65 (fun hg => check_fn l) ?_
 refine ρ2 ?_
 refine mv ?_
 refine ρg ?_
 refine ρr cf173 (fun hg => checkL_fn m) ?_
 refine ρb ?_
 refine ρ0 ?_
 refine mz ?_
 refine AWP.ret ?_
 refine ρi ?_
 simp [okE_ok, okLE_ok]
def stp (l : List It) (x : Ln) : List It := if (holdF l x.item x.qty).2 = 0 then (holdF l x.item x.qty).1 else l
theorem doing_fn (l : List It) : FnNewB Tryz.prog 186 [.sl (l.map aIt), .fn (.func 157) [] []] (fun i => .fn (.func 192) [] [.pe [.fn (.func 157) [] []], .box i 0]) [.sl (l.map aIt)] := by
 refine FnNewB.of Tryz.func186 rfl rfl (by simp) (fun G hG => ?_)
 refine sr fun _ => ?_
 refine ARun.box1 (j := 0) hG rfl rfl rfl rfl rfl (ep rfl) (by first | rfl | exact aEr_one _ | exact aFl_one _) optN ?_
 refine ARun.boxPe1 rfl rfl rfl rfl (ep rfl) (by first | rfl | exact aEr_one _ | exact aFl_one _) optN ?_
 refine mz (sr fun _ => ?_)
 refine ARun.makeFunc rfl rfl rfl rfl .nil (.cons (ep rfl) (.cons (ep rfl) .nil)) optN ?_
 refine mz ?_
 refine AWP.ret ?_
 refine endN.one (.inr rfl) rfl (.tmp rfl) ?_ (by simp [AV.cells, aIt]) (by simp [AV.cells, aIt])
 rfl
theorem step_fn (l : List It) (x : Ln) (hl : l.length ≤ 1000) : FnM Tryz.prog 192 (fun i => [aLn x, .pe [.fn (.func 157) [] []], .box i 0]) [.sl (l.map aIt)] (.tup [.sl ((holdF l x.item x.qty).1.map aIt), .int .i64 (holdF l x.item x.qty).2]) [.sl ((stp l x).map aIt)] := by
 refine FnM.of Tryz.func192 rfl rfl (fun i => by simp) (fun H i m hHm hi hG => ?_)
 have hN : NoH H.length (.tup [.sl ((holdF l x.item x.qty).1.map aIt), .int .i64 (holdF l x.item x.qty).2]) := (by simp [AV.cells, aIt])
 refine sr fun _ => ?_
 refine ρz ?_
 refine ma ?_
 refine mz (sr fun _ => ?_)
 refine ρ7 U240 ?_
 refine ARun.loadBox rfl rfl rfl rfl U22 rfl (ep rfl) (atO hi) rfl optN ?_
 refine ρ4 U127 sz3 ?_
 refine ρ7 U3 ?_
 refine ρ4 U127 sz3 ?_
 refine ρ7 U3 ?_
 refine ARun.call rfl rfl rfl rfl cf157 (ep rfl) (.cons (ep rfl) (.cons (ep rfl) (.cons (ep rfl) .nil))) rfl (fun hg => reserve_fn l x.item x.qty hl) optN ?_
 refine mv ?_
 refine ρ9 ?_
 refine ρ9 ?_
 refine ma ?_
 refine mz ?_
 refine AWP.seq (sr fun _ => ?_)
 refine mv ?_
 refine ρ2 ?_
 refine ez ?_
 refine ρp (fun h0 => ?_) (fun h0 => ?_)
 · try simp [-List.getD_eq_getElem?_getD] at h0
   refine AWP.region (fun _ => ?_)
   refine mv ?_
   refine ARun.storeO1 hi hG rfl rfl rfl sz22 (ep rfl) (ep rfl) (by first | rfl | exact aEr_one _ | exact aFl_one _) (Nat.le_of_ble_eq_true rfl) rfl (by simp [AV.cells, aIt]) (fun hG => ?_)
   refine ez (sr fun _ => ?_)
   refine mv ?_
   refine mv ?_
   refine ma ?_
   refine mz ?_
   refine AWP.ret ?_
   refine endF.toG (congrArg (fun c => H.set i (AO.box c)) (by rw [stp, if_pos h0]; rfl)) ?_
   refine endF.many (.inr rfl) (rs := [.tmp 4, .tmp 5]) rfl (.cons (.tmp rfl) (.cons (.tmp rfl) .nil)) (by simp) ?_ (by rw [List.length_set]; exact hN)
   rfl
 try simp [-List.getD_eq_getElem?_getD] at h0
 refine AWP.skip (thenA_n (sr fun _ => ?_))
 refine mv ?_
 refine mv ?_
 refine ma ?_
 refine mz ?_
 refine AWP.ret ?_
 refine endF.toG (congrArg (fun c => H.set i (AO.box c)) (by rw [stp, if_neg h0])) ?_
 refine endF.many (.inr rfl) (rs := [.tmp 4, .tmp 5]) rfl (.cons (.tmp rfl) (.cons (.tmp rfl) .nil)) (by simp) ?_ (by rw [List.length_set]; exact hN)
 rfl
theorem all_fn (l : List It) (m : List Ln) (hl : l.length ≤ 1000) : FnP Tryz.prog 172 [.sl (l.map aIt), .sl (m.map aLn), .fn (.func 157) [] []] (.tup [.sl ((allP holdF l m).1.map aIt), .int .i64 (allP holdF l m).2.1, .int .i64 (allP holdF l m).2.2]) := by
 refine FnP.of Tryz.func172 rfl rfl (by simp) (by simp [AV.cells, aIt, aLn]) (fun G hG => ?_)
 have hN : NoH G.length (.tup [.sl ((allP holdF l m).1.map aIt), .int .i64 (allP holdF l m).2.1, .int .i64 (allP holdF l m).2.2]) := (by simp [AV.cells, aIt, aLn])
 refine sr fun _ => ?_
 refine ma ?_
 refine ma ?_
 refine mz ?_
 refine AWP.seq (sr fun _ => ?_)
 refine mv ?_
 refine mv ?_
 refine ρh cf185 (fun hg => mayB_fn l m) ?_
 refine ρC ?_
 refine ez ?_
 refine ρp (fun h0 => ?_) (fun h0 => ?_)
 · simp at h0
   refine sr fun _ => ?_
   refine ma ?_
   refine ma ?_
   refine mz ?_
   refine AWP.ret (thenA_r ?_)
   refine ρj (rs := [.tmp 6, .tmp 7, .tmp 8]) (.cons (.tmp rfl) (.cons (.tmp rfl) (.cons (.tmp rfl) .nil))) ?_
   rw [allP_no (by rintro ⟨a, b⟩; rw [a, b] at h0; simp at h0)]; rfl
 simp at h0
 have hml := okL_len h0.2
 have hdef := allP_yes (fn := holdF) h0
 refine AWP.skip (thenA_n (sr fun _ => ?_))
 refine mv ?_
 refine mv ?_
 refine ARun.callNewB (j := 0) hG rfl rfl rfl rfl rfl cf186 (ep rfl) (.cons (ep rfl) (.cons (ep rfl) .nil)) rfl (doing_fn l) optN ?_
 refine mz ?_
 refine AWP.seq (sr fun _ => ?_)
 refine mv ?_
 refine ρv U82 ?_
 refine mv ?_
 refine ez ?_
 refine AWP.block ?_
 refine AWP.rounds (fun s => s.1 ≤ m.length ∧ s.2.length ≤ 1000 ∧ goesP holdF 0 l m = goesP holdF s.1 s.2 (m.drop s.1)) (fun s => [(1, .sl (m.map aLn)), (6, .sl ((if s.1 = 0 then [] else s.2).map aIt)), (9, .fn (.func 192) [] [.pe [.fn (.func 157) [] []], .box (G.length + 0) 0]), (21, .sl (m.map aLn)), (22, .int .i64 ((m.map aLn).length : Int)), (23, .int .i64 (s.1 : Int))]) (fun s => [.box [.sl (s.2.map aIt)]]) (fun s => m.length - s.1) 1 ((0, l) : Nat × List It) ⟨by omega, hl, rfl⟩ (by repeat (first | exact .nil | refine .cons rfl ?_)) rfl (fun _ => rfl) (fun _ => ⟨by simp [AV.cells, aIt, aLn]; intro x a _ _ e y hy; subst e; simp at hy; rcases hy with rfl | rfl | rfl | rfl <;> simp, by simp [AO.conts, AV.cells, aIt]⟩) (fun s hI => ?_)
 obtain ⟨k, cur⟩ := s
 dsimp only at hI
 show AWP _ _ _ _ _ [(1, .sl (m.map aLn)), (6, .sl ((if k = 0 then [] else cur).map aIt)), (9, .fn (.func 192) [] [.pe [.fn (.func 157) [] []], .box (G.length + 0) 0]), (21, .sl (m.map aLn)), (22, .int .i64 ((m.map aLn).length : Int)), (23, .int .i64 (k : Int))] _ [.box [.sl (cur.map aIt)]]
 obtain ⟨hk, hc, hg2⟩ := hI
 have hhl := hold_len cur (m.getD k default).item (m.getD k default).qty
 refine sr fun _ => ?_
 refine ρ2 ?_
 refine ez ?_
 refine AWP.seq ?_
 refine ρp (fun h1 => ?_) (fun h1 => ?_)
 · try simp [-List.getD_eq_getElem?_getD] at h1
   refine AWP.skip (thenA_n ?_)
   refine AWP.seq (AWP.block (sr fun _ => ?_))
   refine mv ?_
   refine ρf U82 sz127 ?_
   refine ρl U127 sz127 ?_
   refine ρo (j := 1) zv127 ?_
   refine ma ?_
   refine ρ1 sz127 ?_
   refine ez (sr fun _ => ?_)
   refine mv ?_
   refine ρn U127 sz127 ?_
   refine ARun.callSet (j := 0) hG rfl rfl rfl rfl cf192 (ep rfl) (.cons (ep rfl) .nil) rfl (step_fn cur (m.getD k default) hc _ _ ((hG.at _ _).trans rfl)) rfl optN ?_
   refine mv ?_
   refine ρ9 ?_
   refine ρ9 ?_
   refine ma ?_
   refine mz ?_
   refine AWP.seq (sr fun _ => ?_)
   refine mv ?_
   refine ρ2 ?_
   refine ez ?_
   refine ρp (fun h2 => ?_) (fun h2 => ?_)
   · simp [-List.getD_eq_getElem?_getD] at h2
     rw [goes_step (by omega), if_pos h2] at hg2
     refine sr fun _ => ?_
     refine mv ?_
     refine mv ?_
     refine ma ?_
     refine ma ?_
     refine mz ?_
     refine AWP.ret (thenA_r ?_)
     refine blockA_r (thenA_r ?_)
     refine thenA_r (blockA_r (thenA_r ?_))
     refine ρj (rs := [.tmp 6, .tmp 7, .tmp 8]) (.cons (.tmp rfl) (.cons (.tmp rfl) (.cons (.tmp rfl) .nil))) ?_
     rw [hdef, hg2]; rfl
   simp [-List.getD_eq_getElem?_getD] at h2
   rw [goes_step (by omega), if_neg (by rw [h2]; simp)] at hg2
   have hst : stp cur (m.getD k default) = (holdF cur (m.getD k default).item (m.getD k default).qty).1 := by rw [stp, if_pos h2]
   rw [hst]
   refine AWP.skip (thenA_n ?_)
   refine AWP.region (fun _ => ?_)
   refine mv ?_
   refine ma ?_
   refine ⟨_, _, rfl, hG, ?_⟩
   refine blockA_n (thenA_n ?_)
   refine AWP.region (fun _ => ?_)
   refine ρa ?_
   refine mv ?_
   refine ⟨_, _, rfl, hG, ?_⟩
   refine thenA_n ⟨rfl, (k + 1, (holdF cur (m.getD k default).item (m.getD k default).qty).1), _, ?_, ?_, rfl, ?_⟩
   · exact ⟨by dsimp only; omega, by dsimp only; omega, hg2⟩
   · repeat (first | exact .nil | refine .cons rfl ?_)
   dsimp only; omega
 simp at h1
 obtain rfl : k = m.length := by omega
 rw [goes_end] at hg2
 have hk0 : ¬ m.length = 0 := by omega
 refine AWP.exit ?_
 refine thenA_x ?_
 refine thenA_x ?_
 refine blockA_h ?_
 refine thenA_n (sr fun _ => ?_)
 refine mv ?_
 refine mv ?_
 refine ρv U82 ?_
 refine ma ?_
 refine ma ?_
 refine mz ?_
 refine AWP.ret ?_
 refine ρj (rs := [.tmp 6, .tmp 7, .tmp 8]) (.cons (.tmp rfl) (.cons (.tmp rfl) (.cons (.tmp rfl) .nil))) ?_
 rw [hdef, hg2, if_neg hk0, List.length_map]; rfl
theorem holdB_fn (l : List It) (m : List Ln) (hl : l.length ≤ 1000) : FnP Tryz.prog 153 [.sl (l.map aIt), .sl (m.map aLn)] (.tup [.sl ((allP holdF l m).1.map aIt), .int .i64 (allP holdF l m).2.1, .int .i64 (allP holdF l m).2.2]) := by
 refine FnP.of Tryz.func153 rfl rfl (by simp) (by simp [AV.cells, aIt, aLn]) (fun G hG => ?_)
 have hN : NoH G.length (.tup [.sl ((allP holdF l m).1.map aIt), .int .i64 (allP holdF l m).2.1, .int .i64 (allP holdF l m).2.2]) := (by simp [AV.cells, aIt, aLn])
 refine sr fun _ => ?_
 refine ma ?_
 refine ma ?_
 refine mz (sr fun _ => ?_)
 refine mv ?_
 refine mv ?_
 refine ARun.call rfl rfl rfl rfl cf172 (ep rfl) (.cons (ep rfl) (.cons (ep rfl) (.cons (ep rfl) .nil))) rfl (fun hg => all_fn l m hl) optN ?_
 refine ρ9 ?_
 refine ρ9 ?_
 refine ρ9 ?_
 refine ma ?_
 refine ma ?_
 refine mz ?_
 refine AWP.ret ?_
 refine ρj (rs := [.tmp 4, .tmp 5, .tmp 6]) (.cons (.tmp rfl) (.cons (.tmp rfl) (.cons (.tmp rfl) .nil))) ?_
 rfl
theorem total_fn (m : List Ln) (hm : m.length ≤ 1000) : FnP Tryz.prog 154 [.sl (m.map aLn)] (.int .i64 (totalP m)) := by
 refine FnP.of Tryz.func154 rfl rfl (by simp) (by simp [AV.cells, aIt, aLn]) (fun G hG => ?_)
 have hN : NoH G.length (.int .i64 (totalP m)) := (by simp [AV.cells, aIt, aLn])
 refine sr fun _ => ?_
 refine mz (sr fun _ => ?_)
 refine mz ?_
 refine AWP.seq (sr fun _ => ?_)
 refine mv ?_
 refine ρv U82 ?_
 refine mv ?_
 refine ez ?_
 refine AWP.block ?_
 refine AWP.rounds (fun k => k ≤ m.length) (fun k => [(0, .sl (m.map aLn)), (3, .int .i64 (if okL m = true then sumF (m.take k) else 0)), (6, .sl (m.map aLn)), (7, .int .i64 ((m.map aLn).length : Int)), (8, .int .i64 (k : Int))]) (fun k => []) (fun k => m.length - k) 0 0 (Nat.zero_le _) (by rw [show (if okL m = true then sumF (m.take 0) else 0) = 0 from by split <;> rfl]; repeat (first | exact .nil | refine .cons rfl ?_)) rfl (fun _ => rfl) (fun _ => (by simp [AO.conts, AV.cells, aIt, aLn])) (fun k hI => ?_)
 refine sr fun _ => ?_
 refine ρ2 ?_
 refine ez ?_
 refine AWP.seq ?_
 refine ρp (fun h0 => ?_) (fun h0 => ?_)
 · try simp [-List.getD_eq_getElem?_getD] at h0
   refine AWP.skip (thenA_n ?_)
   refine AWP.seq (AWP.block (sr fun _ => ?_))
   refine ρf U82 sz127 ?_
   refine ρl U127 sz127 ?_
   refine ρo (j := 0) zv127 ?_
   refine ρ1 sz127 ?_
   refine ez (sr fun _ => ?_)
   refine mv ?_
   refine ρm cf173 (fun hg => checkL_fn m) ?_
   refine ρ2 ?_
   refine ez ?_
   refine ρp (fun h1 => ?_) (fun h1 => ?_)
   · simp [okLE_ok] at h1
     have hb := sumF_bd h1 k (by omega)
     have hq := okL_at h1 (k := k) (by omega)
     have hml := okL_len h1
     have hif : (if okL m = true then sumF (m.take k) else 0) = sumF (m.take k) := if_pos h1
     refine AWP.region (fun _ => ?_)
     refine mv ?_
     refine ρ6 (fo := 1) U127 sz3 ?_
     refine ρd U3 ?_
     refine ρa ?_
     refine ma ?_
     refine ⟨_, _, rfl, hG, ?_⟩
     refine blockA_n (thenA_n ?_)
     refine AWP.region (fun _ => ?_)
     refine ρa ?_
     refine mv ?_
     refine ⟨_, _, rfl, hG, ?_⟩
     refine thenA_n ⟨rfl, k + 1, _, ?_, ?_, rfl, ?_⟩
     · omega
     · rw [if_pos h1, if_pos h1, sumF_at m k (by omega)]
       repeat (first | exact .nil | refine .cons rfl ?_)
     omega
   simp [okLE_ok] at h1
   refine AWP.skip (blockA_n (thenA_n ?_))
   refine AWP.region (fun _ => ?_)
   refine ρa ?_
   refine mv ?_
   refine ⟨_, _, rfl, hG, ?_⟩
   refine thenA_n ⟨rfl, k + 1, _, ?_, ?_, rfl, ?_⟩
   · omega
   · rw [if_neg (by simp [h1]), if_neg (by simp [h1])]
     repeat (first | exact .nil | refine .cons rfl ?_)
   omega
 simp at h0
 obtain rfl : k = m.length := by omega
 rw [List.take_length]
 refine AWP.exit ?_
 refine thenA_x ?_
 refine thenA_x ?_
 refine blockA_h ?_
 refine thenA_n (sr fun _ => ?_)
 refine mv ?_
 refine mz ?_
 refine AWP.ret ?_
 refine ρi ?_
 rfl
theorem totalR_fn (m : List Ln) (hm : m.length ≤ 1000) : FnP Tryz.prog 100 [.sl (m.map aLn)] (.int .i64 (totalP m)) := by
 refine FnP.of Tryz.func100 rfl rfl (by simp) (by simp [AV.cells, aIt, aLn]) (fun G hG => ?_)
 have hN : NoH G.length (.int .i64 (totalP m)) := (by simp [AV.cells, aIt, aLn])
 refine sr fun _ => ?_
 refine mz (sr fun _ => ?_)
 refine mz ?_
 refine AWP.seq (sr fun _ => ?_)
 refine mz ?_
 refine AWP.block ?_
 refine AWP.rounds (fun k => k ≤ m.length) (fun k => [(0, .sl (m.map aLn)), (3, .int .i64 (if okL m = true then sumF (m.take k) else 0)), (4, .int .i64 (k : Int))]) (fun k => []) (fun k => m.length - k) 0 0 (Nat.zero_le _) (by rw [show (if okL m = true then sumF (m.take 0) else 0) = 0 from by split <;> rfl]; repeat (first | exact .nil | refine .cons rfl ?_)) rfl (fun _ => rfl) (fun _ => (by simp [AO.conts, AV.cells, aIt, aLn])) (fun k hI => ?_)
 refine AWP.seq (sr fun _ => ?_)
 refine mv ?_
 refine mv ?_
 refine ρv U82 ?_
 refine ρ2 ?_
 refine mv ?_
 refine ρg ?_
 refine ρr cf137 (fun hg => checkLR_fn m) ?_
 refine ρb ?_
 refine ρ0 ?_
 refine ez ?_
 refine ρp (fun h0 => ?_) (fun h0 => ?_)
 · simp [okLE_ok] at h0
   have hb := sumF_bd h0.2 k (by omega)
   have hq := okL_at h0.2 (k := k) (by omega)
   have hml := okL_len h0.2
   have hif : (if okL m = true then sumF (m.take k) else 0) = sumF (m.take k) := if_pos h0.2
   refine AWP.skip (thenA_n ?_)
   refine AWP.seq (AWP.block ?_)
   refine AWP.region (fun _ => ?_)
   refine mv ?_
   refine mv ?_
   refine mv ?_
   refine ρf U82 sz127 ?_
   refine ρ4 U127 sz3 ?_
   refine ρ7 U3 ?_
   refine ρa ?_
   refine ma ?_
   refine ⟨_, _, rfl, hG, ?_⟩
   refine blockA_n (thenA_n ?_)
   refine AWP.region (fun _ => ?_)
   refine mv ?_
   refine ρa ?_
   refine ma ?_
   refine ⟨_, _, rfl, hG, ?_⟩
   refine thenA_n ⟨rfl, k + 1, _, ?_, ?_, rfl, ?_⟩
   · omega
   · rw [if_pos h0.2, if_pos h0.2, sumF_at m k (by omega)]
     repeat (first | exact .nil | refine .cons rfl ?_)
   omega
 simp [okLE_ok] at h0
 refine AWP.exit ?_
 refine thenA_x ?_
 refine thenA_x ?_
 refine blockA_h ?_
 refine thenA_n (sr fun _ => ?_)
 refine mv ?_
 refine mz ?_
 refine AWP.ret ?_
 refine ρi ?_
 unfold totalP
 by_cases hm : okL m = true
 · rw [if_pos hm, if_pos hm, List.take_of_length_le (by
     by_cases e : k < m.length
     · rw [h0 e] at hm; cases hm
     · omega)]
 rw [if_neg hm, if_neg hm]
theorem goesM_1 (l : List It) (id q : Int) : goesM l id q 1 = holdF l id q := if_pos rfl
theorem goesLR_fn (l : List It) (m : List Ln) (hl : l.length ≤ 1000) : FnP Tryz.prog 99 [.sl (l.map aIt), .sl (m.map aLn), .int .i64 1] (.tup [.sl ((allP holdF l m).1.map aIt), .int .i64 (allP holdF l m).2.1, .int .i64 (allP holdF l m).2.2]) := by
 refine FnP.of Tryz.func99 rfl rfl (by simp) (by simp [AV.cells, aIt, aLn]) (fun G hG => ?_)
 have hN : NoH G.length (.tup [.sl ((allP holdF l m).1.map aIt), .int .i64 (allP holdF l m).2.1, .int .i64 (allP holdF l m).2.2]) := (by simp [AV.cells, aIt, aLn])
 refine sr fun _ => ?_
 refine ma ?_
 refine ma ?_
 refine mz ?_
 refine AWP.seq (sr fun _ => ?_)
 refine mv ?_
 refine ρm cf46 (fun hg => checkR_fn l) ?_
 refine ρ2 ?_
 refine mv ?_
 refine ρg ?_
 refine ρr cf137 (fun hg => checkLR_fn m) ?_
 refine ρb ?_
 refine ρ3 ?_
 refine ez ?_
 refine ρp (fun h0 => ?_) (fun h0 => ?_)
 · simp [okE_ok, okLE_ok] at h0
   refine sr fun _ => ?_
   refine ma ?_
   refine ma ?_
   refine mz ?_
   refine AWP.ret (thenA_r ?_)
   refine ρj (rs := [.tmp 6, .tmp 7, .tmp 8]) (.cons (.tmp rfl) (.cons (.tmp rfl) (.cons (.tmp rfl) .nil))) ?_
   rw [allP_no (by rintro ⟨a, b⟩; rw [a, b] at h0; simp at h0)]; rfl
 simp [okE_ok, okLE_ok] at h0
 have hml := okL_len h0.2
 have hdef := allP_yes (fn := holdF) h0
 refine AWP.skip (thenA_n (AWP.seq (sr fun _ => ?_)))
 refine mz ?_
 refine AWP.block ?_
 refine AWP.rounds (fun s => s.1 ≤ m.length ∧ s.2.length ≤ 1000 ∧ goesP holdF 0 l m = goesP holdF s.1 s.2 (m.drop s.1)) (fun s => [(0, .sl (s.2.map aIt)), (1, .sl (m.map aLn)), (2, .int .i64 1), (9, .int .i64 (s.1 : Int))]) (fun s => []) (fun s => m.length - s.1) 0 ((0, l) : Nat × List It) ⟨by omega, hl, rfl⟩ (by repeat (first | exact .nil | refine .cons rfl ?_)) rfl (fun _ => rfl) (fun _ => (by simp [AO.conts, AV.cells, aIt, aLn])) (fun s hI => ?_)
 obtain ⟨k, cur⟩ := s
 dsimp only at hI
 show AWP _ _ _ _ _ [(0, .sl (cur.map aIt)), (1, .sl (m.map aLn)), (2, .int .i64 1), (9, .int .i64 (k : Int))] _ []
 obtain ⟨hk, hc, hg2⟩ := hI
 have hhl := hold_len cur (m.getD k default).item (m.getD k default).qty
 refine AWP.seq (sr fun _ => ?_)
 refine mv ?_
 refine mv ?_
 refine ρv U82 ?_
 refine ρ2 ?_
 refine ez ?_
 refine ρp (fun h1 => ?_) (fun h1 => ?_)
 · try simp [-List.getD_eq_getElem?_getD] at h1
   refine AWP.skip (thenA_n ?_)
   refine AWP.seq (AWP.block (AWP.seq ?_))
   refine ρE mixed (fun _ => ?_)
   refine mv ?_
   refine mv ?_
   refine mv ?_
   refine ρf U82 sz127 ?_
   refine ρ4 U127 sz3 ?_
   refine ρ7 U3 ?_
   refine mv ?_
   refine mv ?_
   refine ρf U82 sz127 ?_
   refine ρ4 U127 sz3 ?_
   refine ρ7 U3 ?_
   refine mv ?_
   refine ARun.call rfl rfl rfl rfl cf96 (ep rfl) (.cons (ep rfl) (.cons (ep rfl) (.cons (ep rfl) (.cons (ep rfl) .nil)))) rfl (fun hg => goesR_fn cur (m.getD k default).item (m.getD k default).qty 1 hc) optN ?_
   refine mv ?_
   refine ρ9 ?_
   refine ρ9 ?_
   refine ma ?_
   refine ma ?_
   refine ⟨by kernel_rfl, _, _, rfl, hG, ?_⟩
   refine thenA_n (AWP.seq ?_)
   refine sr fun _ => ?_
   refine mv ?_
   refine ρ2 ?_
   refine ez ?_
   refine ρp (fun h2 => ?_) (fun h2 => ?_)
   · simp only [goesM_1] at h2
     simp [-List.getD_eq_getElem?_getD] at h2
     rw [goes_step (by omega), if_pos h2] at hg2
     refine sr fun _ => ?_
     refine mv ?_
     refine mv ?_
     refine ma ?_
     refine ma ?_
     refine mz ?_
     refine AWP.ret (thenA_r ?_)
     refine blockA_r (thenA_r ?_)
     refine thenA_r (blockA_r (thenA_r ?_))
     refine ρj (rs := [.tmp 6, .tmp 7, .tmp 8]) (.cons (.tmp rfl) (.cons (.tmp rfl) (.cons (.tmp rfl) .nil))) ?_
     rw [hdef, hg2]; rfl
   simp only [goesM_1] at h2
   simp [-List.getD_eq_getElem?_getD] at h2
   rw [goes_step (by omega), if_neg (by rw [h2]; simp)] at hg2
   refine AWP.skip (thenA_n ?_)
   refine AWP.region (fun _ => ?_)
   refine mv ?_
   refine ma ?_
   refine ⟨_, _, rfl, hG, ?_⟩
   refine blockA_n (thenA_n ?_)
   refine AWP.region (fun _ => ?_)
   refine mv ?_
   refine ρa ?_
   refine ma ?_
   refine ⟨_, _, rfl, hG, ?_⟩
   refine thenA_n ⟨rfl, (k + 1, (holdF cur (m.getD k default).item (m.getD k default).qty).1), _, ?_, ?_, rfl, ?_⟩
   · exact ⟨by dsimp only; omega, by dsimp only; omega, hg2⟩
   · rw [← goesM_1]
     repeat (first | exact .nil | refine .cons rfl ?_)
   dsimp only; omega
 simp at h1
 obtain rfl : k = m.length := by omega
 rw [goes_end] at hg2
 refine AWP.exit ?_
 refine thenA_x ?_
 refine thenA_x ?_
 refine blockA_h ?_
 refine thenA_n (sr fun _ => ?_)
 refine mv ?_
 refine mv ?_
 refine ρv U82 ?_
 refine ma ?_
 refine ma ?_
 refine mz ?_
 refine AWP.ret ?_
 refine ρj (rs := [.tmp 6, .tmp 7, .tmp 8]) (.cons (.tmp rfl) (.cons (.tmp rfl) (.cons (.tmp rfl) .nil))) ?_
 rw [hdef, hg2, List.length_map]; rfl

end Go.Proofs.YtcndnllmlhhjiaaGreatDoor.Stk
