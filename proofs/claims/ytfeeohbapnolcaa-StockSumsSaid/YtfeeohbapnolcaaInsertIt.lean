/- slices.Insert of one value, at api.Item. -/
import Derived.Test.YtfeeohbapnolcaaAmMore
import Derived.Test.YtfeeohbapnolcaaRows
import Derived.Lib.Overlaps
import Derived.Lib.AppendZerosOnto
import Derived.Lib.SliceRun
import Derived.Laws.Externs
import Derived.Deep.RegionLaw
import Derived.Outline
namespace Go.Proofs.Ytfeeohbapnolcaa
set_option linter.unusedVariables false
set_option linter.unusedSimpArgs false
open Go.ChangeShapes Go.WideShapes Go.ChangeAt Go.RowKit
set_option maxRecDepth 100000
theorem copy_run_eq {P : Program} (w : World) {o : Oper} {a : Act} {K : Act → World → Prop} {Q : Exit → Act → World → Prop} (d s : Operand) (t t' : TypeId)
    (ho : o.op = .call { callee := .builtin .copy, args := #[d, s], argTypes := #[t, t'] }) (v u : Value) (hd : a.eval d = v) (hs : a.eval s = u) {v' : Value} {w' : World}
    (hr : (Builtin.copy_ #[t, t'] o.type #[v, u]).run P w = .ok v' w') (h : K (a.put o.dst v') w') : o.wp P a w K Q := by
  unfold Oper.wp execOp
  simp only [ho, resolve, invoke, builtin, Sem.run_bind, Sem.run_pure, Result.andThen_ok, List.map_toArray, List.map_cons, List.map_nil, hd, hs, hr]
  exact h
theorem wpList_copy_eq {P : Program} (w : World) {ops : Array Oper} {rest : List Oper} {o : Oper} {a : Act} {Q : Exit → Act → World → Prop} (hgd : o.guard = none) (d s : Operand) (t t' : TypeId)
    (ho : o.op = .call { callee := .builtin .copy, args := #[d, s], argTypes := #[t, t'] }) (v u : Value) (hd : a.eval d = v) (hs : a.eval s = u) {v' : Value} {w' : World}
    (hr : (Builtin.copy_ #[t, t'] o.type #[v, u]).run P w = .ok v' w') (h : wpList P ops Q rest (a.put o.dst v') w') : wpList P ops Q (o :: rest) a w :=
  wpList_plain hgd fun _ hK => copy_run_eq w d s t t' ho v u hd hs hr (hK _ _ h)
theorem wpList_append_eq {P : Program} (w : World) {ops : Array Oper} {rest : List Oper} {o : Oper} {a : Act} {Q : Exit → Act → World → Prop} (hgd : o.guard = none) (d s : Operand) (t t' : TypeId)
    (ho : o.op = .call { callee := .builtin .append, args := #[d, s], argTypes := #[t, t'] }) (v u : Value) (hd : a.eval d = v) (hs : a.eval s = u) {v' : Value} {w' : World}
    (hr : (Builtin.append_ #[t, t'] o.type #[v, u]).run P w = .ok v' w') (h : wpList P ops Q rest (a.put o.dst v') w') : wpList P ops Q (o :: rest) a w := by
  refine wpList_plain hgd fun _ hK => ?_
  unfold Oper.wp execOp
  simp only [ho, resolve, invoke, builtin, Sem.run_bind, Sem.run_pure, Result.andThen_ok, List.map_toArray, List.map_cons, List.map_nil, hd, hs, hr]
  exact hK _ _ h
theorem step_copy_eq {P : Program} {ops : Array Oper} {o : Oper} {a : Act} {w : World} {K : Act → World → Prop} {Q : Exit → Act → World → Prop} {E : Prop}
    (hg : o.guard = none) (d x : Operand) (dT sT : TypeId) (hop : o.op = Op.call { callee := Callee.builtin Builtin.copy, args := #[d, x], argTypes := #[dT, sT] })
    (v u : Value) (hd : a.eval d = v) (hx : a.eval x = u) {v' : Value} {w' : World} (hr : (Builtin.copy_ #[dT, sT] o.type #[v, u]).run P w = .ok v' w') (hK : K (a.put o.dst v') w') :
    if Region.wanted o (yielded ops a.tmps) = true then Oper.wp P o a w K Q else E := by
  have hw : Region.wanted o (yielded ops a.tmps) = true := by simp [Region.wanted, hg]
  rw [if_pos hw]
  exact copy_run_eq w d x dT sT hop v u hd hx hr hK
/-- copy into a row: the whole row behind it -/
theorem run_copy_row {P : Program} (w : World) (dT sT ty elem : TypeId) (sz b o dLen dCap : Nat) (cur : Array Value) (T : TypeId) (a : Addr) (sLen sCap : Nat) (cs : List Value) (q : Nat)
    (hu : P.underlying dT = some (.slice elem)) (hs : Sz P elem sz) (hq : Nat.min sLen dLen = q) (hn : cs.length = q * sz) (hb : w.heap[b]? = some (.cells cur T (0, 0)))
    (hsrc : ∀ j v, cs[j]? = some v → w.cell? (a.add j) = some v) (hfit : o + cs.length ≤ cur.size) (h1 : ∀ v ∈ cs, v.oneCell' = true) :
    (Builtin.copy_ #[dT, sT] ty #[.slice (some ⟨b, o, none⟩) dLen dCap, .slice (some a) sLen sCap]).run P w = .ok (goInt q) (w.setRow b (cur.toList.take o ++ cs ++ cur.toList.drop (o + cs.length)).toArray) := by
  subst hq
  have hf := run_firstCells_some (P := P) w sz (Nat.min sLen dLen) a sLen sCap cs hn hsrc
  have hst := run_storeCells_at P b o T cs 0 cur w hb (by simpa using hfit) h1
  rw [Nat.add_zero] at hst
  simp [Builtin.copy_, run_underlying hu, Builtin.lenOf, hs.run, hf, hst]
theorem rowL {w : World} {b : Nat} {cur : Array Value} {T : TypeId} (h : w.heap[b]? = some (.cells cur T (0, 0))) (j : Nat) : w.cell? ⟨b, j, none⟩ = cur[j]? := by simp [World.cell?, h]
set_option maxHeartbeats 4000000 in
theorem insertIt_end (w : World) (v v2 : Value) (n : Nat) (us X : List Value) (hown : w.ownsRow 0 34 4 v n us) (ho2 : w.ownsRow 0 34 4 v2 1 X) (h1X : ∀ u ∈ X, u.oneCell' = true) (hn : n + 1 ≤ 1000000) :
    Calls Try.prog 27 #[v, .int .i64 n, v2] w fun e w' => ∃ v', e = .returned v' ∧ w'.ownsRow 0 34 4 v' (n + 1) (us ++ X) ∧ w.grownBy w' v.ownBlock ∧ (v'.ownBlock = v.ownBlock ∨ v'.ownBlock = some w.heap.size) := by
  obtain ⟨i0, hi, hz0, hz1, hz2⟩ : ∃ i0, Try.prog.info? 34 = some i0 ∧ i0.zero = some (.agg #[.int .i64 0, .int .i64 0, .int .i64 0, .int .i64 0]) ∧ i0.size = 4 ∧ i0.bytes = 32 := by
    have hT : Ti Try.prog 34 (.agg #[.int .i64 0, .int .i64 0, .int .i64 0, .int .i64 0]) 4 32 := by unfold Ti; kernel_rfl
    unfold Ti at hT
    cases hi : Try.prog.info? 34 with
    | none => rw [hi] at hT; cases hT
    | some i => rw [hi] at hT; simp at hT; exact ⟨i, rfl, hT⟩
  rcases ho2.2 with ⟨_, h0⟩ | ⟨vb, vc, vcur, rfl, _, hvg, hvnc, hvcm, hvcs, hvt⟩
  · omega
  have hXl : X.length = 1 * 4 := ho2.1
  have hXc : ∀ j u, X[j]? = some u → w.cell? ((⟨vb, 0, none⟩ : Addr).add j) = some u := ho2.cells rfl
  have HOWN := Lib.hid hown
  have HV : ∃ sa sc, v = .slice sa n sc ∧ n ≤ sc ∧ sc ≤ maxLen := by
    rcases hown.2 with ⟨rfl, rfl⟩ | ⟨g, cap, cur, rfl, _, _, h1, h2, _⟩
    · exact ⟨none, 0, rfl, Nat.le_refl _, Nat.zero_le _⟩
    · exact ⟨_, cap, rfl, h1, h2⟩
  obtain ⟨sa, sc, rfl, hsc, hscm⟩ := HV
  unfold maxLen at hscm
  have H2 := Lib.hid (And.intro hXl hXc)
  have H3 := Lib.hid h1X
  clear hown ho2 hvg hvt hXl hXc h1X
  by_cases hcn : sc = n
  · obtain rfl : n = sc := hcn.symm
    go_enter Try.func27, Try.ntmps27
    go_wp2_with (at_builtin; refine wpList_append_own_at _ rfl _ _ 22 rfl 0 34 i0 (.agg #[.int .i64 0, .int .i64 0, .int .i64 0, .int .i64 0]) 4 32 Try.underlying22 hi hz0 hz1 hz2 rfl (by decide) _ n us rfl HOWN.out ⟨vb, 0, none⟩ 1 vc X rfl H2.out.1 H2.out.2 H3.out ?c3 ?c4 (Nat.zero_le _) ?_)
    case c3 => unfold maxLen; omega
    case c4 => omega
    intro v' w' hown' hgrow _ hblk
    have HF := Lib.hid (And.intro hown' (And.intro hgrow hblk))
    clear hown' hgrow hblk
    go_wp2_with fail
    go_ret
    exact ⟨_, rfl, HF.out.1, HF.out.2.1, HF.out.2.2⟩
  · have hcn' : ¬ n = sc := fun e => hcn e.symm
    go_enter Try.func27, Try.ntmps27
    go_wp2_with (at_builtin; refine wpList_append_own_at _ rfl _ _ 22 rfl 0 34 i0 (.agg #[.int .i64 0, .int .i64 0, .int .i64 0, .int .i64 0]) 4 32 Try.underlying22 hi hz0 hz1 hz2 rfl (by decide) _ n us rfl HOWN.out ⟨vb, 0, none⟩ 1 vc X rfl H2.out.1 H2.out.2 H3.out ?c3 ?c4 (Nat.zero_le _) ?_)
    case c3 => unfold maxLen; omega
    case c4 => omega
    intro v' w' hown' hgrow _ hblk
    have HF := Lib.hid (And.intro hown' (And.intro hgrow hblk))
    clear hown' hgrow hblk
    go_wp2_with fail
    go_ret
    exact ⟨_, rfl, HF.out.1, HF.out.2.1, HF.out.2.2⟩
/-- a row with one more element in its midst -/
def midRow (cur : List Value) (X : List Value) (a n1 z : Nat) : List Value :=
  let R1 := cur.take (a + z) ++ (cur.drop a).take (n1 - a) ++ cur.drop (a + z + (n1 - a))
  R1.take a ++ X ++ R1.drop (a + z)
theorem midRow_take (cur X : List Value) (a n1 z : Nat) (ha : a ≤ n1) (hX : X.length = z) (hc : n1 + z ≤ cur.length) : (midRow cur X a n1 z).take (n1 + z) = cur.take a ++ X ++ (cur.take n1).drop a ∧ (midRow cur X a n1 z).length = cur.length := by
  unfold midRow
  simp only
  have e1 : (cur.take (a + z) ++ (cur.drop a).take (n1 - a) ++ cur.drop (a + z + (n1 - a))).take a = cur.take a := by
    rw [List.append_assoc, List.take_append_of_le_length (by simp; omega), List.take_take]; congr 1; omega
  have e2 : (cur.take (a + z) ++ (cur.drop a).take (n1 - a) ++ cur.drop (a + z + (n1 - a))).drop (a + z) = (cur.drop a).take (n1 - a) ++ cur.drop (a + z + (n1 - a)) := by
    rw [List.append_assoc, List.drop_append_of_le_length (by simp; omega), List.drop_eq_nil_of_le (by simp; omega), List.nil_append]
  rw [e1, e2]
  constructor
  · rw [← List.append_assoc, List.take_append_of_le_length (by simp; omega), List.take_of_length_le (by simp; omega), List.drop_take]
  · simp; omega
set_option maxHeartbeats 8000000 in
theorem insertIt_shift (w : World) (b n c k : Nat) (cur : Array Value) (vb vc : Nat) (vcur : Array Value) (X : List Value) (hb : w.heap[b]? = some (.cells cur 34 (0, 0))) (hcur : cur.size = c * 4) (hk : k < n) (hroom : n + 1 ≤ c) (hc63 : c ≤ 9223372036854775807)
    (hv : w.heap[vb]? = some (.cells vcur 34 (0, 0))) (hne : vb ≠ b) (hX : X.length = 4) (hXc : ∀ (j : Nat) (u : Value), X[j]? = some u → vcur[j]? = some u) (h1X : ∀ u ∈ X, u.oneCell' = true) (h1c : ∀ u ∈ cur.toList.take (n * 4), u.oneCell' = true) (hc0 : 0 < vcur.size) :
    Calls Try.prog 27 #[.slice (some ⟨b, 0, none⟩) n c, .int .i64 k, .slice (some ⟨vb, 0, none⟩) 1 vc] w fun e w' => e = .returned (.slice (some ⟨b, 0, none⟩) (n + 1) c) ∧ w'.heap[b]? = some (.cells (midRow cur.toList X (k * 4) (n * 4) 4).toArray 34 (0, 0)) ∧ w.grownBy w' (some b) := by
  have hov : ∀ o lb cb, (callFunc 39 #[.slice (some ⟨vb, 0, none⟩) 1 vc, .slice (some ⟨b, o, none⟩) lb cb]).run Try.prog w = .ok (.value (.bool false)) w := fun o lb cb => by
    rw [run_callFunc_extern Try.func39 (by kernel_rfl) (by kernel_rfl) (by kernel_rfl) (e := Extern.SlicesOverlaps.overlaps #[22, 22] #[4]) (by kernel_rfl),
      Lib.run_overlaps_apart w 22 4 34 Try.underlying22 4 (fun w => Sz.run (by unfold Sz; kernel_rfl) w) ⟨vb, 0, none⟩ ⟨b, o, none⟩ 1 vc lb cb hne 34 34 vcur.size cur.size (by simp [World.shape?, hv]) (by simp [World.shape?, hb]) (by omega) (by simp [World.frozen?, hv]) (by simp [World.frozen?, hv])]
    rfl
  have hsz : Sz Try.prog 34 4 := by unfold Sz; kernel_rfl
  have hz2 : ((k : Int) == (n : Int)) = false := by simp; omega
  have hz3 : decide ((c : Int) < (n : Int) + 1) = false := by simp; omega
  have hb4 : ¬ (c = k) := by omega
  have hb2 : ¬ (c = k + 1) := by omega
  have hkc : k ≤ c := by omega
  have hk1 : IntKind.i64.wrap ((k : Int) + 1) = (k : Int) + 1 := IntWalk.i64_in _ (by omega)
  have hk2 : (0 : Int) ≤ (k : Int) + 1 := by omega
  have hk3 : ((k : Int) + 1).toNat = k + 1 := by omega
  have hk4 : (k : Int) + 1 ≤ (n : Int) + 1 := by omega
  have hk5 : (k : Int) ≤ (n : Int) + 1 := by omega
  have hk6 : (n : Int) + 1 ≤ (c : Int) := by omega
  have hd : ((cur.toList.drop (k * 4)).take (n * 4 - k * 4)).length = (n - k) * 4 := by simp [hcur]; omega
  have HB := Lib.hid hb
  have HV := Lib.hid hv
  have H1 := Lib.hid h1c
  have HX := Lib.hid hXc
  clear hb hv h1c hXc
  go_enter Try.func27, Try.ntmps27
  go_wp2_with (simp only [hov])
  (apply rg_region_tail 8 (by kernel_rfl) (by kernel_rfl) (by kernel_rfl); intro env)
  (apply rg_det rfl; (intro W K hW _ hK; obtain ⟨hc, hf⟩ := bcell hW; go_simp; first | (rw [IntWalk.i64_in]; (exact hK _ (Below.refl _ _)); omega) | exact hK _ (Below.refl _ _)); rfl)
  repeat (apply rg_det rfl; (intro W K hW _ hK; obtain ⟨hc, hf⟩ := bcell hW; go_simp; first | (rw [IntWalk.i64_in]; (exact hK _ (Below.refl _ _)); omega) | exact hK _ (Below.refl _ _)); rfl)
  (apply rg_tail; rfl; (simp only [List.drop_succ_cons, List.drop_zero]; rfl); intro W hW hF)
  have hWb : W.heap[b]? = some (.cells cur 34 (0, 0)) := (hW.block b (Array.getElem?_eq_some_iff.1 HB.out).1).trans HB.out
  have hWv : W.heap[vb]? = some (.cells vcur 34 (0, 0)) := (hW.block vb (Array.getElem?_eq_some_iff.1 HV.out).1).trans HV.out
  have hcp1 := run_copy_row (P := Try.prog) W 22 22 3 34 4 b ((k + 1) * 4) (n - k) (c - (k + 1)) cur 34 ⟨b, k * 4, none⟩ (n + 1 - k) (c - k) ((cur.toList.drop (k * 4)).take (n * 4 - k * 4)) (n - k) Try.underlying22 hsz (by simp only [Nat.min_def]; split <;> omega) hd hWb
    (fun j u hj => by
      rw [aadd, rowL hWb]
      rw [List.getElem?_take] at hj
      split at hj
      · rw [List.getElem?_drop, Array.getElem?_toList] at hj; exact hj
      · cases hj) (by rw [hd, hcur]; omega) (fun u hu => H1.out u (by
      obtain ⟨q, hq, rfl⟩ := List.mem_iff_getElem.1 hu
      simp only [List.getElem_take, List.getElem_drop]
      rw [hd] at hq
      refine List.mem_iff_getElem.2 ⟨k * 4 + q, by simp [hcur]; omega, by simp⟩))
  refine wpList_copy_eq W rfl _ _ 22 22 rfl _ _ rfl rfl hcp1 ?_
  have hgr : w.grownBy W (some b) := ⟨hW.os, hW.tape, hW.output, hW.size, fun q hq _ => hW.block q hq⟩
  have hW1b := setRow_heap W b cur (cur.toList.take ((k + 1) * 4) ++ (cur.toList.drop (k * 4)).take (n * 4 - k * 4) ++ cur.toList.drop ((k + 1) * 4 + ((cur.toList.drop (k * 4)).take (n * 4 - k * 4)).length)).toArray 34 (0, 0) hWb
  have hW1v := (setRow_other W b vb (cur.toList.take ((k + 1) * 4) ++ (cur.toList.drop (k * 4)).take (n * 4 - k * 4) ++ cur.toList.drop ((k + 1) * 4 + ((cur.toList.drop (k * 4)).take (n * 4 - k * 4)).length)).toArray hne).trans hWv
  have hgr1 : w.grownBy (W.setRow b (cur.toList.take ((k + 1) * 4) ++ (cur.toList.drop (k * 4)).take (n * 4 - k * 4) ++ cur.toList.drop ((k + 1) * 4 + ((cur.toList.drop (k * 4)).take (n * 4 - k * 4)).length)).toArray) (some b) :=
    ⟨by simp [hgr.os], by simp [hgr.tape], by simp [hgr.output], by simpa using hgr.size, fun q hq hne2 => (setRow_other W b q _ (fun e => hne2 (by rw [e]))).trans (hgr.block q hq hne2)⟩
  have hR1 : (cur.toList.take ((k + 1) * 4) ++ (cur.toList.drop (k * 4)).take (n * 4 - k * 4) ++ cur.toList.drop ((k + 1) * 4 + ((cur.toList.drop (k * 4)).take (n * 4 - k * 4)).length)) = (cur.toList.take (k * 4 + 4) ++ (cur.toList.drop (k * 4)).take (n * 4 - k * 4) ++ cur.toList.drop (k * 4 + 4 + (n * 4 - k * 4))) := by
    rw [hd, Nat.add_mul, Nat.one_mul, Nat.sub_mul]
  rw [hR1] at hW1b hgr1 hW1v ⊢
  have hMid : midRow cur.toList X (k * 4) (n * 4) 4 = (cur.toList.take (k * 4 + 4) ++ (cur.toList.drop (k * 4)).take (n * 4 - k * 4) ++ cur.toList.drop (k * 4 + 4 + (n * 4 - k * 4))).take (k * 4) ++ X ++ (cur.toList.take (k * 4 + 4) ++ (cur.toList.drop (k * 4)).take (n * 4 - k * 4) ++ cur.toList.drop (k * 4 + 4 + (n * 4 - k * 4))).drop (k * 4 + 4) := rfl
  have hRl : (cur.toList.take (k * 4 + 4) ++ (cur.toList.drop (k * 4)).take (n * 4 - k * 4) ++ cur.toList.drop (k * 4 + 4 + (n * 4 - k * 4))).length = c * 4 := by simp [hcur]; omega
  have HM := Lib.hid hMid
  clear hMid
  generalize cur.toList.take (k * 4 + 4) ++ (cur.toList.drop (k * 4)).take (n * 4 - k * 4) ++ cur.toList.drop (k * 4 + 4 + (n * 4 - k * 4)) = R1 at *
  generalize W.setRow b R1.toArray = W1 at *
  clear hcp1 hWb hWv hW hF hgr hR1
  have hcp2 := run_copy_row (P := Try.prog) W1 22 22 3 34 4 b (k * 4) (n + 1 - k) (c - k) R1.toArray 34 ⟨vb, 0, none⟩ 1 vc X 1 Try.underlying22 hsz (by simp only [Nat.min_def]; split <;> omega) (by omega) hW1b
    (fun j u hj => by rw [aadd, Nat.zero_add, rowL hW1v]; exact HX.out j u hj) (by simp [hRl, hX]; omega) h1X
  have hfin := setRow_heap W1 b R1.toArray (R1.take (k * 4) ++ X ++ R1.drop (k * 4 + 4)).toArray 34 (0, 0) hW1b
  have hgr2 : w.grownBy (W1.setRow b (R1.take (k * 4) ++ X ++ R1.drop (k * 4 + 4)).toArray) (some b) :=
    ⟨by simp [hgr1.os], by simp [hgr1.tape], by simp [hgr1.output], by simpa using hgr1.size, fun q hq hne2 => (setRow_other W1 b q _ (fun e => hne2 (by rw [e]))).trans (hgr1.block q hq hne2)⟩
  rw [hX] at hcp2
  have HFIN := Lib.hid (And.intro hfin hgr2)
  have HCP := Lib.hid hcp2
  clear hfin hgr2 hcp2 hgr1 hW1b hW1v
  go_wp2_with (refine wpList_copy_eq W1 rfl _ _ 22 22 rfl _ _ rfl rfl HCP.out ?_)
  go_ret
  have e := HFIN.out
  simp only [List.append_assoc] at e
  exact ⟨rfl, by rw [HM.out]; simp only [List.append_assoc]; exact e.1, e.2⟩
set_option maxHeartbeats 8000000 in
theorem insertIt_grow (w : World) (b n c k : Nat) (cur : Array Value) (vb vc : Nat) (vcur : Array Value) (X : List Value) (hb : w.heap[b]? = some (.cells cur 34 (0, 0))) (hcur : cur.size = c * 4) (hk : k < n) (hnc : n ≤ c) (hroom : c < n + 1) (hn : n + 1 ≤ 1000000)
    (hv : w.heap[vb]? = some (.cells vcur 34 (0, 0))) (hX : X.length = 4) (hXc : ∀ (j : Nat) (u : Value), X[j]? = some u → vcur[j]? = some u) (h1X : ∀ u ∈ X, u.oneCell' = true) (h1c : ∀ u ∈ cur.toList.take (n * 4), u.oneCell' = true) :
    Calls Try.prog 27 #[.slice (some ⟨b, 0, none⟩) n c, .int .i64 k, .slice (some ⟨vb, 0, none⟩) 1 vc] w fun e w' => ∃ (C : Nat) (row : List Value), e = .returned (.slice (some ⟨w.heap.size, 0, none⟩) (n + 1) C) ∧ n + 1 ≤ C ∧ C ≤ maxLen ∧ w'.heap[w.heap.size]? = some (.cells row.toArray 34 (0, 0)) ∧ row.length = C * 4 ∧ row.take ((n + 1) * 4) = cur.toList.take (k * 4) ++ X ++ (cur.toList.take (n * 4)).drop (k * 4) ∧ w.grownBy w' none := by
  obtain rfl : n = c := by omega
  obtain ⟨i0, hi, hz0, hz1, hz2⟩ : ∃ i0, Try.prog.info? 34 = some i0 ∧ i0.zero = some (.agg #[.int .i64 0, .int .i64 0, .int .i64 0, .int .i64 0]) ∧ i0.size = 4 ∧ i0.bytes = 32 := by
    have hT : Ti Try.prog 34 (.agg #[.int .i64 0, .int .i64 0, .int .i64 0, .int .i64 0]) 4 32 := by unfold Ti; kernel_rfl
    unfold Ti at hT
    cases hi : Try.prog.info? 34 with
    | none => rw [hi] at hT; cases hT
    | some i => rw [hi] at hT; simp at hT; exact ⟨i, rfl, hT⟩
  have hsz : Sz Try.prog 34 4 := by unfold Sz; kernel_rfl
  have hbw := (Array.getElem?_eq_some_iff.1 hb).1
  have hvw := (Array.getElem?_eq_some_iff.1 hv).1
  have hold : (Builtin.firstCells i0.size k (.slice (some ⟨b, 0, none⟩) k n)).run Try.prog w.drew = .ok (cur.toList.take (k * 4)).toArray w.drew := by
    rw [hz1]
    exact run_firstCells_some (P := Try.prog) w.drew 4 k ⟨b, 0, none⟩ k n (cur.toList.take (k * 4)) (by rw [List.length_take, Array.length_toList, hcur]; omega) (fun j v hj => by
      rw [aadd, Nat.zero_add]
      show w.cell? _ = _
      rw [rowL hb]
      rw [List.getElem?_take] at hj
      split at hj
      · simpa using hj
      · cases hj)
  have hrz : ∀ ty, (Builtin.append_ #[22, 3] ty #[.slice (some ⟨b, 0, none⟩) k n, .int .i64 ((n : Int) + 1 - (k : Int))]).run Try.prog w =
      .ok (.slice (some ⟨w.heap.size, 0, none⟩) (n + 1) (grownCap w (n + 1) n 34)) (w.drew.alloc (.cells ((cur.toList.take (k * 4)).toArray ++ Builtin.zeroCells (Value.cells (.agg #[.int .i64 0, .int .i64 0, .int .i64 0, .int .i64 0])) (n + 1 - k) ++ Builtin.zeroCells (Value.cells (.agg #[.int .i64 0, .int .i64 0, .int .i64 0, .int .i64 0])) (grownCap w (n + 1) n 34 - (n + 1))) 34)) := fun ty => by
    have h := Lib.run_append_grow_zeros w 22 3 ty 34 i0 _ .i64 .i64 Try.underlying22 Try.underlying3 hi hz0 (some ⟨b, 0, none⟩) k n (cur.toList.take (k * 4)) hold (n + 1 - k) (by omega) (by omega) (by omega) (by omega) (by rw [hz2]; omega) (by rw [hz2, show k + (n + 1 - k) = n + 1 by omega]; exact growslice_fits (by omega) (by omega))
    rw [show k + (n + 1 - k) = n + 1 by omega, show ((n + 1 - k : Nat) : Int) = (n : Int) + 1 - (k : Int) by omega] at h
    exact h
  have hC1 : n + 1 ≤ grownCap w (n + 1) n 34 := grownCap_ge w _ _ _
  have hC2 : grownCap w (n + 1) n 34 ≤ maxLen := grownCap_le_maxLen w (n + 1) n 34 (by unfold maxLen; omega)
  generalize grownCap w (n + 1) n 34 = C at *
  have hRs : ((cur.toList.take (k * 4)).toArray ++ Builtin.zeroCells (Value.cells (.agg #[.int .i64 0, .int .i64 0, .int .i64 0, .int .i64 0])) (n + 1 - k) ++ Builtin.zeroCells (Value.cells (.agg #[.int .i64 0, .int .i64 0, .int .i64 0, .int .i64 0])) (C - (n + 1))).size = C * 4 := by
    simp [Builtin.zeroCells, Value.cells, hcur]; omega
  have hRt : ((cur.toList.take (k * 4)).toArray ++ Builtin.zeroCells (Value.cells (.agg #[.int .i64 0, .int .i64 0, .int .i64 0, .int .i64 0])) (n + 1 - k) ++ Builtin.zeroCells (Value.cells (.agg #[.int .i64 0, .int .i64 0, .int .i64 0, .int .i64 0])) (C - (n + 1))).toList.take (k * 4) = cur.toList.take (k * 4) := by
    simp only [Array.toList_append, List.append_assoc]
    rw [List.take_append_of_le_length (by simp [hcur]; omega), List.take_of_length_le (by simp; omega)]
  generalize (cur.toList.take (k * 4)).toArray ++ Builtin.zeroCells (Value.cells (.agg #[.int .i64 0, .int .i64 0, .int .i64 0, .int .i64 0])) (n + 1 - k) ++ Builtin.zeroCells (Value.cells (.agg #[.int .i64 0, .int .i64 0, .int .i64 0, .int .i64 0])) (C - (n + 1)) = ROW at *
  have hk4 : ((k : Int) == (n : Int)) = false := by simp; omega
  have hk5 : decide ((n : Int) < (n : Int) + 1) = true := by simp; omega
  have hk6 : ¬ (n = k) := by omega
  have hk7 : k ≤ n := by omega
  have hk8 : ¬ (C = k) := by omega
  have hk9 : ¬ (C = k + 1) := by omega
  obtain ⟨W1, hW1⟩ : ∃ W1, W1 = w.drew.alloc (.cells ROW 34) := ⟨_, rfl⟩
  rw [← hW1] at hrz
  have hW1n : W1.heap[w.heap.size]? = some (.cells ROW 34 (0, 0)) := by rw [hW1]; exact heap_alloc_new w.drew _
  have hW1o : ∀ q, q < w.heap.size → W1.heap[q]? = w.heap[q]? := fun q hq => by rw [hW1]; exact heap_alloc_old w.drew _ hq
  have hg1 : w.grownBy W1 none := by rw [hW1]; exact ⟨rfl, rfl, rfl, by simp, fun q hq _ => heap_alloc_old w.drew _ hq⟩
  have hs1 : W1.heap.size = w.heap.size + 1 := by rw [hW1]; simp
  have hcpA := fun ty => run_copy_row (P := Try.prog) W1 22 22 ty 34 4 w.heap.size (k * 4) (n + 1 - k) (C - k) ROW 34 ⟨vb, 0, none⟩ 1 vc X 1 Try.underlying22 hsz (by simp only [Nat.min_def]; split <;> omega) (by omega) hW1n
    (fun j u hj => by rw [aadd, Nat.zero_add, rowL ((hW1o vb hvw).trans hv)]; exact hXc j u hj) (by rw [hRs, hX]; omega) h1X
  rw [hX] at hcpA
  have hRl : ROW.toList.length = C * 4 := by simpa using hRs
  obtain ⟨R1, hR1⟩ : ∃ R1, R1 = ROW.toList.take (k * 4) ++ X ++ ROW.toList.drop (k * 4 + 4) := ⟨_, rfl⟩
  rw [← hR1] at hcpA
  have hR1l : R1.length = C * 4 := by rw [hR1]; simp [hRs, hX]; omega
  have hR1t : R1.take (k * 4 + 4) = cur.toList.take (k * 4) ++ X := by
    rw [hR1, List.take_append_of_le_length (by simp [hRs, hX]; omega), List.take_of_length_le (by simp [hX]; omega), hRt]
  obtain ⟨W2, hW2⟩ : ∃ W2, W2 = W1.setRow w.heap.size R1.toArray := ⟨_, rfl⟩
  rw [← hW2] at hcpA
  have hW2n : W2.heap[w.heap.size]? = some (.cells R1.toArray 34 (0, 0)) := by rw [hW2]; exact setRow_heap W1 _ ROW _ 34 (0, 0) hW1n
  have hW2o : ∀ q, q < w.heap.size → W2.heap[q]? = w.heap[q]? := fun q hq => by rw [hW2]; exact (setRow_other W1 _ q _ (by omega)).trans (hW1o q hq)
  have hg2 : w.grownBy W2 none := by rw [hW2]; exact ⟨by simp [hg1.os], by simp [hg1.tape], by simp [hg1.output], by simpa using hg1.size, fun q hq h => (setRow_other W1 _ q _ (by omega)).trans (hg1.block q hq h)⟩
  have hs2 : W2.heap.size = w.heap.size + 1 := by rw [hW2]; simpa using hs1
  have hd : ((cur.toList.drop (k * 4)).take (n * 4 - k * 4)).length = (n - k) * 4 := by simp [hcur]; omega
  have HRZ := Lib.hid hrz
  have HCPA := Lib.hid hcpA
  have HB := Lib.hid (And.intro hb hv)
  have H1 := Lib.hid h1c
  have HC := Lib.hid (And.intro hC1 hC2)
  have HR := Lib.hid (And.intro hR1l hR1t)
  have HW := Lib.hid (And.intro hW2n (And.intro hW2o hg2))
  have HS2 := Lib.hid hs2
  have HD := Lib.hid hd
  have HCUR := Lib.hid hcur
  have hCb : C ≤ 9223372036854775807 := by unfold maxLen at hC2; omega
  have hCk : k + 1 ≤ C := by omega
  have hCn : (n : Int) + 1 ≤ (C : Int) := by omega
  have hk1 : IntKind.i64.wrap ((k : Int) + 1) = (k : Int) + 1 := IntWalk.i64_in _ (by omega)
  have hk2 : (0 : Int) ≤ (k : Int) + 1 := by omega
  have hk3 : ((k : Int) + 1).toNat = k + 1 := by omega
  have hkb : (k : Int) + 1 ≤ (n : Int) + 1 := by omega
  have hkn : (k : Int) ≤ (n : Int) := by omega
  clear hb hv h1c hXc h1X hold hrz hC1 hC2 hRs hRt hi hz0 hz1 hz2 i0 hW1 hW1n hW1o hg1 hs1 hcpA hRl hR1 hR1l hR1t hW2 hW2n hW2o hg2 hs2 hd hcur ROW
  go_enter Try.func27, Try.ntmps27
  go_wp2_with (first | (refine wpList_append_eq w rfl _ _ 22 3 rfl _ _ rfl rfl (HRZ.out _) ?_) | (refine wpList_copy_eq W1 rfl _ _ 22 22 rfl _ _ rfl rfl (HCPA.out _) ?_))
  (apply rg_region_tail 8 (by kernel_rfl) (by kernel_rfl) (by kernel_rfl); intro env)
  repeat (apply rg_det rfl; (intro W K hW _ hK; obtain ⟨hc, hf⟩ := bcell hW; go_simp; first | (rw [IntWalk.i64_in]; (exact hK _ (Below.refl _ _)); omega) | exact hK _ (Below.refl _ _)); rfl)
  (apply rg_tail; rfl; (simp only [List.drop_succ_cons, List.drop_zero]; rfl); intro W hW hF)
  have hcur := HCUR.out
  have hd := HD.out
  have hWn : W.heap[w.heap.size]? = some (.cells R1.toArray 34 (0, 0)) := (hW.block _ (by rw [HS2.out]; omega)).trans HW.out.1
  have hWb : W.heap[b]? = some (.cells cur 34 (0, 0)) := (hW.block b (by rw [HS2.out]; omega)).trans ((HW.out.2.1 b hbw).trans HB.out.1)
  have hcpB := run_copy_row (P := Try.prog) W 22 22 3 34 4 w.heap.size ((k + 1) * 4) (n - k) (C - (k + 1)) R1.toArray 34 ⟨b, k * 4, none⟩ (n - k) (n - k) ((cur.toList.drop (k * 4)).take (n * 4 - k * 4)) (n - k) Try.underlying22 hsz (by simp) hd hWn
    (fun j u hj => by
      rw [aadd, rowL hWb]
      rw [List.getElem?_take] at hj
      split at hj
      · rw [List.getElem?_drop, Array.getElem?_toList] at hj; exact hj
      · cases hj) (by have := HR.out.1; rw [hd]; simp [this]; omega) (fun u hu => H1.out u (by
      obtain ⟨q, hq, rfl⟩ := List.mem_iff_getElem.1 hu
      simp only [List.getElem_take, List.getElem_drop]
      rw [hd] at hq
      refine List.mem_iff_getElem.2 ⟨k * 4 + q, by simp [hcur]; omega, by simp⟩))
  rw [hd] at hcpB
  obtain ⟨R2, hR2⟩ : ∃ R2, R2 = R1.toArray.toList.take ((k + 1) * 4) ++ (cur.toList.drop (k * 4)).take (n * 4 - k * 4) ++ R1.toArray.toList.drop ((k + 1) * 4 + (n - k) * 4) := ⟨_, rfl⟩
  rw [← hR2] at hcpB
  have hfin := setRow_heap W w.heap.size R1.toArray R2.toArray 34 (0, 0) hWn
  have hgr : w.grownBy (W.setRow w.heap.size R2.toArray) none := by
    have h3 := HW.out.2.2
    exact ⟨by simp [hW.os, h3.os], by simp [hW.tape, h3.tape], by simp [hW.output, h3.output], by simpa using Nat.le_trans h3.size hW.size, fun q hq h => (setRow_other W _ q _ (by omega)).trans ((hW.block q (by rw [HS2.out]; omega)).trans (h3.block q hq h))⟩
  have hr2l : R2.length = C * 4 := by rw [hR2]; have := HR.out.1; simp [this, hcur]; omega
  have hr2t : R2.take ((n + 1) * 4) = cur.toList.take (k * 4) ++ X ++ (cur.toList.take (n * 4)).drop (k * 4) := by
    rw [hR2, List.toList_toArray, show (k + 1) * 4 = k * 4 + 4 by omega, HR.out.2, List.take_append_of_le_length (by simp [hcur, hX]; omega), List.take_of_length_le (by simp [hcur, hX]; omega), List.drop_take]
  have HF := Lib.hid (And.intro hfin (And.intro hgr (And.intro hr2l hr2t)))
  clear hfin hgr hr2l hr2t hR2 hWn hWb hW hF hd hcur
  refine wpList_copy_eq W rfl _ _ 22 22 rfl _ _ rfl rfl hcpB ?_
  clear hcpB
  go_wp2_with fail
  go_ret
  exact ⟨C, R2, rfl, HC.out.1, HC.out.2, HF.out.1, HF.out.2.2.1, HF.out.2.2.2, HF.out.2.1⟩
theorem flat_take {z : Nat} : ∀ (xs : List AV) (k : Nat), (∀ x, x ∈ xs → x.cells.length = z) → k ≤ xs.length → (xs.take k).flatMap AV.cells = (xs.flatMap AV.cells).take (k * z) ∧ (xs.drop k).flatMap AV.cells = (xs.flatMap AV.cells).drop (k * z) := by
  intro xs
  induction xs with
  | nil => intro k _ hk; simp
  | cons x xs ih =>
    intro k hz hk
    cases k with
    | zero => simp
    | succ k =>
      have hx := hz x List.mem_cons_self
      obtain ⟨h1, h2⟩ := ih k (fun y hy => hz y (List.mem_cons_of_mem _ hy)) (by simpa using hk)
      rw [List.take_succ_cons, List.drop_succ_cons, List.flatMap_cons, List.flatMap_cons, h1, h2]
      rw [show (k + 1) * z = x.cells.length + k * z by rw [hx, Nat.add_mul]; omega, List.take_length_add_append, List.drop_length_add_append]
      exact ⟨rfl, rfl⟩
theorem insRow_one {β : List Hd} {w : World} {us : List Value} {xs : List AV} (h4 : ∀ (j : Nat) (u : Value) (y : AV), us[j]? = some u → (xs.flatMap AV.cells)[j]? = some y → VRep β w u y) (hl : us.length = (xs.flatMap AV.cells).length) (ho : (xs.all fun x => x.cells.all AV.one) = true) : ∀ u ∈ us, u.oneCell' = true := by
  intro u hu
  obtain ⟨q, hq, rfl⟩ := List.mem_iff_getElem.1 hu
  have hq2 : q < (xs.flatMap AV.cells).length := by omega
  refine (h4 q _ _ (List.getElem?_eq_getElem hq) (List.getElem?_eq_getElem hq2)).one ?_
  obtain ⟨x, hx, hy⟩ := List.mem_flatMap.1 (List.getElem_mem hq2)
  exact List.all_eq_true.1 (List.all_eq_true.1 ho x hx) _ hy
/-- slices.Insert of one value: a slice of the caller's own grows -/
theorem insertIt_fn (xs : List AV) (y : AV) (k : Nat) (hk : k ≤ xs.length) (hl : xs.length + 1 ≤ 1000000) (ho : (xs.all fun x => x.cells.all AV.one) = true) (hoy : y.cells.all AV.one = true) {H : List AO} {i g i2 g2 : Nat}
    {q : Int} (hq : q = (k : Int)) (hi : H[i]? = some (.row g 34 4 xs)) (hi2 : H[i2]? = some (.row g2 34 4 [y])) (hne : i ≠ i2) :
    FnH Try.prog 27 [.own i g, .int .i64 q, .own i2 g2] H (.own i (g + 1)) (H.set i (.row (g + 1) 34 4 (xs.take k ++ [y] ++ xs.drop k))) := by
  subst hq
  intro w β vs hH hv
  obtain ⟨hsz, hvr⟩ := hv
  obtain ⟨v, v1, v2, rfl⟩ : ∃ v v1 v2, vs = #[v, v1, v2] := by
    have h3 : vs.size = 3 := hsz
    exact ⟨vs[0], vs[1], vs[2], Array.ext (by simpa using h3) fun q h1 h2 => by
      have : q = 0 ∨ q = 1 ∨ q = 2 := by simp at h2; omega
      rcases this with rfl | rfl | rfl <;> rfl⟩
  obtain rfl := (hvr 1 v1 _ rfl rfl).int_inv
  obtain ⟨us, e1, e2, e3, e4⟩ := (hvr 0 v _ rfl rfl).own_at hH hi
  obtain ⟨X, f1, f2, f3, f4⟩ := (hvr 2 v2 _ rfl rfl).own_at hH hi2
  have hy : y.cells.length = 4 := f3 y (by simp)
  have hul : us.length = (xs.flatMap AV.cells).length := by rw [e2.1, flat_len' xs e3]
  have hXl : X.length = 4 := by have := f2.1; simpa using this
  have h1us := insRow_one e4 hul ho
  have h1X := insRow_one f4 (by rw [f2.1, flat_len' [y] f3]) (by simpa using hoy)
  have hflat : (xs.take k ++ [y] ++ xs.drop k).flatMap AV.cells = (xs.flatMap AV.cells).take (k * 4) ++ y.cells ++ (xs.flatMap AV.cells).drop (k * 4) := by
    obtain ⟨a1, a2⟩ := flat_take xs k e3 hk
    rw [List.flatMap_append, List.flatMap_append, a1, a2]; simp
  have hzz : ∀ x, x ∈ xs.take k ++ [y] ++ xs.drop k → x.cells.length = 4 := by
    intro x hx
    simp only [List.mem_append, List.mem_singleton] at hx
    rcases hx with (hx | rfl) | hx
    · exact e3 x (List.mem_of_mem_take hx)
    · exact hy
    · exact e3 x (List.mem_of_mem_drop hx)
  have hlen : (xs.take k ++ [y] ++ xs.drop k).length = xs.length + 1 := by simp; omega
  have hkz : k * 4 ≤ us.length := by rw [e2.1]; omega
  have fin : ∀ (v' : Value) (w' : World), w'.ownsRow 0 34 4 v' (xs.length + 1) (us.take (k * 4) ++ X ++ us.drop (k * 4)) → w.grownBy w' v.ownBlock → (v'.ownBlock = v.ownBlock ∨ v'.ownBlock = some w.heap.size) →
      ∃ v β', Ending.returned v' = .returned v ∧ Ext β w β' w' ∧ HRel β' (H.set i (.row (g + 1) 34 4 (xs.take k ++ [y] ++ xs.drop k))) w' ∧ VRep β' w' v (.own i (g + 1)) := by
    intro v' w' q1 q2 q3
    have hlt := (List.getElem?_eq_some_iff.1 e1).1
    have hgrow := hH.grow e1 q2 q3 (o := .row (g + 1) 34 4 (xs.take k ++ [y] ++ xs.drop k)) (fun hx => ⟨rfl, _, by rw [hlen]; exact q1, hzz, fun q u y' p1 p2 => by
      refine VRep.ext hx ?_
      rw [hflat] at p2
      have hfl : (xs.flatMap AV.cells).length = us.length := hul.symm
      by_cases c1 : q < k * 4
      · rw [List.append_assoc, List.getElem?_append_left (by rw [List.length_take]; omega), List.getElem?_take_of_lt c1] at p1
        rw [List.append_assoc, List.getElem?_append_left (by rw [List.length_take]; omega), List.getElem?_take_of_lt c1] at p2
        exact e4 q u y' p1 p2
      · by_cases c2 : q < k * 4 + 4
        · rw [List.append_assoc, List.getElem?_append_right (by rw [List.length_take]; omega), List.length_take, Nat.min_eq_left hkz, List.getElem?_append_left (by rw [hXl]; omega)] at p1
          rw [List.append_assoc, List.getElem?_append_right (by rw [List.length_take]; omega), List.length_take, Nat.min_eq_left (by omega), List.getElem?_append_left (by rw [hy]; omega)] at p2
          exact f4 _ u y' p1 (by simpa using p2)
        · rw [List.getElem?_append_right (by rw [List.length_append, List.length_take, hXl]; omega), List.getElem?_drop, List.length_append, List.length_take, hXl, Nat.min_eq_left hkz] at p1
          rw [List.getElem?_append_right (by rw [List.length_append, List.length_take, hy]; omega), List.getElem?_drop, List.length_append, List.length_take, hy, Nat.min_eq_left (by omega)] at p2
          exact e4 _ u y' p1 p2⟩)
    refine ⟨v', _, rfl, hgrow.1, hgrow.2, .own _ _ _ (by simpa using hlt) (fun u g' hb => ?_) (ownsRow_one q1)⟩
    rw [List.getElem?_set_self hlt] at hb
    cases hb
    exact ⟨Nat.le_refl _, fun _ => rfl⟩
  by_cases hkn : k = xs.length
  · subst hkn
    refine (insertIt_end w v v2 xs.length us X e2 (by simpa using f2) h1X hl).mono ?_
    rintro e w' ⟨v', rfl, q1, q2, q3⟩
    have hull : us.length = xs.length * 4 := e2.1
    exact fin v' w' (by rw [List.take_of_length_le (by omega), List.drop_eq_nil_of_le (by omega), List.append_nil]; exact q1) q2 q3
  · rcases e2.2 with ⟨_, h0⟩ | ⟨b, cap, cur, hvv, _, hg, hnc, hcm, hcs, htk⟩
    · omega
    rcases f2.2 with ⟨_, h0⟩ | ⟨vb, vc, vcur, hvv2, _, hg2, hnc2, hcm2, hcs2, htk2⟩
    · simp at h0
    subst hvv
    subst hvv2
    have hnb : vb ≠ b := fun e => by subst e; exact hH.ap i i2 _ _ vb hne e1 f1 rfl rfl
    have hXc : ∀ (j : Nat) (u : Value), X[j]? = some u → vcur[j]? = some u := by
      intro j u hj
      rw [← htk2, List.getElem?_take] at hj
      split at hj
      · simpa using hj
      · cases hj
    have hc0 : 0 < vcur.size := by simp at hnc2; omega
    have h1c : ∀ u ∈ cur.toList.take (xs.length * 4), u.oneCell' = true := by rw [htk]; exact h1us
    have hulz : us.length = xs.length * 4 := e2.1
    have hmid : cur.toList.take (k * 4) = us.take (k * 4) ∧ (cur.toList.take (xs.length * 4)).drop (k * 4) = us.drop (k * 4) := by
      constructor
      · rw [← htk, List.take_take]; congr 1; omega
      · rw [htk]
    by_cases hroom : xs.length + 1 ≤ cap
    · unfold maxLen at hcm
      refine (insertIt_shift w b xs.length cap k cur vb vc vcur X hg hcs (by omega) hroom hcm hg2 hnb hXl hXc h1X h1c hc0).mono ?_
      rintro e w' ⟨rfl, q1, q2⟩
      have hcl : cur.toList.length = cap * 4 := by simpa using hcs
      obtain ⟨m1, m2⟩ := midRow_take cur.toList X (k * 4) (xs.length * 4) 4 (by omega) hXl (by rw [hcl]; omega)
      rw [hmid.1, hmid.2] at m1
      have hull : us.length = xs.length * 4 := hulz
      exact fin _ w' ⟨by simp [hXl]; omega, .inr ⟨b, cap, _, rfl, Nat.zero_le _, q1, hroom, by unfold maxLen; omega, by simp [m2, hcs], by rw [show (xs.length + 1) * 4 = xs.length * 4 + 4 by omega]; simpa using m1⟩⟩ q2 (.inl rfl)
    · refine (insertIt_grow w b xs.length cap k cur vb vc vcur X hg hcs (by omega) hnc (by omega) hl hg2 hXl hXc h1X h1c).mono ?_
      rintro e w' ⟨C, row, rfl, q1, q2, q3, q4, q5, q6⟩
      rw [hmid.1, hmid.2] at q5
      have hull : us.length = xs.length * 4 := hulz
      exact fin _ w' ⟨by simp [hXl]; omega, .inr ⟨_, C, _, rfl, Nat.zero_le _, q3, q1, q2, by simp [q4], by simpa using q5⟩⟩ ⟨q6.os, q6.tape, q6.output, q6.size, fun q hq h => q6.block q hq (by simp)⟩ (.inr rfl)
/-- slices.Insert of one value that stands in a literal -/
theorem insertIt_lit (xs : List AV) (y : AV) (k : Nat) (hk : k ≤ xs.length) (hl : xs.length + 1 ≤ 1000000) (ho : (xs.all fun x => x.cells.all AV.one) = true) (hoy : y.cells.all AV.one = true) {H : List AO} (hyl : y.cells.all litOk = true) (hyz : y.cells.length = 4) {i g : Nat}
    {q : Int} (hq : q = (k : Int)) (hi : H[i]? = some (.row g 34 4 xs)):
    FnH Try.prog 27 [.own i g, .int .i64 q, .lit 1 34 (y.cells.map litV)] H (.own i (g + 1)) (H.set i (.row (g + 1) 34 4 (xs.take k ++ [y] ++ xs.drop k))) := by
  subst hq
  intro w β vs hH hv
  obtain ⟨hsz, hvr⟩ := hv
  obtain ⟨v, v1, v2, rfl⟩ : ∃ v v1 v2, vs = #[v, v1, v2] := by
    have h3 : vs.size = 3 := hsz
    exact ⟨vs[0], vs[1], vs[2], Array.ext (by simpa using h3) fun q h1 h2 => by
      have : q = 0 ∨ q = 1 ∨ q = 2 := by simp at h2; omega
      rcases this with rfl | rfl | rfl <;> rfl⟩
  obtain rfl := (hvr 1 v1 _ rfl rfl).int_inv
  obtain ⟨us, e1, e2, e3, e4⟩ := (hvr 0 v _ rfl rfl).own_at hH hi
  obtain ⟨b2, rfl, f1, fS, fh⟩ := (hvr 2 v2 _ rfl rfl).lit_inv
  have hy : y.cells.length = 4 := hyz
  obtain ⟨X, hXe⟩ : ∃ X, X = y.cells.map litV := ⟨_, rfl⟩
  rw [← hXe] at fh
  have f2 : w.ownsRow 0 34 4 (.slice (some ⟨b2, 0, none⟩) 1 1) 1 X := ⟨by rw [hXe, List.length_map, hy], .inr ⟨b2, 1, X.toArray, rfl, Nat.zero_le _, fh, Nat.le_refl _, by unfold maxLen; omega, by rw [hXe]; simp [hy], List.take_of_length_le (by rw [hXe]; simp [hy])⟩⟩
  have hlv : ∀ u : AV, litOk u = true → cAV (litV u) = u ∧ (litV u).oneCell' = true := by
    intro u hu
    cases u <;> first | exact ⟨rfl, rfl⟩ | cases hu
  have f4 : ∀ (q : Nat) (u : Value) (y' : AV), X[q]? = some u → y.cells[q]? = some y' → VRep β w u y' := by
    intro q u y' h1 h2
    rw [hXe, List.getElem?_map, h2] at h1
    cases h1
    have h3 := hlv y' (List.all_eq_true.1 hyl _ (List.mem_of_getElem? h2))
    have h4 := cAV_rep β w (litV y')
    rw [h3.1] at h4; exact h4
  have hul : us.length = (xs.flatMap AV.cells).length := by rw [e2.1, flat_len' xs e3]
  have hXl : X.length = 4 := by rw [hXe, List.length_map, hy]
  have h1us := insRow_one e4 hul ho
  have h1X : ∀ u ∈ X, u.oneCell' = true := by
    intro u hu
    rw [hXe] at hu
    obtain ⟨y', hy', rfl⟩ := List.mem_map.1 hu
    exact (hlv y' (List.all_eq_true.1 hyl _ hy')).2
  have hflat : (xs.take k ++ [y] ++ xs.drop k).flatMap AV.cells = (xs.flatMap AV.cells).take (k * 4) ++ y.cells ++ (xs.flatMap AV.cells).drop (k * 4) := by
    obtain ⟨a1, a2⟩ := flat_take xs k e3 hk
    rw [List.flatMap_append, List.flatMap_append, a1, a2]; simp
  have hzz : ∀ x, x ∈ xs.take k ++ [y] ++ xs.drop k → x.cells.length = 4 := by
    intro x hx
    simp only [List.mem_append, List.mem_singleton] at hx
    rcases hx with (hx | rfl) | hx
    · exact e3 x (List.mem_of_mem_take hx)
    · exact hy
    · exact e3 x (List.mem_of_mem_drop hx)
  have hlen : (xs.take k ++ [y] ++ xs.drop k).length = xs.length + 1 := by simp; omega
  have hkz : k * 4 ≤ us.length := by rw [e2.1]; omega
  have fin : ∀ (v' : Value) (w' : World), w'.ownsRow 0 34 4 v' (xs.length + 1) (us.take (k * 4) ++ X ++ us.drop (k * 4)) → w.grownBy w' v.ownBlock → (v'.ownBlock = v.ownBlock ∨ v'.ownBlock = some w.heap.size) →
      ∃ v β', Ending.returned v' = .returned v ∧ Ext β w β' w' ∧ HRel β' (H.set i (.row (g + 1) 34 4 (xs.take k ++ [y] ++ xs.drop k))) w' ∧ VRep β' w' v (.own i (g + 1)) := by
    intro v' w' q1 q2 q3
    have hlt := (List.getElem?_eq_some_iff.1 e1).1
    have hgrow := hH.grow e1 q2 q3 (o := .row (g + 1) 34 4 (xs.take k ++ [y] ++ xs.drop k)) (fun hx => ⟨rfl, _, by rw [hlen]; exact q1, hzz, fun q u y' p1 p2 => by
      refine VRep.ext hx ?_
      rw [hflat] at p2
      have hfl : (xs.flatMap AV.cells).length = us.length := hul.symm
      by_cases c1 : q < k * 4
      · rw [List.append_assoc, List.getElem?_append_left (by rw [List.length_take]; omega), List.getElem?_take_of_lt c1] at p1
        rw [List.append_assoc, List.getElem?_append_left (by rw [List.length_take]; omega), List.getElem?_take_of_lt c1] at p2
        exact e4 q u y' p1 p2
      · by_cases c2 : q < k * 4 + 4
        · rw [List.append_assoc, List.getElem?_append_right (by rw [List.length_take]; omega), List.length_take, Nat.min_eq_left hkz, List.getElem?_append_left (by rw [hXl]; omega)] at p1
          rw [List.append_assoc, List.getElem?_append_right (by rw [List.length_take]; omega), List.length_take, Nat.min_eq_left (by omega), List.getElem?_append_left (by rw [hy]; omega)] at p2
          exact f4 _ u y' p1 p2
        · rw [List.getElem?_append_right (by rw [List.length_append, List.length_take, hXl]; omega), List.getElem?_drop, List.length_append, List.length_take, hXl, Nat.min_eq_left hkz] at p1
          rw [List.getElem?_append_right (by rw [List.length_append, List.length_take, hy]; omega), List.getElem?_drop, List.length_append, List.length_take, hy, Nat.min_eq_left (by omega)] at p2
          exact e4 _ u y' p1 p2⟩)
    refine ⟨v', _, rfl, hgrow.1, hgrow.2, .own _ _ _ (by simpa using hlt) (fun u g' hb => ?_) (ownsRow_one q1)⟩
    rw [List.getElem?_set_self hlt] at hb
    cases hb
    exact ⟨Nat.le_refl _, fun _ => rfl⟩
  by_cases hkn : k = xs.length
  · subst hkn
    refine (insertIt_end w v _ xs.length us X e2 f2 h1X hl).mono ?_
    rintro e w' ⟨v', rfl, q1, q2, q3⟩
    have hull : us.length = xs.length * 4 := e2.1
    exact fin v' w' (by rw [List.take_of_length_le (by omega), List.drop_eq_nil_of_le (by omega), List.append_nil]; exact q1) q2 q3
  · rcases e2.2 with ⟨_, h0⟩ | ⟨b, cap, cur, hvv, _, hg, hnc, hcm, hcs, htk⟩
    · omega
    subst hvv
    obtain ⟨vb, rfl⟩ : ∃ vb, vb = b2 := ⟨_, rfl⟩
    have hg2 := fh
    have hnb : vb ≠ b := fun e => by subst e; exact fS _ (List.mem_of_getElem? e1) rfl
    have hXc : ∀ (j : Nat) (u : Value), X[j]? = some u → X.toArray[j]? = some u := fun j u h => by simpa using h
    have hc0 : 0 < X.toArray.size := by simp [hXl]
    have h1c : ∀ u ∈ cur.toList.take (xs.length * 4), u.oneCell' = true := by rw [htk]; exact h1us
    have hulz : us.length = xs.length * 4 := e2.1
    have hmid : cur.toList.take (k * 4) = us.take (k * 4) ∧ (cur.toList.take (xs.length * 4)).drop (k * 4) = us.drop (k * 4) := by
      constructor
      · rw [← htk, List.take_take]; congr 1; omega
      · rw [htk]
    by_cases hroom : xs.length + 1 ≤ cap
    · unfold maxLen at hcm
      refine (insertIt_shift w b xs.length cap k cur vb 1 X.toArray X hg hcs (by omega) hroom hcm hg2 hnb hXl hXc h1X h1c hc0).mono ?_
      rintro e w' ⟨rfl, q1, q2⟩
      have hcl : cur.toList.length = cap * 4 := by simpa using hcs
      obtain ⟨m1, m2⟩ := midRow_take cur.toList X (k * 4) (xs.length * 4) 4 (by omega) hXl (by rw [hcl]; omega)
      rw [hmid.1, hmid.2] at m1
      have hull : us.length = xs.length * 4 := hulz
      exact fin _ w' ⟨by simp [hXl]; omega, .inr ⟨b, cap, _, rfl, Nat.zero_le _, q1, hroom, by unfold maxLen; omega, by simp [m2, hcs], by rw [show (xs.length + 1) * 4 = xs.length * 4 + 4 by omega]; simpa using m1⟩⟩ q2 (.inl rfl)
    · refine (insertIt_grow w b xs.length cap k cur vb 1 X.toArray X hg hcs (by omega) hnc (by omega) hl hg2 hXl hXc h1X h1c).mono ?_
      rintro e w' ⟨C, row, rfl, q1, q2, q3, q4, q5, q6⟩
      rw [hmid.1, hmid.2] at q5
      have hull : us.length = xs.length * 4 := hulz
      exact fin _ w' ⟨by simp [hXl]; omega, .inr ⟨_, C, _, rfl, Nat.zero_le _, q3, q1, q2, by simp [q4], by simpa using q5⟩⟩ ⟨q6.os, q6.tape, q6.output, q6.size, fun q hq h => q6.block q hq (by simp)⟩ (.inr rfl)
end Go.Proofs.Ytfeeohbapnolcaa
