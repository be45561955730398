/- The texts that the law ServiceOnce rests on, part 4: InsertSe, AmSessB, SessPut, AmSessC, SessLaw, BasketPlain, BasketLawP, BasketLawP2, AmStockC, AmNum, TextLaw, AmText, AmLaw, CloneLib, CloneI. -/
import Derived.Test.YtgebpndhnkkbgaaGreatDoorSvO3
import Derived.WideShapes
namespace Go.Proofs.YtgebpndhnkkbgaaGreatDoor.Ssn
set_option linter.unusedVariables false
set_option linter.unusedSimpArgs false
open Go.ChangeShapes Go.WideShapes Go.ChangeAt Go.RowKit
set_option maxRecDepth 100000
theorem copy_run_eq {P : Program} (w : World) {o : Oper} {a : Act} {K : Act → World → Prop} {Q : Exit → Act → World → Prop} (d s : Operand) (t t' : TypeId)
    (ho : o.op = .call { callee := .builtin .copy, args := #[d, s], argTypes := #[t, t'] }) (v u : Value) (hd : a.eval d = v) (hs : a.eval s = u) {v' : Value} {w' : World}
    (hr : (Builtin.copy_ #[t, t'] o.type #[v, u]).run P w = .ok v' w') (h : K (a.put o.dst v') w') : o.wp P a w K Q := by
  unfold Oper.wp execOp
  simp only [ho, resolve, invoke, builtin, Sem.run_bind, Sem.run_pure, Result.andThen_ok, List.map_toArray, List.map_cons, List.map_nil, hd, hs, hr]
  exact h
theorem wpList_copy_eq {P : Program} (w : World) {ops : Array Oper} {rest : List Oper} {o : Oper} {a : Act} {Q : Exit → Act → World → Prop} (hgd : o.guard = none) (d s : Operand) (t t' : TypeId)
    (ho : o.op = .call { callee := .builtin .copy, args := #[d, s], argTypes := #[t, t'] }) (v u : Value) (hd : a.eval d = v) (hs : a.eval s = u) {v' : Value} {w' : World}
    (hr : (Builtin.copy_ #[t, t'] o.type #[v, u]).run P w = .ok v' w') (h : wpList P ops Q rest (a.put o.dst v') w') : wpList P ops Q (o :: rest) a w :=
  wpList_plain hgd fun _ hK => copy_run_eq w d s t t' ho v u hd hs hr (hK _ _ h)
theorem wpList_append_eq {P : Program} (w : World) {ops : Array Oper} {rest : List Oper} {o : Oper} {a : Act} {Q : Exit → Act → World → Prop} (hgd : o.guard = none) (d s : Operand) (t t' : TypeId)
    (ho : o.op = .call { callee := .builtin .append, args := #[d, s], argTypes := #[t, t'] }) (v u : Value) (hd : a.eval d = v) (hs : a.eval s = u) {v' : Value} {w' : World}
    (hr : (Builtin.append_ #[t, t'] o.type #[v, u]).run P w = .ok v' w') (h : wpList P ops Q rest (a.put o.dst v') w') : wpList P ops Q (o :: rest) a w := by
  refine wpList_plain hgd fun _ hK => ?_
  unfold Oper.wp execOp
  simp only [ho, resolve, invoke, builtin, Sem.run_bind, Sem.run_pure, Result.andThen_ok, List.map_toArray, List.map_cons, List.map_nil, hd, hs, hr]
  exact hK _ _ h
/-- copy into a row: the whole row behind it -/
theorem run_copy_row {P : Program} (w : World) (dT sT ty elem : TypeId) (sz b o dLen dCap : Nat) (cur : Array Value) (T : TypeId) (a : Addr) (sLen sCap : Nat) (cs : List Value) (q : Nat)
    (hu : P.underlying dT = some (.slice elem)) (hs : Sz P elem sz) (hq : Nat.min sLen dLen = q) (hn : cs.length = q * sz) (hb : w.heap[b]? = some (.cells cur T (0, 0)))
    (hsrc : ∀ j v, cs[j]? = some v → w.cell? (a.add j) = some v) (hfit : o + cs.length ≤ cur.size) (h1 : ∀ v ∈ cs, v.oneCell' = true) :
    (Builtin.copy_ #[dT, sT] ty #[.slice (some ⟨b, o, none⟩) dLen dCap, .slice (some a) sLen sCap]).run P w = .ok (goInt q) (w.setRow b (cur.toList.take o ++ cs ++ cur.toList.drop (o + cs.length)).toArray) := by
  subst hq
  have hf := run_firstCells_some (P := P) w sz (Nat.min sLen dLen) a sLen sCap cs hn hsrc
  have hst := run_storeCells_at P b o T cs 0 cur w hb (by simpa using hfit) h1
  rw [Nat.add_zero] at hst
  simp [Builtin.copy_, run_underlying hu, Builtin.lenOf, hs.run, hf, hst]
theorem rowL {w : World} {b : Nat} {cur : Array Value} {T : TypeId} (h : w.heap[b]? = some (.cells cur T (0, 0))) (j : Nat) : w.cell? ⟨b, j, none⟩ = cur[j]? := by simp [World.cell?, h]
set_option maxHeartbeats 4000000 in
theorem insertSe_end (w : World) (v v2 : Value) (n : Nat) (us X : List Value) (hown : w.ownsRow 0 60 3 v n us) (ho2 : w.ownsRow 0 60 3 v2 1 X) (h1X : ∀ u ∈ X, u.oneCell' = true) (hn : n + 1 ≤ 1000000) :
    Calls Tryz.prog 87 #[v, .int .i64 n, v2] w fun e w' => ∃ v', e = .returned v' ∧ w'.ownsRow 0 60 3 v' (n + 1) (us ++ X) ∧ w.grownBy w' v.ownBlock ∧ (v'.ownBlock = v.ownBlock ∨ v'.ownBlock = some w.heap.size) := by
  obtain ⟨i0, hi, hz0, hz1, hz2⟩ : ∃ i0, Tryz.prog.info? 60 = some i0 ∧ i0.zero = some (.agg #[.int .i64 0, .int .i64 0, .string ⟨#[]⟩]) ∧ i0.size = 3 ∧ i0.bytes = 32 := by
    have hT : Ti Tryz.prog 60 (.agg #[.int .i64 0, .int .i64 0, .string ⟨#[]⟩]) 3 32 := by unfold Ti; kernel_rfl
    unfold Ti at hT
    cases hi : Tryz.prog.info? 60 with
    | none => rw [hi] at hT; cases hT
    | some i => rw [hi] at hT; simp at hT; exact ⟨i, rfl, hT⟩
  rcases ho2.2 with ⟨_, h0⟩ | ⟨vb, vc, vcur, rfl, _, hvg, hvnc, hvcm, hvcs, hvt⟩
  · omega
  have hXl : X.length = 1 * 3 := ho2.1
  have hXc : ∀ j u, X[j]? = some u → w.cell? ((⟨vb, 0, none⟩ : Addr).add j) = some u := ho2.cells rfl
  have HOWN := Lib.hid hown
  have HV : ∃ sa sc, v = .slice sa n sc ∧ n ≤ sc ∧ sc ≤ maxLen := by
    rcases hown.2 with ⟨rfl, rfl⟩ | ⟨g, cap, cur, rfl, _, _, h1, h2, _⟩
    · exact ⟨none, 0, rfl, Nat.le_refl _, Nat.zero_le _⟩
    · exact ⟨_, cap, rfl, h1, h2⟩
  obtain ⟨sa, sc, rfl, hsc, hscm⟩ := HV
  unfold maxLen at hscm
  have H2 := Lib.hid (And.intro hXl hXc)
  have H3 := Lib.hid h1X
  clear hown ho2 hvg hvt hXl hXc h1X
  by_cases hcn : sc = n
  · obtain rfl : n = sc := hcn.symm
    go_enter Tryz.func87, Tryz.ntmps87
    go_wp2_with (at_builtin; refine wpList_append_own_at _ rfl _ _ 37 rfl 0 60 i0 (.agg #[.int .i64 0, .int .i64 0, .string ⟨#[]⟩]) 3 32 Tryz.underlying37 hi hz0 hz1 hz2 rfl (by decide) _ n us rfl HOWN.out ⟨vb, 0, none⟩ 1 vc X rfl H2.out.1 H2.out.2 H3.out ?c3 ?c4 (Nat.zero_le _) ?_)
    case c3 => unfold maxLen; omega
    case c4 => omega
    intro v' w' hown' hgrow _ hblk
    have HF := Lib.hid (And.intro hown' (And.intro hgrow hblk))
    clear hown' hgrow hblk
    go_wp2_with fail
    go_ret
    exact ⟨_, rfl, HF.out.1, HF.out.2.1, HF.out.2.2⟩
  · have hcn' : ¬ n = sc := fun e => hcn e.symm
    go_enter Tryz.func87, Tryz.ntmps87
    go_wp2_with (at_builtin; refine wpList_append_own_at _ rfl _ _ 37 rfl 0 60 i0 (.agg #[.int .i64 0, .int .i64 0, .string ⟨#[]⟩]) 3 32 Tryz.underlying37 hi hz0 hz1 hz2 rfl (by decide) _ n us rfl HOWN.out ⟨vb, 0, none⟩ 1 vc X rfl H2.out.1 H2.out.2 H3.out ?c3 ?c4 (Nat.zero_le _) ?_)
    case c3 => unfold maxLen; omega
    case c4 => omega
    intro v' w' hown' hgrow _ hblk
    have HF := Lib.hid (And.intro hown' (And.intro hgrow hblk))
    clear hown' hgrow hblk
    go_wp2_with fail
    go_ret
    exact ⟨_, rfl, HF.out.1, HF.out.2.1, HF.out.2.2⟩
/-- a row with one more element in its midst -/
def midRow (cur : List Value) (X : List Value) (a n1 z : Nat) : List Value :=
  let R1 := cur.take (a + z) ++ (cur.drop a).take (n1 - a) ++ cur.drop (a + z + (n1 - a))
  R1.take a ++ X ++ R1.drop (a + z)
theorem midRow_take (cur X : List Value) (a n1 z : Nat) (ha : a ≤ n1) (hX : X.length = z) (hc : n1 + z ≤ cur.length) : (midRow cur X a n1 z).take (n1 + z) = cur.take a ++ X ++ (cur.take n1).drop a ∧ (midRow cur X a n1 z).length = cur.length := by
  unfold midRow
  simp only
  have e1 : (cur.take (a + z) ++ (cur.drop a).take (n1 - a) ++ cur.drop (a + z + (n1 - a))).take a = cur.take a := by
    rw [List.append_assoc, List.take_append_of_le_length (by simp; omega), List.take_take]; congr 1; omega
  have e2 : (cur.take (a + z) ++ (cur.drop a).take (n1 - a) ++ cur.drop (a + z + (n1 - a))).drop (a + z) = (cur.drop a).take (n1 - a) ++ cur.drop (a + z + (n1 - a)) := by
    rw [List.append_assoc, List.drop_append_of_le_length (by simp; omega), List.drop_eq_nil_of_le (by simp; omega), List.nil_append]
  rw [e1, e2]
  constructor
  · rw [← List.append_assoc, List.take_append_of_le_length (by simp; omega), List.take_of_length_le (by simp; omega), List.drop_take]
  · simp; omega
set_option maxHeartbeats 8000000 in
theorem insertSe_shift (w : World) (b n c k : Nat) (cur : Array Value) (vb vc : Nat) (vcur : Array Value) (X : List Value) (hb : w.heap[b]? = some (.cells cur 60 (0, 0))) (hcur : cur.size = c * 3) (hk : k < n) (hroom : n + 1 ≤ c) (hc63 : c ≤ 9223372036854775807)
    (hv : w.heap[vb]? = some (.cells vcur 60 (0, 0))) (hne : vb ≠ b) (hX : X.length = 3) (hXc : ∀ (j : Nat) (u : Value), X[j]? = some u → vcur[j]? = some u) (h1X : ∀ u ∈ X, u.oneCell' = true) (h1c : ∀ u ∈ cur.toList.take (n * 3), u.oneCell' = true) (hc0 : 0 < vcur.size) :
    Calls Tryz.prog 87 #[.slice (some ⟨b, 0, none⟩) n c, .int .i64 k, .slice (some ⟨vb, 0, none⟩) 1 vc] w fun e w' => e = .returned (.slice (some ⟨b, 0, none⟩) (n + 1) c) ∧ w'.heap[b]? = some (.cells (midRow cur.toList X (k * 3) (n * 3) 3).toArray 60 (0, 0)) ∧ w.grownBy w' (some b) := by
  have hov : ∀ o lb cb, (callFunc 120 #[.slice (some ⟨vb, 0, none⟩) 1 vc, .slice (some ⟨b, o, none⟩) lb cb]).run Tryz.prog w = .ok (.value (.bool false)) w := fun o lb cb => by
    rw [run_callFunc_extern Tryz.func120 (by kernel_rfl) (by kernel_rfl) (by kernel_rfl) (e := Extern.SlicesOverlaps.overlaps #[37, 37] #[4]) (by kernel_rfl),
      Lib.run_overlaps_apart w 37 4 60 Tryz.underlying37 3 (fun w => Sz.run (by unfold Sz; kernel_rfl) w) ⟨vb, 0, none⟩ ⟨b, o, none⟩ 1 vc lb cb hne 60 60 vcur.size cur.size (by simp [World.shape?, hv]) (by simp [World.shape?, hb]) (by omega) (by simp [World.frozen?, hv]) (by simp [World.frozen?, hv])]
    rfl
  have hsz : Sz Tryz.prog 60 3 := by unfold Sz; kernel_rfl
  have hz2 : ((k : Int) == (n : Int)) = false := by simp; omega
  have hz3 : decide ((c : Int) < (n : Int) + 1) = false := by simp; omega
  have hb4 : ¬ (c = k) := by omega
  have hb2 : ¬ (c = k + 1) := by omega
  have hkc : k ≤ c := by omega
  have hk1 : IntKind.i64.wrap ((k : Int) + 1) = (k : Int) + 1 := IntWalk.i64_in _ (by omega)
  have hk2 : (0 : Int) ≤ (k : Int) + 1 := by omega
  have hk3 : ((k : Int) + 1).toNat = k + 1 := by omega
  have hk4 : (k : Int) + 1 ≤ (n : Int) + 1 := by omega
  have hk5 : (k : Int) ≤ (n : Int) + 1 := by omega
  have hk6 : (n : Int) + 1 ≤ (c : Int) := by omega
  have hd : ((cur.toList.drop (k * 3)).take (n * 3 - k * 3)).length = (n - k) * 3 := by simp [hcur]; omega
  have HB := Lib.hid hb
  have HV := Lib.hid hv
  have H1 := Lib.hid h1c
  have HX := Lib.hid hXc
  clear hb hv h1c hXc
  go_enter Tryz.func87, Tryz.ntmps87
  go_wp2_with (simp only [hov])
  (apply rg_region_tail 8 (by kernel_rfl) (by kernel_rfl) (by kernel_rfl); intro env)
  (apply rg_det rfl; (intro W K hW _ hK; obtain ⟨hc, hf⟩ := bcell hW; go_simp; first | (rw [IntWalk.i64_in]; (exact hK _ (Below.refl _ _)); omega) | exact hK _ (Below.refl _ _)); rfl)
  repeat (apply rg_det rfl; (intro W K hW _ hK; obtain ⟨hc, hf⟩ := bcell hW; go_simp; first | (rw [IntWalk.i64_in]; (exact hK _ (Below.refl _ _)); omega) | exact hK _ (Below.refl _ _)); rfl)
  (apply rg_tail; rfl; (simp only [List.drop_succ_cons, List.drop_zero]; rfl); intro W hW hF)
  have hWb : W.heap[b]? = some (.cells cur 60 (0, 0)) := (hW.block b (Array.getElem?_eq_some_iff.1 HB.out).1).trans HB.out
  have hWv : W.heap[vb]? = some (.cells vcur 60 (0, 0)) := (hW.block vb (Array.getElem?_eq_some_iff.1 HV.out).1).trans HV.out
  have hcp1 := run_copy_row (P := Tryz.prog) W 37 37 3 60 3 b ((k + 1) * 3) (n - k) (c - (k + 1)) cur 60 ⟨b, k * 3, none⟩ (n + 1 - k) (c - k) ((cur.toList.drop (k * 3)).take (n * 3 - k * 3)) (n - k) Tryz.underlying37 hsz (by simp only [Nat.min_def]; split <;> omega) hd hWb
    (fun j u hj => by
      rw [aadd, rowL hWb]
      rw [List.getElem?_take] at hj
      split at hj
      · rw [List.getElem?_drop, Array.getElem?_toList] at hj; exact hj
      · cases hj) (by rw [hd, hcur]; omega) (fun u hu => H1.out u (by
      obtain ⟨q, hq, rfl⟩ := List.mem_iff_getElem.1 hu
      simp only [List.getElem_take, List.getElem_drop]
      rw [hd] at hq
      refine List.mem_iff_getElem.2 ⟨k * 3 + q, by simp [hcur]; omega, by simp⟩))
  refine wpList_copy_eq W rfl _ _ 37 37 rfl _ _ rfl rfl hcp1 ?_
  have hgr : w.grownBy W (some b) := ⟨hW.os, hW.tape, hW.output, hW.size, fun q hq _ => hW.block q hq⟩
  have hW1b := setRow_heap W b cur (cur.toList.take ((k + 1) * 3) ++ (cur.toList.drop (k * 3)).take (n * 3 - k * 3) ++ cur.toList.drop ((k + 1) * 3 + ((cur.toList.drop (k * 3)).take (n * 3 - k * 3)).length)).toArray 60 (0, 0) hWb
  have hW1v := (setRow_other W b vb (cur.toList.take ((k + 1) * 3) ++ (cur.toList.drop (k * 3)).take (n * 3 - k * 3) ++ cur.toList.drop ((k + 1) * 3 + ((cur.toList.drop (k * 3)).take (n * 3 - k * 3)).length)).toArray hne).trans hWv
  have hgr1 : w.grownBy (W.setRow b (cur.toList.take ((k + 1) * 3) ++ (cur.toList.drop (k * 3)).take (n * 3 - k * 3) ++ cur.toList.drop ((k + 1) * 3 + ((cur.toList.drop (k * 3)).take (n * 3 - k * 3)).length)).toArray) (some b) :=
    ⟨by simp [hgr.os], by simp [hgr.tape], by simp [hgr.output], by simpa using hgr.size, fun q hq hne2 => (setRow_other W b q _ (fun e => hne2 (by rw [e]))).trans (hgr.block q hq hne2)⟩
  have hR1 : (cur.toList.take ((k + 1) * 3) ++ (cur.toList.drop (k * 3)).take (n * 3 - k * 3) ++ cur.toList.drop ((k + 1) * 3 + ((cur.toList.drop (k * 3)).take (n * 3 - k * 3)).length)) = (cur.toList.take (k * 3 + 3) ++ (cur.toList.drop (k * 3)).take (n * 3 - k * 3) ++ cur.toList.drop (k * 3 + 3 + (n * 3 - k * 3))) := by
    rw [hd, Nat.add_mul, Nat.one_mul, Nat.sub_mul]
  rw [hR1] at hW1b hgr1 hW1v ⊢
  have hMid : midRow cur.toList X (k * 3) (n * 3) 3 = (cur.toList.take (k * 3 + 3) ++ (cur.toList.drop (k * 3)).take (n * 3 - k * 3) ++ cur.toList.drop (k * 3 + 3 + (n * 3 - k * 3))).take (k * 3) ++ X ++ (cur.toList.take (k * 3 + 3) ++ (cur.toList.drop (k * 3)).take (n * 3 - k * 3) ++ cur.toList.drop (k * 3 + 3 + (n * 3 - k * 3))).drop (k * 3 + 3) := rfl
  have hRl : (cur.toList.take (k * 3 + 3) ++ (cur.toList.drop (k * 3)).take (n * 3 - k * 3) ++ cur.toList.drop (k * 3 + 3 + (n * 3 - k * 3))).length = c * 3 := by simp [hcur]; omega
  have HM := Lib.hid hMid
  clear hMid
  generalize cur.toList.take (k * 3 + 3) ++ (cur.toList.drop (k * 3)).take (n * 3 - k * 3) ++ cur.toList.drop (k * 3 + 3 + (n * 3 - k * 3)) = R1 at *
  generalize W.setRow b R1.toArray = W1 at *
  clear hcp1 hWb hWv hW hF hgr hR1
  have hcp2 := run_copy_row (P := Tryz.prog) W1 37 37 3 60 3 b (k * 3) (n + 1 - k) (c - k) R1.toArray 60 ⟨vb, 0, none⟩ 1 vc X 1 Tryz.underlying37 hsz (by simp only [Nat.min_def]; split <;> omega) (by omega) hW1b
    (fun j u hj => by rw [aadd, Nat.zero_add, rowL hW1v]; exact HX.out j u hj) (by simp [hRl, hX]; omega) h1X
  have hfin := setRow_heap W1 b R1.toArray (R1.take (k * 3) ++ X ++ R1.drop (k * 3 + 3)).toArray 60 (0, 0) hW1b
  have hgr2 : w.grownBy (W1.setRow b (R1.take (k * 3) ++ X ++ R1.drop (k * 3 + 3)).toArray) (some b) :=
    ⟨by simp [hgr1.os], by simp [hgr1.tape], by simp [hgr1.output], by simpa using hgr1.size, fun q hq hne2 => (setRow_other W1 b q _ (fun e => hne2 (by rw [e]))).trans (hgr1.block q hq hne2)⟩
  rw [hX] at hcp2
  have HFIN := Lib.hid (And.intro hfin hgr2)
  have HCP := Lib.hid hcp2
  clear hfin hgr2 hcp2 hgr1 hW1b hW1v
  go_wp2_with (refine wpList_copy_eq W1 rfl _ _ 37 37 rfl _ _ rfl rfl HCP.out ?_)
  go_ret
  have e := HFIN.out
  simp only [List.append_assoc] at e
  exact ⟨rfl, by rw [HM.out]; simp only [List.append_assoc]; exact e.1, e.2⟩
set_option maxHeartbeats 8000000 in
theorem insertSe_grow (w : World) (b n c k : Nat) (cur : Array Value) (vb vc : Nat) (vcur : Array Value) (X : List Value) (hb : w.heap[b]? = some (.cells cur 60 (0, 0))) (hcur : cur.size = c * 3) (hk : k < n) (hnc : n ≤ c) (hroom : c < n + 1) (hn : n + 1 ≤ 1000000)
    (hv : w.heap[vb]? = some (.cells vcur 60 (0, 0))) (hX : X.length = 3) (hXc : ∀ (j : Nat) (u : Value), X[j]? = some u → vcur[j]? = some u) (h1X : ∀ u ∈ X, u.oneCell' = true) (h1c : ∀ u ∈ cur.toList.take (n * 3), u.oneCell' = true) :
    Calls Tryz.prog 87 #[.slice (some ⟨b, 0, none⟩) n c, .int .i64 k, .slice (some ⟨vb, 0, none⟩) 1 vc] w fun e w' => ∃ (C : Nat) (row : List Value), e = .returned (.slice (some ⟨w.heap.size, 0, none⟩) (n + 1) C) ∧ n + 1 ≤ C ∧ C ≤ maxLen ∧ w'.heap[w.heap.size]? = some (.cells row.toArray 60 (0, 0)) ∧ row.length = C * 3 ∧ row.take ((n + 1) * 3) = cur.toList.take (k * 3) ++ X ++ (cur.toList.take (n * 3)).drop (k * 3) ∧ w.grownBy w' none := by
  obtain rfl : n = c := by omega
  obtain ⟨i0, hi, hz0, hz1, hz2⟩ : ∃ i0, Tryz.prog.info? 60 = some i0 ∧ i0.zero = some (.agg #[.int .i64 0, .int .i64 0, .string ⟨#[]⟩]) ∧ i0.size = 3 ∧ i0.bytes = 32 := by
    have hT : Ti Tryz.prog 60 (.agg #[.int .i64 0, .int .i64 0, .string ⟨#[]⟩]) 3 32 := by unfold Ti; kernel_rfl
    unfold Ti at hT
    cases hi : Tryz.prog.info? 60 with
    | none => rw [hi] at hT; cases hT
    | some i => rw [hi] at hT; simp at hT; exact ⟨i, rfl, hT⟩
  have hsz : Sz Tryz.prog 60 3 := by unfold Sz; kernel_rfl
  have hbw := (Array.getElem?_eq_some_iff.1 hb).1
  have hvw := (Array.getElem?_eq_some_iff.1 hv).1
  have hold : (Builtin.firstCells i0.size k (.slice (some ⟨b, 0, none⟩) k n)).run Tryz.prog w.drew = .ok (cur.toList.take (k * 3)).toArray w.drew := by
    rw [hz1]
    exact run_firstCells_some (P := Tryz.prog) w.drew 3 k ⟨b, 0, none⟩ k n (cur.toList.take (k * 3)) (by rw [List.length_take, Array.length_toList, hcur]; omega) (fun j v hj => by
      rw [aadd, Nat.zero_add]
      show w.cell? _ = _
      rw [rowL hb]
      rw [List.getElem?_take] at hj
      split at hj
      · simpa using hj
      · cases hj)
  have hrz : ∀ ty, (Builtin.append_ #[37, 3] ty #[.slice (some ⟨b, 0, none⟩) k n, .int .i64 ((n : Int) + 1 - (k : Int))]).run Tryz.prog w =
      .ok (.slice (some ⟨w.heap.size, 0, none⟩) (n + 1) (grownCap w (n + 1) n 60)) (w.drew.alloc (.cells ((cur.toList.take (k * 3)).toArray ++ Builtin.zeroCells (Value.cells (.agg #[.int .i64 0, .int .i64 0, .string ⟨#[]⟩])) (n + 1 - k) ++ Builtin.zeroCells (Value.cells (.agg #[.int .i64 0, .int .i64 0, .string ⟨#[]⟩])) (grownCap w (n + 1) n 60 - (n + 1))) 60)) := fun ty => by
    have h := Lib.run_append_grow_zeros w 37 3 ty 60 i0 _ .i64 .i64 Tryz.underlying37 Tryz.underlying3 hi hz0 (some ⟨b, 0, none⟩) k n (cur.toList.take (k * 3)) hold (n + 1 - k) (by omega) (by omega) (by omega) (by omega) (by rw [hz2]; omega) (by rw [hz2, show k + (n + 1 - k) = n + 1 by omega]; exact growslice_fits (by omega) (by omega))
    rw [show k + (n + 1 - k) = n + 1 by omega, show ((n + 1 - k : Nat) : Int) = (n : Int) + 1 - (k : Int) by omega] at h
    exact h
  have hC1 : n + 1 ≤ grownCap w (n + 1) n 60 := grownCap_ge w _ _ _
  have hC2 : grownCap w (n + 1) n 60 ≤ maxLen := grownCap_le_maxLen w (n + 1) n 60 (by unfold maxLen; omega)
  generalize grownCap w (n + 1) n 60 = C at *
  have hRs : ((cur.toList.take (k * 3)).toArray ++ Builtin.zeroCells (Value.cells (.agg #[.int .i64 0, .int .i64 0, .string ⟨#[]⟩])) (n + 1 - k) ++ Builtin.zeroCells (Value.cells (.agg #[.int .i64 0, .int .i64 0, .string ⟨#[]⟩])) (C - (n + 1))).size = C * 3 := by
    simp [Builtin.zeroCells, Value.cells, hcur]; omega
  have hRt : ((cur.toList.take (k * 3)).toArray ++ Builtin.zeroCells (Value.cells (.agg #[.int .i64 0, .int .i64 0, .string ⟨#[]⟩])) (n + 1 - k) ++ Builtin.zeroCells (Value.cells (.agg #[.int .i64 0, .int .i64 0, .string ⟨#[]⟩])) (C - (n + 1))).toList.take (k * 3) = cur.toList.take (k * 3) := by
    simp only [Array.toList_append, List.append_assoc]
    rw [List.take_append_of_le_length (by simp [hcur]; omega), List.take_of_length_le (by simp; omega)]
  generalize (cur.toList.take (k * 3)).toArray ++ Builtin.zeroCells (Value.cells (.agg #[.int .i64 0, .int .i64 0, .string ⟨#[]⟩])) (n + 1 - k) ++ Builtin.zeroCells (Value.cells (.agg #[.int .i64 0, .int .i64 0, .string ⟨#[]⟩])) (C - (n + 1)) = ROW at *
  have hk4 : ((k : Int) == (n : Int)) = false := by simp; omega
  have hk5 : decide ((n : Int) < (n : Int) + 1) = true := by simp; omega
  have hk6 : ¬ (n = k) := by omega
  have hk7 : k ≤ n := by omega
  have hk8 : ¬ (C = k) := by omega
  have hk9 : ¬ (C = k + 1) := by omega
  obtain ⟨W1, hW1⟩ : ∃ W1, W1 = w.drew.alloc (.cells ROW 60) := ⟨_, rfl⟩
  rw [← hW1] at hrz
  have hW1n : W1.heap[w.heap.size]? = some (.cells ROW 60 (0, 0)) := by rw [hW1]; exact heap_alloc_new w.drew _
  have hW1o : ∀ q, q < w.heap.size → W1.heap[q]? = w.heap[q]? := fun q hq => by rw [hW1]; exact heap_alloc_old w.drew _ hq
  have hg1 : w.grownBy W1 none := by rw [hW1]; exact ⟨rfl, rfl, rfl, by simp, fun q hq _ => heap_alloc_old w.drew _ hq⟩
  have hs1 : W1.heap.size = w.heap.size + 1 := by rw [hW1]; simp
  have hcpA := fun ty => run_copy_row (P := Tryz.prog) W1 37 37 ty 60 3 w.heap.size (k * 3) (n + 1 - k) (C - k) ROW 60 ⟨vb, 0, none⟩ 1 vc X 1 Tryz.underlying37 hsz (by simp only [Nat.min_def]; split <;> omega) (by omega) hW1n
    (fun j u hj => by rw [aadd, Nat.zero_add, rowL ((hW1o vb hvw).trans hv)]; exact hXc j u hj) (by rw [hRs, hX]; omega) h1X
  rw [hX] at hcpA
  have hRl : ROW.toList.length = C * 3 := by simpa using hRs
  obtain ⟨R1, hR1⟩ : ∃ R1, R1 = ROW.toList.take (k * 3) ++ X ++ ROW.toList.drop (k * 3 + 3) := ⟨_, rfl⟩
  rw [← hR1] at hcpA
  have hR1l : R1.length = C * 3 := by rw [hR1]; simp [hRs, hX]; omega
  have hR1t : R1.take (k * 3 + 3) = cur.toList.take (k * 3) ++ X := by
    rw [hR1, List.take_append_of_le_length (by simp [hRs, hX]; omega), List.take_of_length_le (by simp [hX]; omega), hRt]
  obtain ⟨W2, hW2⟩ : ∃ W2, W2 = W1.setRow w.heap.size R1.toArray := ⟨_, rfl⟩
  rw [← hW2] at hcpA
  have hW2n : W2.heap[w.heap.size]? = some (.cells R1.toArray 60 (0, 0)) := by rw [hW2]; exact setRow_heap W1 _ ROW _ 60 (0, 0) hW1n
  have hW2o : ∀ q, q < w.heap.size → W2.heap[q]? = w.heap[q]? := fun q hq => by rw [hW2]; exact (setRow_other W1 _ q _ (by omega)).trans (hW1o q hq)
  have hg2 : w.grownBy W2 none := by rw [hW2]; exact ⟨by simp [hg1.os], by simp [hg1.tape], by simp [hg1.output], by simpa using hg1.size, fun q hq h => (setRow_other W1 _ q _ (by omega)).trans (hg1.block q hq h)⟩
  have hs2 : W2.heap.size = w.heap.size + 1 := by rw [hW2]; simpa using hs1
  have hd : ((cur.toList.drop (k * 3)).take (n * 3 - k * 3)).length = (n - k) * 3 := by simp [hcur]; omega
  have HRZ := Lib.hid hrz
  have HCPA := Lib.hid hcpA
  have HB := Lib.hid (And.intro hb hv)
  have H1 := Lib.hid h1c
  have HC := Lib.hid (And.intro hC1 hC2)
  have HR := Lib.hid (And.intro hR1l hR1t)
  have HW := Lib.hid (And.intro hW2n (And.intro hW2o hg2))
  have HS2 := Lib.hid hs2
  have HD := Lib.hid hd
  have HCUR := Lib.hid hcur
  have hCb : C ≤ 9223372036854775807 := by unfold maxLen at hC2; omega
  have hCk : k + 1 ≤ C := by omega
  have hCn : (n : Int) + 1 ≤ (C : Int) := by omega
  have hk1 : IntKind.i64.wrap ((k : Int) + 1) = (k : Int) + 1 := IntWalk.i64_in _ (by omega)
  have hk2 : (0 : Int) ≤ (k : Int) + 1 := by omega
  have hk3 : ((k : Int) + 1).toNat = k + 1 := by omega
  have hkb : (k : Int) + 1 ≤ (n : Int) + 1 := by omega
  have hkn : (k : Int) ≤ (n : Int) := by omega
  clear hb hv h1c hXc h1X hold hrz hC1 hC2 hRs hRt hi hz0 hz1 hz2 i0 hW1 hW1n hW1o hg1 hs1 hcpA hRl hR1 hR1l hR1t hW2 hW2n hW2o hg2 hs2 hd hcur ROW
  go_enter Tryz.func87, Tryz.ntmps87
  go_wp2_with (first | (refine wpList_append_eq w rfl _ _ 37 3 rfl _ _ rfl rfl (HRZ.out _) ?_) | (refine wpList_copy_eq W1 rfl _ _ 37 37 rfl _ _ rfl rfl (HCPA.out _) ?_))
  (apply rg_region_tail 8 (by kernel_rfl) (by kernel_rfl) (by kernel_rfl); intro env)
  repeat (apply rg_det rfl; (intro W K hW _ hK; obtain ⟨hc, hf⟩ := bcell hW; go_simp; first | (rw [IntWalk.i64_in]; (exact hK _ (Below.refl _ _)); omega) | exact hK _ (Below.refl _ _)); rfl)
  (apply rg_tail; rfl; (simp only [List.drop_succ_cons, List.drop_zero]; rfl); intro W hW hF)
  have hcur := HCUR.out
  have hd := HD.out
  have hWn : W.heap[w.heap.size]? = some (.cells R1.toArray 60 (0, 0)) := (hW.block _ (by rw [HS2.out]; omega)).trans HW.out.1
  have hWb : W.heap[b]? = some (.cells cur 60 (0, 0)) := (hW.block b (by rw [HS2.out]; omega)).trans ((HW.out.2.1 b hbw).trans HB.out.1)
  have hcpB := run_copy_row (P := Tryz.prog) W 37 37 3 60 3 w.heap.size ((k + 1) * 3) (n - k) (C - (k + 1)) R1.toArray 60 ⟨b, k * 3, none⟩ (n - k) (n - k) ((cur.toList.drop (k * 3)).take (n * 3 - k * 3)) (n - k) Tryz.underlying37 hsz (by simp) hd hWn
    (fun j u hj => by
      rw [aadd, rowL hWb]
      rw [List.getElem?_take] at hj
      split at hj
      · rw [List.getElem?_drop, Array.getElem?_toList] at hj; exact hj
      · cases hj) (by have := HR.out.1; rw [hd]; simp [this]; omega) (fun u hu => H1.out u (by
      obtain ⟨q, hq, rfl⟩ := List.mem_iff_getElem.1 hu
      simp only [List.getElem_take, List.getElem_drop]
      rw [hd] at hq
      refine List.mem_iff_getElem.2 ⟨k * 3 + q, by simp [hcur]; omega, by simp⟩))
  rw [hd] at hcpB
  obtain ⟨R2, hR2⟩ : ∃ R2, R2 = R1.toArray.toList.take ((k + 1) * 3) ++ (cur.toList.drop (k * 3)).take (n * 3 - k * 3) ++ R1.toArray.toList.drop ((k + 1) * 3 + (n - k) * 3) := ⟨_, rfl⟩
  rw [← hR2] at hcpB
  have hfin := setRow_heap W w.heap.size R1.toArray R2.toArray 60 (0, 0) hWn
  have hgr : w.grownBy (W.setRow w.heap.size R2.toArray) none := by
    have h3 := HW.out.2.2
    exact ⟨by simp [hW.os, h3.os], by simp [hW.tape, h3.tape], by simp [hW.output, h3.output], by simpa using Nat.le_trans h3.size hW.size, fun q hq h => (setRow_other W _ q _ (by omega)).trans ((hW.block q (by rw [HS2.out]; omega)).trans (h3.block q hq h))⟩
  have hr2l : R2.length = C * 3 := by rw [hR2]; have := HR.out.1; simp [this, hcur]; omega
  have hr2t : R2.take ((n + 1) * 3) = cur.toList.take (k * 3) ++ X ++ (cur.toList.take (n * 3)).drop (k * 3) := by
    rw [hR2, List.toList_toArray, show (k + 1) * 3 = k * 3 + 3 by omega, HR.out.2, List.take_append_of_le_length (by simp [hcur, hX]; omega), List.take_of_length_le (by simp [hcur, hX]; omega), List.drop_take]
  have HF := Lib.hid (And.intro hfin (And.intro hgr (And.intro hr2l hr2t)))
  clear hfin hgr hr2l hr2t hR2 hWn hWb hW hF hd hcur
  refine wpList_copy_eq W rfl _ _ 37 37 rfl _ _ rfl rfl hcpB ?_
  clear hcpB
  go_wp2_with fail
  go_ret
  exact ⟨C, R2, rfl, HC.out.1, HC.out.2, HF.out.1, HF.out.2.2.1, HF.out.2.2.2, HF.out.2.1⟩
theorem flat_take {z : Nat} : ∀ (xs : List AV) (k : Nat), (∀ x, x ∈ xs → x.cells.length = z) → k ≤ xs.length → (xs.take k).flatMap AV.cells = (xs.flatMap AV.cells).take (k * z) ∧ (xs.drop k).flatMap AV.cells = (xs.flatMap AV.cells).drop (k * z) := by
  intro xs
  induction xs with
  | nil => intro k _ hk; simp
  | cons x xs ih =>
    intro k hz hk
    cases k with
    | zero => simp
    | succ k =>
      have hx := hz x List.mem_cons_self
      obtain ⟨h1, h2⟩ := ih k (fun y hy => hz y (List.mem_cons_of_mem _ hy)) (by simpa using hk)
      rw [List.take_succ_cons, List.drop_succ_cons, List.flatMap_cons, List.flatMap_cons, h1, h2]
      rw [show (k + 1) * z = x.cells.length + k * z by rw [hx, Nat.add_mul]; omega, List.take_length_add_append, List.drop_length_add_append]
      exact ⟨rfl, rfl⟩
theorem insRow_one {β : List Hd} {w : World} {us : List Value} {xs : List AV} (h4 : ∀ (j : Nat) (u : Value) (y : AV), us[j]? = some u → (xs.flatMap AV.cells)[j]? = some y → VRep β w u y) (hl : us.length = (xs.flatMap AV.cells).length) (ho : (xs.all fun x => x.cells.all AV.one) = true) : ∀ u ∈ us, u.oneCell' = true := by
  intro u hu
  obtain ⟨q, hq, rfl⟩ := List.mem_iff_getElem.1 hu
  have hq2 : q < (xs.flatMap AV.cells).length := by omega
  refine (h4 q _ _ (List.getElem?_eq_getElem hq) (List.getElem?_eq_getElem hq2)).one ?_
  obtain ⟨x, hx, hy⟩ := List.mem_flatMap.1 (List.getElem_mem hq2)
  exact List.all_eq_true.1 (List.all_eq_true.1 ho x hx) _ hy
/-- slices.Insert of one value: a slice of the caller's own grows -/
theorem insertSe_fn (xs : List AV) (y : AV) (k : Nat) (hk : k ≤ xs.length) (hl : xs.length + 1 ≤ 1000000) (ho : (xs.all fun x => x.cells.all AV.one) = true) (hoy : y.cells.all AV.one = true) {H : List AO} {i g i2 g2 : Nat}
    {q : Int} (hq : q = (k : Int)) (hi : H[i]? = some (.row g 60 3 xs)) (hi2 : H[i2]? = some (.row g2 60 3 [y])) (hne : i ≠ i2) :
    FnH Tryz.prog 87 [.own i g, .int .i64 q, .own i2 g2] H (.own i (g + 1)) (H.set i (.row (g + 1) 60 3 (xs.take k ++ [y] ++ xs.drop k))) := by
  subst hq
  intro w β vs hH hv
  obtain ⟨hsz, hvr⟩ := hv
  obtain ⟨v, v1, v2, rfl⟩ : ∃ v v1 v2, vs = #[v, v1, v2] := by
    have h3 : vs.size = 3 := hsz
    exact ⟨vs[0], vs[1], vs[2], Array.ext (by simpa using h3) fun q h1 h2 => by
      have : q = 0 ∨ q = 1 ∨ q = 2 := by simp at h2; omega
      rcases this with rfl | rfl | rfl <;> rfl⟩
  obtain rfl := (hvr 1 v1 _ rfl rfl).int_inv
  obtain ⟨us, e1, e2, e3, e4⟩ := (hvr 0 v _ rfl rfl).own_at hH hi
  obtain ⟨X, f1, f2, f3, f4⟩ := (hvr 2 v2 _ rfl rfl).own_at hH hi2
  have hy : y.cells.length = 3 := f3 y (by simp)
  have hul : us.length = (xs.flatMap AV.cells).length := by rw [e2.1, flat_len' xs e3]
  have hXl : X.length = 3 := by have := f2.1; simpa using this
  have h1us := insRow_one e4 hul ho
  have h1X := insRow_one f4 (by rw [f2.1, flat_len' [y] f3]) (by simpa using hoy)
  have hflat : (xs.take k ++ [y] ++ xs.drop k).flatMap AV.cells = (xs.flatMap AV.cells).take (k * 3) ++ y.cells ++ (xs.flatMap AV.cells).drop (k * 3) := by
    obtain ⟨a1, a2⟩ := flat_take xs k e3 hk
    rw [List.flatMap_append, List.flatMap_append, a1, a2]; simp
  have hzz : ∀ x, x ∈ xs.take k ++ [y] ++ xs.drop k → x.cells.length = 3 := by
    intro x hx
    simp only [List.mem_append, List.mem_singleton] at hx
    rcases hx with (hx | rfl) | hx
    · exact e3 x (List.mem_of_mem_take hx)
    · exact hy
    · exact e3 x (List.mem_of_mem_drop hx)
  have hlen : (xs.take k ++ [y] ++ xs.drop k).length = xs.length + 1 := by simp; omega
  have hkz : k * 3 ≤ us.length := by rw [e2.1]; omega
  have fin : ∀ (v' : Value) (w' : World), w'.ownsRow 0 60 3 v' (xs.length + 1) (us.take (k * 3) ++ X ++ us.drop (k * 3)) → w.grownBy w' v.ownBlock → (v'.ownBlock = v.ownBlock ∨ v'.ownBlock = some w.heap.size) →
      ∃ v β', Ending.returned v' = .returned v ∧ Ext β w β' w' ∧ HRel β' (H.set i (.row (g + 1) 60 3 (xs.take k ++ [y] ++ xs.drop k))) w' ∧ VRep β' w' v (.own i (g + 1)) := by
    intro v' w' q1 q2 q3
    have hlt := (List.getElem?_eq_some_iff.1 e1).1
    have hgrow := hH.grow e1 q2 q3 (o := .row (g + 1) 60 3 (xs.take k ++ [y] ++ xs.drop k)) (fun hx => ⟨rfl, _, by rw [hlen]; exact q1, hzz, fun q u y' p1 p2 => by
      refine VRep.ext hx ?_
      rw [hflat] at p2
      have hfl : (xs.flatMap AV.cells).length = us.length := hul.symm
      by_cases c1 : q < k * 3
      · rw [List.append_assoc, List.getElem?_append_left (by rw [List.length_take]; omega), List.getElem?_take_of_lt c1] at p1
        rw [List.append_assoc, List.getElem?_append_left (by rw [List.length_take]; omega), List.getElem?_take_of_lt c1] at p2
        exact e4 q u y' p1 p2
      · by_cases c2 : q < k * 3 + 3
        · rw [List.append_assoc, List.getElem?_append_right (by rw [List.length_take]; omega), List.length_take, Nat.min_eq_left hkz, List.getElem?_append_left (by rw [hXl]; omega)] at p1
          rw [List.append_assoc, List.getElem?_append_right (by rw [List.length_take]; omega), List.length_take, Nat.min_eq_left (by omega), List.getElem?_append_left (by rw [hy]; omega)] at p2
          exact f4 _ u y' p1 (by simpa using p2)
        · rw [List.getElem?_append_right (by rw [List.length_append, List.length_take, hXl]; omega), List.getElem?_drop, List.length_append, List.length_take, hXl, Nat.min_eq_left hkz] at p1
          rw [List.getElem?_append_right (by rw [List.length_append, List.length_take, hy]; omega), List.getElem?_drop, List.length_append, List.length_take, hy, Nat.min_eq_left (by omega)] at p2
          exact e4 _ u y' p1 p2⟩)
    refine ⟨v', _, rfl, hgrow.1, hgrow.2, .own _ _ _ (by simpa using hlt) (fun u g' hb => ?_) (ownsRow_one q1)⟩
    rw [List.getElem?_set_self hlt] at hb
    cases hb
    exact ⟨Nat.le_refl _, fun _ => rfl⟩
  by_cases hkn : k = xs.length
  · subst hkn
    refine (insertSe_end w v v2 xs.length us X e2 (by simpa using f2) h1X hl).mono ?_
    rintro e w' ⟨v', rfl, q1, q2, q3⟩
    have hull : us.length = xs.length * 3 := e2.1
    exact fin v' w' (by rw [List.take_of_length_le (by omega), List.drop_eq_nil_of_le (by omega), List.append_nil]; exact q1) q2 q3
  · rcases e2.2 with ⟨_, h0⟩ | ⟨b, cap, cur, hvv, _, hg, hnc, hcm, hcs, htk⟩
    · omega
    rcases f2.2 with ⟨_, h0⟩ | ⟨vb, vc, vcur, hvv2, _, hg2, hnc2, hcm2, hcs2, htk2⟩
    · simp at h0
    subst hvv
    subst hvv2
    have hnb : vb ≠ b := fun e => by subst e; exact hH.ap i i2 _ _ vb hne e1 f1 (opt_mem.2 rfl) (opt_mem.2 rfl)
    have hXc : ∀ (j : Nat) (u : Value), X[j]? = some u → vcur[j]? = some u := by
      intro j u hj
      rw [← htk2, List.getElem?_take] at hj
      split at hj
      · simpa using hj
      · cases hj
    have hc0 : 0 < vcur.size := by simp at hnc2; omega
    have h1c : ∀ u ∈ cur.toList.take (xs.length * 3), u.oneCell' = true := by rw [htk]; exact h1us
    have hulz : us.length = xs.length * 3 := e2.1
    have hmid : cur.toList.take (k * 3) = us.take (k * 3) ∧ (cur.toList.take (xs.length * 3)).drop (k * 3) = us.drop (k * 3) := by
      constructor
      · rw [← htk, List.take_take]; congr 1; omega
      · rw [htk]
    by_cases hroom : xs.length + 1 ≤ cap
    · unfold maxLen at hcm
      refine (insertSe_shift w b xs.length cap k cur vb vc vcur X hg hcs (by omega) hroom hcm hg2 hnb hXl hXc h1X h1c hc0).mono ?_
      rintro e w' ⟨rfl, q1, q2⟩
      have hcl : cur.toList.length = cap * 3 := by simpa using hcs
      obtain ⟨m1, m2⟩ := midRow_take cur.toList X (k * 3) (xs.length * 3) 3 (by omega) hXl (by rw [hcl]; omega)
      rw [hmid.1, hmid.2] at m1
      have hull : us.length = xs.length * 3 := hulz
      exact fin _ w' ⟨by simp [hXl]; omega, .inr ⟨b, cap, _, rfl, Nat.zero_le _, q1, hroom, by unfold maxLen; omega, by simp [m2, hcs], by rw [show (xs.length + 1) * 3 = xs.length * 3 + 3 by omega]; simpa using m1⟩⟩ q2 (.inl rfl)
    · refine (insertSe_grow w b xs.length cap k cur vb vc vcur X hg hcs (by omega) hnc (by omega) hl hg2 hXl hXc h1X h1c).mono ?_
      rintro e w' ⟨C, row, rfl, q1, q2, q3, q4, q5, q6⟩
      rw [hmid.1, hmid.2] at q5
      have hull : us.length = xs.length * 3 := hulz
      exact fin _ w' ⟨by simp [hXl]; omega, .inr ⟨_, C, _, rfl, Nat.zero_le _, q3, q1, q2, by simp [q4], by simpa using q5⟩⟩ ⟨q6.os, q6.tape, q6.output, q6.size, fun q hq h => q6.block q hq (by simp)⟩ (.inr rfl)
end Go.Proofs.YtgebpndhnkkbgaaGreatDoor.Ssn
namespace Go.Proofs.YtgebpndhnkkbgaaGreatDoor.Ssn
set_option linter.unusedVariables false
set_option linter.unusedSimpArgs false
open Go.RowKit
open SessP
set_option maxRecDepth 100000
/-- a client's session is put where it belongs -/
def putP (l : List Se) (s : Se) : List Se :=
  if 0 ≤ idxOf (fun x => decide (x.client = s.client)) l then l.set (idxOf (fun x => decide (x.client = s.client)) l).toNat s
  else if idxOf (fun x => decide (s.client < x.client)) l < 0 then l.take l.length ++ [s] ++ l.drop l.length
  else l.take (idxOf (fun x => decide (s.client < x.client)) l).toNat ++ [s] ++ l.drop (idxOf (fun x => decide (s.client < x.client)) l).toNat
/-- what Note tells -/
def noteP (l : List Se) (s : Se) : List Se × Int :=
  if (askP l s.client s.seq).2.2 = 0 then if may s = true then if (askP l s.client s.seq).2.1 = true then ([], 41) else (putP l s, 0) else ([], 2)
  else ([], (askP l s.client s.seq).2.2)
theorem ins_map (l : List Se) (s : Se) (k : Nat) : (l.take k ++ [s] ++ l.drop k).map aSe = (l.map aSe).take k ++ [aSe s] ++ (l.map aSe).drop k := by
  rw [List.map_append, List.map_append, List.map_take, List.map_drop]; rfl
theorem set_cells {z : Nat} {xs : List AV} {k : Nat} {X : AV} (h : ∀ x, x ∈ xs → x.cells.length = z) (hX : X.cells.length = z) : ∀ x, x ∈ xs.set k X → x.cells.length = z := by
  intro x hx
  rcases List.mem_or_eq_of_mem_set hx with hx | rfl
  · exact h x hx
  · exact hX
theorem clone_new (l : List Se) (hl : l.length ≤ 1000000) : FnNew Tryz.prog 83 [.sl (l.map aSe)] 60 3 (l.map aSe) :=
  FnNew.of_owns encSe aSe 3 encSe_len (fun x => rfl) (fun x u hu => by simp [encSe] at hu; rcases hu with rfl | rfl | rfl <;> rfl) l (fun w a cap hr _ _ _ => cloneSe_any a cap l w hr hl)
set_option maxHeartbeats 1000000 in
theorem noteF_fn (x s : Se) : FnP Tryz.prog 86 [aSe x, .pe (aSe s).cells] (.bool (decide (s.client < x.client))) := by
  refine FnP.of Tryz.func86 rfl rfl (by simp) (by simp [AV.cells, aSe]) (fun G hG => ?_)
  have hN : NoH G.length (.bool (decide (s.client < x.client))) := (by simp [AV.cells, aSe])
  refine AWP.seq ?_
  refine AWP.region (fun _ => ?_)
  refine ARun.box (j := 0) hG rfl rfl rfl rfl rfl (Ev.plain rfl) rfl rfl optN ?_
  refine ARun.move (.inr rfl) rfl rfl rfl (Ev.plain rfl) optN ?_
  refine ⟨_, _, rfl, hG, ?_⟩
  refine thenA_n ?_
  refine AWP.seq ?_
  refine AWP.region (fun _ => ?_)
  refine ARun.fieldBox (fo := 0) rfl rfl rfl rfl Tryz.underlying60 rfl rfl sz3 (by decide) (Ev.plain rfl) ((hG.at _ _).trans rfl) optN ?_
  refine ARun.loadBox rfl rfl rfl rfl Tryz.underlying3 rfl (Ev.plain rfl) ((hG.at _ _).trans rfl) rfl optN ?_
  first | refine ARun.fieldPe rfl rfl rfl rfl Tryz.underlying60 rfl rfl sz3 (by decide) (Ev.plain rfl) rfl optN ?_ | refine ARun.fieldBox (fo := 0) rfl rfl rfl rfl Tryz.underlying60 rfl rfl sz3 (by decide) (Ev.plain rfl) ((hG.at _ _).trans rfl) optN ?_
  first | refine ARun.loadPe rfl rfl rfl rfl Tryz.underlying3 rfl (Ev.plain rfl) rfl optN ?_ | refine ARun.loadBox rfl rfl rfl rfl Tryz.underlying3 rfl (Ev.plain rfl) ((hG.at _ _).trans rfl) rfl optN ?_
  refine ARun.cmp rfl rfl rfl rfl (Ev.plain rfl) (Ev.plain rfl) rfl optN ?_
  refine ARun.move (.inr rfl) rfl rfl rfl (Ev.plain rfl) optN ?_
  refine ⟨_, _, rfl, hG, ?_⟩
  refine thenA_n ?_
  refine AWP.ret ?_
  refine endF.one (.inr rfl) rfl (.tmp rfl) ?_ hN
  rfl
set_option maxHeartbeats 1000000 in
theorem note_fn (l : List Se) (s : Se) (hl : l.length ≤ 1000) (hs : s.reply.size ≤ 9223372036854775807) : FnP Tryz.prog 50 [.sl (l.map aSe), aSe s] (.tup [.sl ((noteP l s).1.map aSe), .int .i64 (noteP l s).2]) := by
  have hr1 := idx_range (fun x : Se => decide (x.client = s.client)) l
  have hr2 := idx_range (fun x : Se => decide (s.client < x.client)) l
  refine FnP.of Tryz.func50 rfl rfl (by simp) (by simp [AV.cells, aSe]) (fun G hG => ?_)
  have hN : NoH G.length (.tup [.sl ((noteP l s).1.map aSe), .int .i64 (noteP l s).2]) := (by simp [AV.cells, aSe])
  refine AWP.seq ?_
  refine AWP.region (fun _ => ?_)
  refine ARun.box (j := 0) hG rfl rfl rfl rfl rfl (Ev.plain rfl) rfl rfl optN ?_
  refine ARun.move (.inr rfl) rfl rfl rfl (Ev.plain rfl) optN ?_
  refine ARun.move (.inr rfl) rfl rfl rfl (Ev.plain rfl) optN ?_
  refine ⟨_, _, rfl, hG, ?_⟩
  refine thenA_n ?_
  refine AWP.seq ?_
  refine AWP.region (fun _ => ?_)
  refine ARun.move (.inl rfl) rfl rfl rfl (Ev.plain rfl) optN ?_
  refine ARun.fieldBox (fo := 0) rfl rfl rfl rfl Tryz.underlying60 rfl rfl sz3 (by decide) (Ev.plain rfl) ((hG.at _ _).trans rfl) optN ?_
  refine ARun.loadBox rfl rfl rfl rfl Tryz.underlying3 rfl (Ev.plain rfl) ((hG.at _ _).trans rfl) rfl optN ?_
  refine ARun.fieldBox (fo := 1) rfl rfl rfl rfl Tryz.underlying60 rfl rfl sz3 (by decide) (Ev.plain rfl) ((hG.at _ _).trans rfl) optN ?_
  refine ARun.loadBox rfl rfl rfl rfl Tryz.underlying3 rfl (Ev.plain rfl) ((hG.at _ _).trans rfl) rfl optN ?_
  refine ARun.call rfl rfl rfl rfl cf49 (Ev.plain rfl) (.cons (Ev.plain rfl) (.cons (Ev.plain rfl) (.cons (Ev.plain rfl) .nil))) rfl (fun hg => ask_fn l s.client s.seq (by omega)) optN ?_
  refine ARun.move (.inl rfl) rfl rfl rfl (Ev.plain rfl) optN ?_
  refine ARun.extract rfl rfl rfl rfl (Ev.plain rfl) rfl optN ?_
  refine ARun.extract rfl rfl rfl rfl (Ev.plain rfl) rfl optN ?_
  refine ARun.extract rfl rfl rfl rfl (Ev.plain rfl) rfl optN ?_
  refine ARun.move (.inr rfl) rfl rfl rfl (Ev.plain rfl) optN ?_
  refine ARun.move (.inr rfl) rfl rfl rfl (Ev.plain rfl) optN ?_
  refine ARun.move (.inr rfl) rfl rfl rfl (Ev.plain rfl) optN ?_
  refine ⟨_, _, rfl, hG, ?_⟩
  refine thenA_n ?_
  refine AWP.seq ?_
  refine AWP.block ?_
  refine AWP.seq ?_
  refine AWP.region (fun _ => ?_)
  refine ARun.move (.inl rfl) rfl rfl rfl (Ev.plain rfl) optN ?_
  refine ARun.cmp rfl rfl rfl rfl (Ev.plain rfl) (Ev.plain rfl) rfl optN ?_
  refine ARun.move (.inr rfl) rfl rfl rfl (Ev.plain rfl) optN ?_
  refine ⟨_, _, rfl, hG, ?_⟩
  refine thenA_n ?_
  refine AWP.cond rfl (fun h0 => ?_) (fun h0 => ?_)
  · skip
    try simp at h0
    refine AWP.seq ?_
    refine AWP.region (fun _ => ?_)
    refine ARun.move (.inl rfl) rfl rfl rfl (Ev.plain rfl) optN ?_
    refine ARun.move (.inr rfl) rfl rfl rfl (Ev.plain rfl) optN ?_
    refine ARun.move (.inr rfl) rfl rfl rfl (Ev.plain rfl) optN ?_
    refine ⟨_, _, rfl, hG, ?_⟩
    refine thenA_n ?_
    refine AWP.ret ?_
    refine blockA_r ?_
    refine thenA_r ?_
    refine endF.many (.inr rfl) (rs := [.tmp 4, .tmp 5]) rfl (.cons (.tmp rfl) (.cons (.tmp rfl) .nil)) (by simp) ?_ hN
    rw [show noteP l s = ([], (askP l s.client s.seq).2.2) from by unfold noteP; rw [if_neg h0]]; rfl
  · skip
    try simp at h0
    refine AWP.seq ?_
    refine AWP.region (fun _ => ?_)
    refine ARun.loadBoxA rfl rfl rfl rfl Tryz.underlying60 rfl sz60 (Ev.plain rfl) ((hG.at _ _).trans rfl) rfl rfl optN ?_
    refine ARun.call rfl rfl rfl rfl cf78 (Ev.plain rfl) (.cons (Ev.plain rfl) .nil) rfl (fun hg => may_fn s) optN ?_
    refine ARun.not rfl rfl rfl rfl (Ev.plain rfl) optN ?_
    refine ARun.move (.inr rfl) rfl rfl rfl (Ev.plain rfl) optN ?_
    refine ⟨_, _, rfl, hG, ?_⟩
    refine thenA_n ?_
    refine AWP.cond rfl (fun h1 => ?_) (fun h1 => ?_)
    · skip
      try simp at h1
      refine AWP.seq ?_
      refine AWP.region (fun _ => ?_)
      refine ARun.move (.inr rfl) rfl rfl rfl (Ev.plain rfl) optN ?_
      refine ARun.move (.inr rfl) rfl rfl rfl (Ev.plain rfl) optN ?_
      refine ⟨_, _, rfl, hG, ?_⟩
      refine thenA_n ?_
      refine AWP.ret ?_
      refine blockA_r ?_
      refine thenA_r ?_
      refine endF.many (.inr rfl) (rs := [.tmp 4, .tmp 5]) rfl (.cons (.tmp rfl) (.cons (.tmp rfl) .nil)) (by simp) ?_ hN
      rw [show noteP l s = ([], 2) from by unfold noteP; rw [if_pos h0, if_neg (by simp [h1])]]; rfl
    · skip
      try simp at h1
      refine AWP.seq ?_
      refine AWP.region (fun _ => ?_)
      refine ARun.move (.inl rfl) rfl rfl rfl (Ev.plain rfl) optN ?_
      refine ARun.move (.inr rfl) rfl rfl rfl (Ev.plain rfl) optN ?_
      refine ⟨_, _, rfl, hG, ?_⟩
      refine thenA_n ?_
      refine AWP.cond rfl (fun h2 => ?_) (fun h2 => ?_)
      · skip
        try simp at h2
        refine AWP.seq ?_
        refine AWP.region (fun _ => ?_)
        refine ARun.move (.inr rfl) rfl rfl rfl (Ev.plain rfl) optN ?_
        refine ARun.move (.inr rfl) rfl rfl rfl (Ev.plain rfl) optN ?_
        refine ⟨_, _, rfl, hG, ?_⟩
        refine thenA_n ?_
        refine AWP.ret ?_
        refine blockA_r ?_
        refine thenA_r ?_
        refine endF.many (.inr rfl) (rs := [.tmp 4, .tmp 5]) rfl (.cons (.tmp rfl) (.cons (.tmp rfl) .nil)) (by simp) ?_ hN
        rw [show noteP l s = ([], 41) from by unfold noteP; rw [if_pos h0, if_pos h1, if_pos h2]]; rfl
      · skip
        try simp at h2
        refine AWP.skip ?_
        refine blockA_n ?_
        refine thenA_n ?_
        refine AWP.seq ?_
        refine AWP.region (fun _ => ?_)
        refine ARun.move (.inl rfl) rfl rfl rfl (Ev.plain rfl) optN ?_
        refine ARun.callNew (j := 1) hG rfl rfl rfl rfl rfl cf83 (Ev.plain rfl) (.cons (Ev.plain rfl) .nil) rfl (clone_new l (by omega)) optN ?_
        refine ARun.move (.inr rfl) rfl rfl rfl (Ev.plain rfl) optN ?_
        refine ⟨_, _, rfl, hG, ?_⟩
        refine thenA_n ?_
        refine AWP.seq ?_
        refine AWP.seq ?_
        refine AWP.region (fun _ => ?_)
        refine ARun.move (.inl rfl) rfl rfl rfl (Ev.plain rfl) optN ?_
        refine ARun.fieldBox (fo := 0) rfl rfl rfl rfl Tryz.underlying60 rfl rfl sz3 (by decide) (Ev.plain rfl) ((hG.at _ _).trans rfl) optN ?_
        refine ARun.loadBox rfl rfl rfl rfl Tryz.underlying3 rfl (Ev.plain rfl) ((hG.at _ _).trans rfl) rfl optN ?_
        refine ARun.call rfl rfl rfl rfl cf85 (Ev.plain rfl) (.cons (Ev.plain rfl) .nil) rfl (fun hg => of_fn _) optN ?_
        refine ARun.callLent rfl rfl rfl rfl cf84 (Ev.plain rfl) (.cons (Ev.plain rfl) (.cons (Ev.plain rfl) .nil)) rfl (.own ((hG.at _ _).trans rfl) (by simp [maxLen]; omega) (.same .nil)) (indexSe 119 [] [.pe [.int .i64 s.client]] (fun x => decide (x.client = s.client)) l (by omega) cf119 (by simp) (fun x _ => off_fn x s.client)) (by simp [AV.cells, aSe]) optN ?_
        refine ARun.move (.inr rfl) rfl rfl rfl (Ev.plain rfl) optN ?_
        refine ⟨_, _, rfl, hG, ?_⟩
        refine thenA_n ?_
        refine AWP.seq ?_
        refine AWP.region (fun _ => ?_)
        refine ARun.move (.inl rfl) rfl rfl rfl (Ev.plain rfl) optN ?_
        refine ARun.cmp rfl rfl rfl rfl (Ev.plain rfl) (Ev.plain rfl) rfl optN ?_
        refine ⟨_, _, rfl, hG, ?_⟩
        refine thenA_n ?_
        refine AWP.cond rfl (fun h3 => ?_) (fun h3 => ?_)
        · skip
          try simp at h3
          refine AWP.seq ?_
          refine AWP.region (fun _ => ?_)
          refine ARun.move (.inl rfl) rfl rfl rfl (Ev.plain rfl) optN ?_
          refine ARun.move (.inl rfl) rfl rfl rfl (Ev.plain rfl) optN ?_
          refine ARun.loadBoxA rfl rfl rfl rfl Tryz.underlying60 rfl sz60 (Ev.plain rfl) ((hG.at _ _).trans rfl) rfl rfl optN ?_
          refine ARun.indexOwn (j := (idxOf (fun x => decide (x.client = s.client)) l).toNat) rfl rfl rfl rfl Tryz.underlying37 sz60 ((hG.at _ _).trans rfl) (Ev.plain rfl) (Ev.plain rfl) (fun hg => ofNonneg (by omega)) (fun hg => (by simp; omega)) optN ?_
          refine ARun.storeEltL (zs := (l.map aSe).set (idxOf (fun x => decide (x.client = s.client)) l).toNat (aSe s)) hG rfl rfl rfl sz60 (Ev.plain rfl) (Ev.plain rfl) rfl rfl rfl rfl rfl (by simp; omega) (flat_set _ _ (aSe s) (by simp [aSe, AV.cells]) rfl (by simp; omega)) (by simp) (set_cells (by simp [aSe, AV.cells]) rfl) rfl ?_
          refine ⟨_, _, rfl, hG, ?_⟩
          refine thenA_n ?_
          refine AWP.seq ?_
          refine AWP.region (fun _ => ?_)
          refine ARun.move (.inl rfl) rfl rfl rfl (Ev.plain rfl) optN ?_
          refine ARun.move (.inr rfl) rfl rfl rfl (Ev.plain rfl) optN ?_
          refine ARun.move (.inr rfl) rfl rfl rfl (Ev.plain rfl) optN ?_
          refine ⟨_, _, rfl, hG, ?_⟩
          refine thenA_n ?_
          refine AWP.frzOwn 4 hG rfl rfl (by decide) (by simp [maxLen]; omega) rfl ?_
          refine AWP.ret ?_
          refine thenA_r ?_
          refine endF.many (.inr rfl) (rs := [.tmp 4, .tmp 5]) rfl (.cons (.tmp rfl) (.cons (.tmp rfl) .nil)) (by simp) ?_ hN
          rw [show noteP l s = (putP l s, 0) from by unfold noteP; rw [if_pos h0, if_pos h1, if_neg (by simp [h2])], show (putP l s).map aSe = _ from by unfold putP; rw [if_pos (by omega), List.map_set]]; rfl
        · skip
          try simp at h3
          refine AWP.skip ?_
          refine thenA_n ?_
          refine AWP.seq ?_
          refine AWP.frzBox 3 hG rfl rfl rfl ?_
          refine AWP.region (fun _ => ?_)
          refine ARun.move (.inl rfl) rfl rfl rfl (Ev.plain rfl) optN ?_
          refine ARun.makeFunc rfl rfl rfl rfl .nil (.cons (Ev.plain rfl) .nil) optN ?_
          refine ARun.callLent rfl rfl rfl rfl cf84 (Ev.plain rfl) (.cons (Ev.plain rfl) (.cons (Ev.plain rfl) .nil)) rfl (.own ((hG.at _ _).trans rfl) (by simp [maxLen]; omega) (.same .nil)) (indexSe 86 [] [.pe (aSe s).cells] (fun x => decide (s.client < x.client)) l (by omega) cf86 (by simp [aSe, AV.cells]) (fun x _ => noteF_fn x s)) (by simp [AV.cells, aSe]) optN ?_
          refine ARun.move (.inr rfl) rfl rfl rfl (Ev.plain rfl) optN ?_
          refine ⟨_, _, rfl, hG, ?_⟩
          refine thenA_n ?_
          refine AWP.seq ?_
          refine AWP.seq ?_
          refine AWP.region (fun _ => ?_)
          refine ARun.move (.inl rfl) rfl rfl rfl (Ev.plain rfl) optN ?_
          refine ARun.cmp rfl rfl rfl rfl (Ev.plain rfl) (Ev.plain rfl) rfl optN ?_
          refine ⟨_, _, rfl, hG, ?_⟩
          refine thenA_n ?_
          refine AWP.cond rfl (fun h4 => ?_) (fun h4 => ?_)
          · skip
            try simp at h4
            refine AWP.region (fun _ => ?_)
            refine ARun.move (.inl rfl) rfl rfl rfl (Ev.plain rfl) optN ?_
            refine ARun.lenOwn rfl rfl rfl rfl Tryz.underlying37 (Ev.plain rfl) ((hG.at _ _).trans rfl) optN ?_
            refine ARun.move (.inr rfl) rfl rfl rfl (Ev.plain rfl) optN ?_
            refine ⟨_, _, rfl, hG, ?_⟩
            refine thenA_n ?_
            refine AWP.seq ?_
            refine AWP.region (fun _ => ?_)
            refine ARun.move (.inl rfl) rfl rfl rfl (Ev.plain rfl) optN ?_
            refine ARun.move (.inl rfl) rfl rfl rfl (Ev.plain rfl) optN ?_
            refine ARun.loadPeA rfl rfl rfl rfl Tryz.underlying60 rfl sz60 (Ev.plain rfl) rfl optN ?_
            refine ARun.buildOwn (j := 2) hG rfl rfl rfl rfl rfl Tryz.underlying37 sz60 zv60 rfl (by decide) (.cons (Ev.plain rfl) .nil) rfl rfl rfl rfl (by decide) rfl rfl optN ?_
            refine ARun.callSet (j := 1) hG rfl rfl rfl rfl cf87 (Ev.plain rfl) (.cons (Ev.plain rfl) (.cons (Ev.plain rfl) (.cons (Ev.plain rfl) .nil))) rfl (insertSe_fn (l.map aSe) (aSe s) l.length (by simp) (by simp; omega) (by simp [aSe, AV.cells, AV.one]) rfl (i := G.length + 1) (i2 := G.length + 2) (by simp) ((hG.at _ _).trans rfl) ((hG.at _ _).trans rfl) (by omega)) rfl optN ?_
            refine ARun.move (.inr rfl) rfl rfl rfl (Ev.plain rfl) optN ?_
            refine ARun.move (.inr rfl) rfl rfl rfl (Ev.plain rfl) optN ?_
            refine ⟨_, _, rfl, hG, ?_⟩
            refine thenA_n ?_
            refine AWP.frzOwn 4 hG rfl rfl (by decide) (by simp [maxLen]; omega) rfl ?_
            refine AWP.ret ?_
            refine endF.many (.inr rfl) (rs := [.tmp 4, .tmp 5]) rfl (.cons (.tmp rfl) (.cons (.tmp rfl) .nil)) (by simp) ?_ hN
            rw [show noteP l s = (putP l s, 0) from by unfold noteP; rw [if_pos h0, if_pos h1, if_neg (by simp [h2])], show (putP l s).map aSe = (l.map aSe).take l.length ++ [aSe s] ++ (l.map aSe).drop l.length from by unfold putP; rw [if_neg (by omega), if_pos (by omega)]; exact ins_map _ _ _]; rfl
          · skip
            try simp at h4
            refine AWP.skip ?_
            refine thenA_n ?_
            refine AWP.seq ?_
            refine AWP.region (fun _ => ?_)
            refine ARun.move (.inl rfl) rfl rfl rfl (Ev.plain rfl) optN ?_
            refine ARun.move (.inl rfl) rfl rfl rfl (Ev.plain rfl) optN ?_
            refine ARun.loadPeA rfl rfl rfl rfl Tryz.underlying60 rfl sz60 (Ev.plain rfl) rfl optN ?_
            refine ARun.buildOwn (j := 2) hG rfl rfl rfl rfl rfl Tryz.underlying37 sz60 zv60 rfl (by decide) (.cons (Ev.plain rfl) .nil) rfl rfl rfl rfl (by decide) rfl rfl optN ?_
            refine ARun.callSet (j := 1) hG rfl rfl rfl rfl cf87 (Ev.plain rfl) (.cons (Ev.plain rfl) (.cons (Ev.plain rfl) (.cons (Ev.plain rfl) .nil))) rfl (insertSe_fn (l.map aSe) (aSe s) (idxOf (fun x => decide (s.client < x.client)) l).toNat (by simp; omega) (by simp; omega) (by simp [aSe, AV.cells, AV.one]) rfl (i := G.length + 1) (i2 := G.length + 2) (by omega) ((hG.at _ _).trans rfl) ((hG.at _ _).trans rfl) (by omega)) rfl optN ?_
            refine ARun.move (.inr rfl) rfl rfl rfl (Ev.plain rfl) optN ?_
            refine ARun.move (.inr rfl) rfl rfl rfl (Ev.plain rfl) optN ?_
            refine ⟨_, _, rfl, hG, ?_⟩
            refine thenA_n ?_
            refine AWP.frzOwn 4 hG rfl rfl (by decide) (by simp [maxLen]; omega) rfl ?_
            refine AWP.ret ?_
            refine endF.many (.inr rfl) (rs := [.tmp 4, .tmp 5]) rfl (.cons (.tmp rfl) (.cons (.tmp rfl) .nil)) (by simp) ?_ hN
            rw [show noteP l s = (putP l s, 0) from by unfold noteP; rw [if_pos h0, if_pos h1, if_neg (by simp [h2])], show (putP l s).map aSe = (l.map aSe).take (idxOf (fun x => decide (s.client < x.client)) l).toNat ++ [aSe s] ++ (l.map aSe).drop (idxOf (fun x => decide (s.client < x.client)) l).toNat from by unfold putP; rw [if_neg (by omega), if_neg (by omega)]; exact ins_map _ _ _]; rfl
end Go.Proofs.YtgebpndhnkkbgaaGreatDoor.Ssn
namespace Go.Proofs.YtgebpndhnkkbgaaGreatDoor.Ssn
set_option linter.unusedVariables false
set_option linter.unusedSimpArgs false
open SessP
theorem idxOf_nil {α : Type} (p : α → Bool) : idxOf p [] = -1 := by simp [idxOf]
theorem idxOf_cons {α : Type} (p : α → Bool) (x : α) (l : List α) : idxOf p (x :: l) = if p x = true then 0 else if 0 ≤ idxOf p l then idxOf p l + 1 else -1 := by
  unfold idxOf
  rw [List.findIdx?_cons]
  by_cases h : p x = true
  · simp [h]
  · rw [if_neg h, if_neg h]
    cases l.findIdx? p with
    | none => simp
    | some i => simp
theorem idxOf_hit {α : Type} {p : α → Bool} {x : α} (l : List α) (h : p x = true) : idxOf p (x :: l) = 0 := by rw [idxOf_cons, if_pos h]
theorem idxOf_far {α : Type} {p : α → Bool} {x : α} {l : List α} (h : p x = false) (h2 : 0 ≤ idxOf p l) : idxOf p (x :: l) = idxOf p l + 1 := by rw [idxOf_cons, if_neg (by simp [h]), if_pos h2]
theorem idxOf_mis {α : Type} {p : α → Bool} {x : α} {l : List α} (h : p x = false) (h2 : ¬ 0 ≤ idxOf p l) : idxOf p (x :: l) = -1 := by rw [idxOf_cons, if_neg (by simp [h]), if_neg h2]
theorem idxOf_ge {α : Type} (p : α → Bool) (l : List α) : -1 ≤ idxOf p l := (idx_range p l).1
/-- each is later than p, and than those before it -/
def asc : Int → List Se → Prop
  | _, [] => True
  | p, x :: l => p < x.client ∧ asc x.client l
theorem asc_of_ok : ∀ (l : List Se) (p : Int), okFrom p l = true → asc p l := by
  intro l
  induction l with
  | nil => intro p _; trivial
  | cons x l ih =>
    intro p h
    simp only [okFrom, Bool.and_eq_true, decide_eq_true_eq] at h
    exact ⟨h.1.2, ih _ h.2⟩
theorem asc_all : ∀ (l : List Se) (p : Int), asc p l → ∀ x, x ∈ l → p < x.client := by
  intro l
  induction l with
  | nil => intro p _ x hx; cases hx
  | cons y l ih =>
    intro p h x hx
    rcases List.mem_cons.1 hx with rfl | hx
    · exact h.1
    · exact Int.lt_trans h.1 (ih _ h.2 x hx)
theorem idxOf_no {α : Type} (p : α → Bool) (l : List α) (h : ∀ x, x ∈ l → p x = false) : idxOf p l = -1 := by
  unfold idxOf
  rw [List.findIdx?_eq_none_iff.2 (fun x hx => by simp [h x hx])]
/-- put, from the front -/
def putR : List Se → Se → List Se
  | [], s => [s]
  | x :: t, s => if x.client < s.client then x :: putR t s else if x.client = s.client then s :: t else s :: x :: t
theorem putP_eq : ∀ (l : List Se) (s : Se) (p : Int), asc p l → putP l s = putR l s := by
  intro l
  induction l with
  | nil => intro s p _; simp [putP, putR, idxOf_nil]
  | cons x l ih =>
    intro s p h
    have hr1 := idxOf_ge (fun x : Se => decide (x.client = s.client)) l
    have hr2 := idxOf_ge (fun x : Se => decide (s.client < x.client)) l
    unfold putR
    by_cases h1 : x.client < s.client
    · rw [if_pos h1, ← ih s _ h.2]
      have n1 : (fun x : Se => decide (x.client = s.client)) x = false := by simp; omega
      have n2 : (fun x : Se => decide (s.client < x.client)) x = false := by simp; omega
      unfold putP
      by_cases c1 : 0 ≤ idxOf (fun x : Se => decide (x.client = s.client)) l
      · rw [idxOf_far (p := fun x : Se => decide (x.client = s.client)) (x := x) (l := l) n1 c1, if_pos (by omega), if_pos c1, show (idxOf (fun x : Se => decide (x.client = s.client)) l + 1).toNat = (idxOf (fun x : Se => decide (x.client = s.client)) l).toNat + 1 by omega]
        rfl
      · rw [idxOf_mis (p := fun x : Se => decide (x.client = s.client)) (x := x) (l := l) n1 c1, if_neg (by omega), if_neg c1]
        by_cases c2 : 0 ≤ idxOf (fun x : Se => decide (s.client < x.client)) l
        · rw [idxOf_far (p := fun x : Se => decide (s.client < x.client)) (x := x) (l := l) n2 c2, if_neg (by omega), if_neg (by omega), show (idxOf (fun x : Se => decide (s.client < x.client)) l + 1).toNat = (idxOf (fun x : Se => decide (s.client < x.client)) l).toNat + 1 by omega]
          rfl
        · rw [idxOf_mis (p := fun x : Se => decide (s.client < x.client)) (x := x) (l := l) n2 c2, if_pos (by omega), if_pos (by omega)]
          rfl
    · rw [if_neg h1]
      by_cases h2 : x.client = s.client
      · rw [if_pos h2]
        unfold putP
        rw [idxOf_hit l (p := fun x : Se => decide (x.client = s.client)) (by simpa using h2), if_pos (by omega)]
        rfl
      · rw [if_neg h2]
        have hn := asc_all l _ h.2
        have n1 : (fun x : Se => decide (x.client = s.client)) x = false := by simpa using h2
        have n2 : (fun x : Se => decide (s.client < x.client)) x = true := by simp; omega
        unfold putP
        rw [idxOf_mis (p := fun x : Se => decide (x.client = s.client)) (x := x) (l := l) n1 (by rw [idxOf_no _ l (fun y hy => by have := hn y hy; simp; omega)]; omega), if_neg (by omega), idxOf_hit (p := fun x : Se => decide (s.client < x.client)) (x := x) l n2, if_neg (by omega)]
        rfl
theorem okE_ok {l : List Se} (h : okE l = 0) : l.length ≤ 20 ∧ okFrom 0 l = true := by
  unfold okE ok at h
  split at h
  · rename_i h2; simpa using h2
  · cases h
theorem askP_ok {l : List Se} {c q : Int} (h : (askP l c q).2.2 = 0) : okE l = 0 ∧ numB c = true ∧ numB q = true := by
  unfold askP at h
  split at h
  · assumption
  · cases h
theorem numB_iff (n : Int) : numB n = true ↔ 1 ≤ n ∧ n ≤ 99999 := by unfold numB; simp
theorem map_snoc {α β : Type} (f : α → β) (l : List α) (x : α) : l.map f ++ [f x] = (l ++ [x]).map f := by simp
theorem flt_yes {q : Se → Bool} {l : List Se} {k : Nat} (hk : k < l.length) (h : q (l.getD k default) = true) : (l.take k).filter q ++ [l.getD k default] = (l.take (k + 1)).filter q := by
  rw [List.take_succ_eq_append_getElem hk, List.filter_append, ← Se_idx hk]; congr 1; simp only [List.filter, h]
theorem flt_no {q : Se → Bool} {l : List Se} {k : Nat} (hk : k < l.length) (h : q (l.getD k default) = false) : (l.take k).filter q = (l.take (k + 1)).filter q := by
  rw [List.take_succ_eq_append_getElem hk, List.filter_append, ← Se_idx hk]; simp only [List.filter, h, List.append_nil]
/-! ### what the laws ask -/
theorem okFrom_iff : ∀ (l : List Se) (p : Int), okFrom p l = true ↔ (∀ x, x ∈ l → may x = true) ∧ asc p l := by
  intro l
  induction l with
  | nil => intro p; simp [okFrom, asc]
  | cons x l ih =>
    intro p
    simp only [okFrom, Bool.and_eq_true, decide_eq_true_eq, ih, asc, List.mem_cons, forall_eq_or_imp]
    constructor
    · rintro ⟨⟨a, b⟩, c, d⟩; exact ⟨⟨a, c⟩, b, d⟩
    · rintro ⟨⟨a, c⟩, b, d⟩; exact ⟨⟨a, b⟩, c, d⟩
theorem putR_asc : ∀ (l : List Se) (s : Se) (p : Int), asc p l → p < s.client → asc p (putR l s) := by
  intro l
  induction l with
  | nil => intro s p _ h; exact ⟨h, trivial⟩
  | cons x l ih =>
    intro s p h hp
    unfold putR
    split
    · rename_i h1; exact ⟨h.1, ih s _ h.2 h1⟩
    · split
      · rename_i h1 h2; exact ⟨hp, h2 ▸ h.2⟩
      · rename_i h1 h2; exact ⟨hp, by omega, h.2⟩
theorem putR_mem : ∀ (l : List Se) (s x : Se), x ∈ putR l s → x = s ∨ x ∈ l := by
  intro l
  induction l with
  | nil => intro s x h; simpa [putR] using h
  | cons y l ih =>
    intro s x h
    unfold putR at h
    split at h
    · rcases List.mem_cons.1 h with rfl | h
      · exact .inr List.mem_cons_self
      · rcases ih s x h with h | h
        · exact .inl h
        · exact .inr (List.mem_cons_of_mem _ h)
    · split at h
      · rcases List.mem_cons.1 h with rfl | h
        · exact .inl rfl
        · exact .inr (List.mem_cons_of_mem _ h)
      · rcases List.mem_cons.1 h with rfl | h
        · exact .inl rfl
        · exact .inr h
theorem findP_nil (c : Int) : findP [] c = (default, false) := by unfold findP; rw [idxOf_nil, if_neg (by omega)]
theorem findP_cons (x : Se) (l : List Se) (c : Int) : findP (x :: l) c = if x.client = c then (x, true) else findP l c := by
  by_cases h : x.client = c
  · rw [if_pos h]
    unfold findP
    rw [idxOf_hit l (p := fun x : Se => decide (x.client = c)) (by simpa using h), if_pos (by omega)]; rfl
  · rw [if_neg h]
    have n1 : (fun x : Se => decide (x.client = c)) x = false := by simpa using h
    unfold findP
    by_cases h2 : 0 ≤ idxOf (fun x : Se => decide (x.client = c)) l
    · rw [idxOf_far (p := fun x : Se => decide (x.client = c)) (x := x) (l := l) n1 h2, if_pos h2, if_pos (by omega), show (idxOf (fun x : Se => decide (x.client = c)) l + 1).toNat = (idxOf (fun x : Se => decide (x.client = c)) l).toNat + 1 by omega]; rfl
    · rw [idxOf_mis (p := fun x : Se => decide (x.client = c)) (x := x) (l := l) n1 h2, if_neg h2, if_neg (by omega)]
theorem findP_no {l : List Se} {c : Int} (h : ∀ x, x ∈ l → x.client ≠ c) : findP l c = (default, false) := by
  unfold findP
  rw [idxOf_no _ l (fun x hx => by simpa using h x hx), if_neg (by omega)]
theorem findP_putR : ∀ (l : List Se) (s : Se) (c : Int), findP (putR l s) c = if c = s.client then (s, true) else findP l c := by
  intro l
  induction l with
  | nil => intro s c; unfold putR; rw [findP_cons, findP_nil]; by_cases h : c = s.client <;> simp [h]; intro h2; exact absurd h2.symm h
  | cons x l ih =>
    intro s c
    unfold putR
    split
    · rename_i h1
      rw [findP_cons, ih, findP_cons]
      by_cases h : c = s.client
      · rw [if_pos h, if_neg (by omega), if_pos h]
      · rw [if_neg h, if_neg h]
    · split
      · rename_i h1 h2
        rw [findP_cons, findP_cons]
        by_cases h : c = s.client
        · rw [if_pos h, if_pos h.symm]
        · rw [if_neg h, if_neg (fun e => h e.symm), if_neg (by omega)]
      · rename_i h1 h2
        rw [findP_cons]
        by_cases h : c = s.client
        · rw [if_pos h, if_pos h.symm]
        · rw [if_neg h, if_neg (fun e => h e.symm)]
theorem putR_len : ∀ (l : List Se) (s : Se) (p : Int), asc p l → (putR l s).length ≤ l.length + 1 ∧ ((findP l s.client).2 = true → (putR l s).length = l.length) := by
  intro l
  induction l with
  | nil => intro s p _; simp [putR, findP_nil]
  | cons x l ih =>
    intro s p h
    obtain ⟨h1, h2⟩ := ih s _ h.2
    have hn := asc_all l _ h.2
    unfold putR
    rw [findP_cons]
    split
    · rename_i hx
      rw [if_neg (by omega)]
      simp only [List.length_cons]
      exact ⟨by omega, fun h => by rw [h2 h]⟩
    · split
      · simp
      · rename_i a b
        rw [findP_no (fun y hy => by have := hn y hy; omega)]
        simp
end Go.Proofs.YtgebpndhnkkbgaaGreatDoor.Ssn
namespace Go.Proofs.YtgebpndhnkkbgaaGreatDoor.Ssn
set_option linter.unusedVariables false
set_option linter.unusedSimpArgs false
open Go.RowKit
open SessP
set_option maxRecDepth 100000
/-- few sessions, with short replies -/
def fewB (l : List Se) : Bool := decide (l.length ≤ 60) && l.all fun x => decide (x.reply.size ≤ 1000)
theorem few_bad {l : List Se} {k : Nat} (hk : k < l.length) (h : 1000 < (l.getD k default).reply.size) : fewB l = false := by
  unfold fewB
  rw [Bool.and_eq_false_iff]; right
  rw [List.all_eq_false]
  exact ⟨l[k], List.getElem_mem hk, by rw [Se_idx hk] at h; simp; omega⟩
theorem few_good {l : List Se} (h : l.length ≤ 60) (h2 : ∀ j, j < l.length → (l.getD j default).reply.size ≤ 1000) : fewB l = true := by
  unfold fewB
  rw [decide_eq_true h, Bool.true_and, List.all_eq_true]
  intro x hx
  obtain ⟨j, hj, rfl⟩ := List.mem_iff_getElem.1 hx
  have := h2 j hj
  rw [Se_idx hj] at this
  exact decide_eq_true this
set_option maxHeartbeats 1000000 in
theorem few_fn (l : List Se) : FnP Tryz.prog 42 [.sl (l.map aSe)] (.bool (fewB l)) := by
  refine FnP.of Tryz.func42 rfl rfl (by simp) (by simp [AV.cells, aSe]) (fun G hG => ?_)
  have hN : NoH G.length (.bool (fewB l)) := (by simp [AV.cells, aSe])
  refine AWP.seq ?_
  refine AWP.region (fun _ => ?_)
  refine ARun.move (.inr rfl) rfl rfl rfl (Ev.plain rfl) optN ?_
  refine ⟨_, _, rfl, hG, ?_⟩
  refine thenA_n ?_
  refine AWP.seq ?_
  refine AWP.seq ?_
  refine AWP.region (fun _ => ?_)
  refine ARun.move (.inl rfl) rfl rfl rfl (Ev.plain rfl) optN ?_
  refine ARun.lenSl rfl rfl rfl rfl Tryz.underlying37 (Ev.plain rfl) optN ?_
  refine ARun.cmp rfl rfl rfl rfl (Ev.plain rfl) (Ev.plain rfl) rfl optN ?_
  refine ⟨_, _, rfl, hG, ?_⟩
  refine thenA_n ?_
  refine AWP.cond rfl (fun h0 => ?_) (fun h0 => ?_)
  · skip
    simp [-List.getD_eq_getElem?_getD] at h0
    refine AWP.seq ?_
    refine AWP.region (fun _ => ?_)
    refine ARun.move (.inr rfl) rfl rfl rfl (Ev.plain rfl) optN ?_
    refine ⟨_, _, rfl, hG, ?_⟩
    refine thenA_n ?_
    refine AWP.ret ?_
    refine thenA_r ?_
    refine endF.one (.inr rfl) rfl (.tmp rfl) ?_ hN
    rw [show fewB l = false from by unfold fewB; rw [decide_eq_false (by omega)]; rfl]; rfl
  · skip
    simp [-List.getD_eq_getElem?_getD] at h0
    refine AWP.skip ?_
    refine thenA_n ?_
    refine AWP.seq ?_
    refine AWP.seq ?_
    refine AWP.region (fun _ => ?_)
    refine ARun.move (.inr rfl) rfl rfl rfl (Ev.plain rfl) optN ?_
    refine ⟨_, _, rfl, hG, ?_⟩
    refine thenA_n ?_
    refine AWP.block ?_
    refine AWP.rounds (fun k => k ≤ l.length ∧ ∀ j, j < k → (l.getD j default).reply.size ≤ 1000) (fun k => [(0, .sl (l.map aSe)), (3, .int .i64 (k : Int))]) (fun k => []) (fun k => l.length - k) 0 0 ⟨by omega, fun j h => by omega⟩ (by repeat (first | exact .nil | refine .cons rfl ?_)) rfl (fun _ => rfl) (fun _ => (by simp [AO.conts, AV.cells, aSe])) (fun k hI => ?_)
    obtain ⟨hk, hno⟩ := hI
    refine AWP.seq ?_
    refine AWP.seq ?_
    refine AWP.region (fun _ => ?_)
    refine ARun.move (.inl rfl) rfl rfl rfl (Ev.plain rfl) optN ?_
    refine ARun.move (.inl rfl) rfl rfl rfl (Ev.plain rfl) optN ?_
    refine ARun.lenSl rfl rfl rfl rfl Tryz.underlying37 (Ev.plain rfl) optN ?_
    refine ARun.cmp rfl rfl rfl rfl (Ev.plain rfl) (Ev.plain rfl) rfl optN ?_
    refine ⟨_, _, rfl, hG, ?_⟩
    refine thenA_n ?_
    refine AWP.cond rfl (fun h1 => ?_) (fun h1 => ?_)
    · skip
      simp [-List.getD_eq_getElem?_getD] at h1
      refine AWP.skip ?_
      refine thenA_n ?_
      refine AWP.seq ?_
      refine AWP.block ?_
      refine AWP.seq ?_
      refine AWP.region (fun _ => ?_)
      refine ARun.move (.inl rfl) rfl rfl rfl (Ev.plain rfl) optN ?_
      refine ARun.move (.inl rfl) rfl rfl rfl (Ev.plain rfl) optN ?_
      first | refine ARun.indexSl rfl rfl rfl rfl Tryz.underlying37 sz60 (Ev.plain rfl) (Ev.plain rfl) (fun _ => rfl) (fun hg => getMap _ _ _ (by (try simp at hg); omega)) rfl rfl optN ?_ | refine ARun.indexSl rfl rfl rfl rfl Tryz.underlying37 sz60 (Ev.plain rfl) (Ev.plain rfl) (fun hg => ofNonneg (by (try simp at hg); omega)) (fun hg => getMap _ _ _ (by (try simp at hg); omega)) rfl rfl optN ?_
      refine ARun.fieldPe rfl rfl rfl rfl Tryz.underlying60 rfl rfl sz9 (by decide) (Ev.plain rfl) rfl optN ?_
      refine ARun.loadPe rfl rfl rfl rfl Tryz.underlying9 rfl (Ev.plain rfl) rfl optN ?_
      refine ARun.lenStr rfl rfl rfl rfl Tryz.underlying9 (Ev.plain rfl) optN ?_
      refine ARun.cmp rfl rfl rfl rfl (Ev.plain rfl) (Ev.plain rfl) rfl optN ?_
      refine ⟨_, _, rfl, hG, ?_⟩
      refine thenA_n ?_
      refine AWP.cond rfl (fun h2 => ?_) (fun h2 => ?_)
      · skip
        simp [-List.getD_eq_getElem?_getD] at h2
        refine AWP.seq ?_
        refine AWP.region (fun _ => ?_)
        refine ARun.move (.inr rfl) rfl rfl rfl (Ev.plain rfl) optN ?_
        refine ⟨_, _, rfl, hG, ?_⟩
        refine thenA_n ?_
        refine AWP.ret ?_
        refine blockA_r ?_
        refine thenA_r ?_
        refine thenA_r ?_
        refine blockA_r ?_
        refine thenA_r ?_
        refine endF.one (.inr rfl) rfl (.tmp rfl) ?_ hN
        rw [few_bad h1 (by omega)]; rfl
      · skip
        simp [-List.getD_eq_getElem?_getD] at h2
        refine AWP.skip ?_
        refine blockA_n ?_
        refine thenA_n ?_
        refine AWP.region (fun _ => ?_)
        refine ARun.move (.inl rfl) rfl rfl rfl (Ev.plain rfl) optN ?_
        first | refine ARun.arith rfl rfl rfl rfl (Ev.plain rfl) (Ev.plain rfl) rfl (fun hg => i64w (by (try simp at hg); omega)) optN ?_ | refine ARun.arith rfl rfl rfl rfl (Ev.plain rfl) (Ev.plain rfl) rfl (fun _ => rfl) optN ?_
        refine ARun.move (.inr rfl) rfl rfl rfl (Ev.plain rfl) optN ?_
        refine ⟨_, _, rfl, hG, ?_⟩
        refine thenA_n ⟨rfl, k + 1, _, ?_, ?_, rfl, ?_⟩
        · refine ⟨by omega, fun j hj => ?_⟩
          by_cases e : j = k
          · subst e; omega
          · exact hno j (by omega)
        · repeat (first | exact .nil | refine .cons rfl ?_)
        · omega
    · skip
      simp [-List.getD_eq_getElem?_getD] at h1
      refine AWP.exit ?_
      refine thenA_x ?_
      refine thenA_x ?_
      refine blockA_h ?_
      refine thenA_n ?_
      refine AWP.seq ?_
      refine AWP.region (fun _ => ?_)
      refine ARun.move (.inr rfl) rfl rfl rfl (Ev.plain rfl) optN ?_
      refine ⟨_, _, rfl, hG, ?_⟩
      refine thenA_n ?_
      refine AWP.ret ?_
      refine endF.one (.inr rfl) rfl (.tmp rfl) ?_ hN
      rw [few_good (by omega) (fun j hj => hno j (by omega))]; rfl
end Go.Proofs.YtgebpndhnkkbgaaGreatDoor.Ssn
namespace Go.Proofs.YtgebpndhnkkbgaaGreatDoor.Ssn
set_option linter.unusedVariables false
set_option linter.unusedSimpArgs false
open SessP
theorem askP_rng (l : List Se) (c q : Int) : 0 ≤ (askP l c q).2.2 ∧ (askP l c q).2.2 ≤ 45 := by
  unfold askP
  split
  · split
    · split
      · exact ⟨by simp, by simp⟩
      · split <;> exact ⟨by simp, by simp⟩
    · split <;> exact ⟨by simp, by simp⟩
  · exact ⟨by simp, by simp⟩
/-- a call that was noted -/
theorem note_good {l : List Se} {s : Se} (h : (noteP l s).2 = 0) : (askP l s.client s.seq).2.2 = 0 ∧ may s = true ∧ (askP l s.client s.seq).2.1 = false ∧ (noteP l s).1 = putR l s := by
  unfold noteP at h ⊢
  by_cases h1 : (askP l s.client s.seq).2.2 = 0
  · rw [if_pos h1] at h ⊢
    by_cases h2 : may s = true
    · rw [if_pos h2] at h ⊢
      by_cases h3 : (askP l s.client s.seq).2.1 = true
      · rw [if_pos h3] at h; cases h
      · rw [if_neg h3]
        exact ⟨h1, h2, by simpa using h3, putP_eq l s 0 (asc_of_ok l 0 (okE_ok (askP_ok h1).1).2)⟩
    · rw [if_neg h2] at h; cases h
  · rw [if_neg h1] at h; exact absurd h h1
theorem ask_room {l : List Se} {c q : Int} (h : (askP l c q).2.2 = 0) (hf : (findP l c).2 = false) : l.length < 20 := by
  have h1 := askP_ok h
  unfold askP at h
  rw [if_pos h1, if_neg (by simp [hf])] at h
  split at h
  · cases h
  · omega
theorem note_ok {l : List Se} {s : Se} (h : (noteP l s).2 = 0) : okE (noteP l s).1 = 0 := by
  obtain ⟨h1, h2, h3, h4⟩ := note_good h
  obtain ⟨hl, ho⟩ := okE_ok (askP_ok h1).1
  have ha := (okFrom_iff l 0).1 ho
  have hlen := putR_len l s 0 ha.2
  rw [h4]
  refine okE_good ?_ ((okFrom_iff _ _).2 ⟨fun x hx => ?_, putR_asc l s 0 ha.2 (may_pos h2)⟩)
  · cases hf : (findP l s.client).2 with
    | true => rw [hlen.2 hf]; exact hl
    | false => have := ask_room h1 hf; omega
  · rcases putR_mem l s x hx with rfl | hx
    · exact h2
    · exact ha.1 x hx
theorem find_note {l : List Se} {s : Se} (h : (noteP l s).2 = 0) (c : Int) : findP (noteP l s).1 c = if c = s.client then (s, true) else findP l c := by
  rw [(note_good h).2.2.2, findP_putR]
theorem ask_after {l : List Se} {s : Se} (h : (noteP l s).2 = 0) (n : Int) : askP (noteP l s).1 s.client n = if numB n = true then (if s.seq = n then (s.reply, true, 0) else if n < s.seq then (⟨#[]⟩, false, 45) else (⟨#[]⟩, false, 0)) else (⟨#[]⟩, false, 2) := by
  have h1 := (askP_ok (note_good h).1).2.1
  have h2 := note_ok h
  have h3 : findP (noteP l s).1 s.client = (s, true) := by rw [find_note h, if_pos rfl]
  unfold askP
  by_cases hn : numB n = true
  · rw [if_pos ⟨h2, h1, hn⟩, if_pos hn, h3, if_pos rfl]
  · rw [if_neg (fun e => hn e.2.2), if_neg hn]
end Go.Proofs.YtgebpndhnkkbgaaGreatDoor.Ssn
namespace Go.Proofs.YtgebpndhnkkbgaaGreatDoor.StockP
set_option linter.unusedVariables false
set_option linter.unusedSimpArgs false
/-- lines one behind the other, their items growing from p on -/
def okLFrom : Int → List Ln → Bool
  | _, [] => true
  | p, x :: l => decide (p < x.item ∧ x.item ≤ 99999 ∧ 1 ≤ x.qty ∧ x.qty ≤ 1000000) && okLFrom x.item l
def okL (l : List Ln) : Bool := decide (1 ≤ l.length ∧ l.length ≤ 5) && okLFrom 0 l
def okLE (l : List Ln) : Int := if okL l = true then 0 else 2
def lastL : Int → List Ln → Int
  | p, [] => p
  | _, x :: l => lastL x.item l
theorem okLFrom_snoc (l : List Ln) (x : Ln) : ∀ p, okLFrom p (l ++ [x]) = (okLFrom p l && decide (lastL p l < x.item ∧ x.item ≤ 99999 ∧ 1 ≤ x.qty ∧ x.qty ≤ 1000000)) := by
  induction l with
  | nil => intro p; simp only [List.nil_append, okLFrom, lastL, Bool.and_true, Bool.true_and]; rfl
  | cons y l ih => intro p; simp only [List.cons_append, okLFrom, ih, lastL, Bool.and_assoc]; rfl
theorem okLFrom_prefix (l m : List Ln) : ∀ p, okLFrom p (l ++ m) = true → okLFrom p l = true := by
  induction l with
  | nil => intro p _; rfl
  | cons y l ih =>
    intro p h
    simp only [List.cons_append, okLFrom, Bool.and_eq_true] at h ⊢
    exact ⟨h.1, ih _ h.2⟩
theorem lastL_snoc (l : List Ln) (x : Ln) : ∀ p, lastL p (l ++ [x]) = x.item := by
  induction l with
  | nil => intro p; rfl
  | cons y l ih => intro p; exact ih y.item
theorem okLFrom_cut {xs : List Ln} {k : Nat} (h : okLFrom 0 (xs.take k) = false) : okLFrom 0 xs = false := by
  cases h2 : okLFrom 0 xs with
  | false => rfl
  | true =>
    rw [← List.take_append_drop k xs] at h2
    rw [okLFrom_prefix _ _ _ h2] at h
    exact absurd h (by decide)
theorem okLFrom_mem {l : List Ln} : ∀ {p : Int}, okLFrom p l = true → ∀ x, x ∈ l → p < x.item ∧ x.item ≤ 99999 ∧ 1 ≤ x.qty ∧ x.qty ≤ 1000000 := by
  induction l with
  | nil => intro p _ x hx; cases hx
  | cons y l ih =>
    intro p h x hx
    simp only [okLFrom, Bool.and_eq_true, decide_eq_true_eq] at h
    cases hx with
    | head => exact h.1
    | tail _ hx => have := ih h.2 x hx; omega
/-- something done with one line behind the other -/
def goesP (f : List It → Int → Int → List It × Int) : Int → List It → List Ln → List It × Int × Int
  | i, items, [] => (items, i, 0)
  | i, items, x :: l => if (f items x.item x.qty).2 ≠ 0 then ([], i, (f items x.item x.qty).2) else goesP f (i + 1) (f items x.item x.qty).1 l
theorem goesP_cons (f : List It → Int → Int → List It × Int) (i : Int) (items : List It) (x : Ln) (l : List Ln) : goesP f i items (x :: l) = if (f items x.item x.qty).2 ≠ 0 then ([], i, (f items x.item x.qty).2) else goesP f (i + 1) (f items x.item x.qty).1 l := rfl
def allP (f : List It → Int → Int → List It × Int) (items : List It) (l : List Ln) : List It × Int × Int :=
  if ok items = true ∧ okL l = true then goesP f 0 items l else ([], 0, 2)
def sumF : List Ln → Int
  | [] => 0
  | x :: l => x.qty + sumF l
theorem sumF_snoc (l : List Ln) (x : Ln) : sumF (l ++ [x]) = sumF l + x.qty := by
  induction l with
  | nil => simp [sumF]
  | cons y l ih => simp only [List.cons_append, sumF, ih]; omega
def totalP (l : List Ln) : Int := if okL l = true then sumF l else 0
end Go.Proofs.YtgebpndhnkkbgaaGreatDoor.StockP
namespace Go.Proofs.YtgebpndhnkkbgaaGreatDoor.StockP
set_option linter.unusedVariables false
set_option linter.unusedSimpArgs false
def can (ys : List It) (l : Ln) : Prop := (findT ys l.item).2 = true ∧ l.qty ≤ (findT ys l.item).1.free
def canF (ys : List It) (l : Ln) : Prop := (findT ys l.item).2 = true ∧ l.qty ≤ (findT ys l.item).1.held
instance (ys : List It) (l : Ln) : Decidable (can ys l) := by unfold can; infer_instance
instance (ys : List It) (l : Ln) : Decidable (canF ys l) := by unfold canF; infer_instance
end Go.Proofs.YtgebpndhnkkbgaaGreatDoor.StockP
namespace Go.Proofs.YtgebpndhnkkbgaaGreatDoor.StockP
set_option linter.unusedVariables false
set_option linter.unusedSimpArgs false
abbrev holdF (ys : List It) (i q : Int) : List It × Int := withP (holdG q) ys i q
end Go.Proofs.YtgebpndhnkkbgaaGreatDoor.StockP
namespace Go.Proofs.YtgebpndhnkkbgaaGreatDoor.Stk
set_option linter.unusedVariables false
set_option linter.unusedSimpArgs false
open Go.RowKit
open StockP
set_option maxRecDepth 100000
set_option maxHeartbeats 1000000 in
theorem put_fn (l : List It) (x : It) (hl : l.length ≤ 1000) : FnP Tryz.prog 75 [.sl (l.map aIt), aIt x] (.sl ((put l x).map aIt)) := by
  refine FnP.of Tryz.func75 rfl rfl (by simp) (by simp [AV.cells, aIt]) (fun G hG => ?_)
  have hN : NoH G.length (.sl ((put l x).map aIt)) := (by simp [AV.cells, aIt])
  refine AWP.seq ?_
  refine AWP.region (fun _ => ?_)
  refine ARun.box (j := 0) hG rfl rfl rfl rfl rfl (Ev.plain rfl) rfl rfl optN ?_
  refine ARun.move (.inr rfl) rfl rfl rfl (Ev.plain rfl) optN ?_
  refine ⟨_, _, rfl, hG, ?_⟩
  refine thenA_n ?_
  refine AWP.seq ?_
  refine AWP.region (fun _ => ?_)
  refine ARun.nilOwn (e := 64) (z := 4) (j := 1) hG rfl ⟨.inl rfl, rfl⟩ (fun _ => rfl) rfl rfl rfl optN ?_
  refine ⟨_, _, rfl, hG, ?_⟩
  refine thenA_n ?_
  refine AWP.seq ?_
  refine AWP.seq ?_
  refine AWP.region (fun _ => ?_)
  refine ARun.move (.inr rfl) rfl rfl rfl (Ev.plain rfl) optN ?_
  refine ⟨_, _, rfl, hG, ?_⟩
  refine thenA_n ?_
  refine AWP.block ?_
  refine AWP.rounds (fun s => s.1 ≤ l.length ∧ s.2 = l.take s.1 ∧ ∀ j, j < s.1 → (l.getD j default).id < x.id) (fun s => [(0, .sl (l.map aIt)), (3, .box (G.length + 0) 0), (5, .own (G.length + 1) s.1), (6, .int .i64 (s.1 : Int))]) (fun s => [.box [.int .i64 x.id, .int .i64 x.free, .int .i64 x.held, .int .i64 x.gone], .row s.1 64 4 (s.2.map aIt)]) (fun s => l.length - s.1) 2 ((0, []) : Nat × List It) ⟨by dsimp only; omega, rfl, fun j h => by dsimp only at h; omega⟩ (by repeat (first | exact .nil | refine .cons rfl ?_)) rfl (fun _ => rfl) (fun _ => (by simp [AO.conts, AV.cells, aIt]; rintro y a _ (rfl | rfl | rfl | rfl) <;> simp)) (fun s hI => ?_)
  obtain ⟨k, acc⟩ := s
  dsimp only at hI
  show AWP _ _ _ _ _ [(0, .sl (l.map aIt)), (3, .box (G.length + 0) 0), (5, .own (G.length + 1) k), (6, .int .i64 (k : Int))] _ [.box [.int .i64 x.id, .int .i64 x.free, .int .i64 x.held, .int .i64 x.gone], .row k 64 4 (acc.map aIt)]
  obtain ⟨hk, hacc0, hno⟩ := hI
  have hl0 : acc.length ≤ 1000 := by rw [hacc0]; simp; omega
  refine AWP.seq ?_
  refine AWP.seq ?_
  refine AWP.draw mixed (by kernel_rfl) (fun _ => ?_)
  refine ARun.move (.inl rfl) rfl rfl rfl (Ev.plain rfl) optN ?_
  refine ARun.move (.inl rfl) rfl rfl rfl (Ev.plain rfl) optN ?_
  refine ARun.lenSl rfl rfl rfl rfl Tryz.underlying22 (Ev.plain rfl) optN ?_
  refine ARun.cmp rfl rfl rfl rfl (Ev.plain rfl) (Ev.plain rfl) rfl optN ?_
  refine ARun.move (.inl rfl) rfl rfl rfl (Ev.plain rfl) optN ?_
  refine ARun.move (.inl rfl) rfl rfl rfl (Ev.plain rfl) optS ?_
  refine ARun.move (.inl rfl) rfl rfl rfl (Ev.plain rfl) optS ?_
  first | refine ARun.indexSl rfl rfl rfl rfl Tryz.underlying22 sz64 (Ev.opt rfl (fun h => h)) (Ev.opt rfl (fun h => h)) (fun _ => rfl) (fun hg => getMap _ _ _ (by (try simp at hg); omega)) rfl rfl optS ?_ | refine ARun.indexSl rfl rfl rfl rfl Tryz.underlying22 sz64 (Ev.opt rfl (fun h => h)) (Ev.opt rfl (fun h => h)) (fun hg => ofNonneg (by (try simp at hg); omega)) (fun hg => getMap _ _ _ (by (try simp at hg); omega)) rfl rfl optS ?_
  refine ARun.fieldPe rfl rfl rfl rfl Tryz.underlying64 rfl rfl sz3 (by decide) (Ev.opt rfl (fun h => h)) rfl optS ?_
  refine ARun.loadPe rfl rfl rfl rfl Tryz.underlying3 rfl (Ev.opt rfl (fun h => h)) rfl optS ?_
  refine ARun.fieldBox (fo := 0) rfl rfl rfl rfl Tryz.underlying64 rfl rfl sz3 (by decide) (Ev.plain rfl) ((hG.at _ _).trans rfl) optS ?_
  refine ARun.loadBox rfl rfl rfl rfl Tryz.underlying3 rfl (Ev.opt rfl (fun h => h)) ((hG.at _ _).trans rfl) rfl optS ?_
  refine ARun.cmp rfl rfl rfl rfl (Ev.opt rfl (fun h => h)) (Ev.opt rfl (fun h => h)) rfl optS ?_
  refine ARun.pick rfl rfl rfl rfl (Ev.plain rfl) (Ev.opt rfl (by first | exact pkT | exact pkT2 | simp +contextual)) (Ev.plain rfl) (andB _ _) optN ?_
  refine ⟨by kernel_rfl, _, _, rfl, hG, ?_⟩
  refine thenA_n ?_
  refine AWP.cond rfl (fun h0 => ?_) (fun h0 => ?_)
  · skip
    try simp [-List.getD_eq_getElem?_getD] at h0
    refine AWP.skip ?_
    refine thenA_n ?_
    refine AWP.seq ?_
    refine AWP.block ?_
    refine AWP.region (fun _ => ?_)
    refine ARun.move (.inl rfl) rfl rfl rfl (Ev.plain rfl) optN ?_
    refine ARun.move (.inl rfl) rfl rfl rfl (Ev.plain rfl) optN ?_
    refine ARun.move (.inl rfl) rfl rfl rfl (Ev.plain rfl) optN ?_
    first | refine ARun.indexSl rfl rfl rfl rfl Tryz.underlying22 sz64 (Ev.plain rfl) (Ev.plain rfl) (fun _ => rfl) (fun hg => getMap _ _ _ (by (try simp at hg); omega)) rfl rfl optN ?_ | refine ARun.indexSl rfl rfl rfl rfl Tryz.underlying22 sz64 (Ev.plain rfl) (Ev.plain rfl) (fun hg => ofNonneg (by (try simp at hg); omega)) (fun hg => getMap _ _ _ (by (try simp at hg); omega)) rfl rfl optN ?_
    refine ARun.loadPeA rfl rfl rfl rfl Tryz.underlying64 rfl sz64 (Ev.plain rfl) rfl optN ?_
    refine ARun.buildSl rfl rfl rfl rfl Tryz.underlying22 sz64 zv64 rfl (by decide) (.cons (Ev.plain rfl) .nil) rfl rfl rfl rfl (by decide) rfl rfl optN ?_
    refine ARun.appendL hG rfl rfl rfl rfl Tryz.underlying22 ti64 rfl (by decide) (Ev.plain rfl) (Ev.plain rfl) rfl rfl (by simp [maxLen]; omega) (by simp; omega) (map_snoc aIt acc (l.getD k default)) optN rfl ?_
    refine ARun.move (.inr rfl) rfl rfl rfl (Ev.plain rfl) optN ?_
    refine ⟨_, _, rfl, hG, ?_⟩
    refine blockA_n ?_
    refine thenA_n ?_
    refine AWP.region (fun _ => ?_)
    refine ARun.move (.inl rfl) rfl rfl rfl (Ev.plain rfl) optN ?_
    first | refine ARun.arith rfl rfl rfl rfl (Ev.plain rfl) (Ev.plain rfl) rfl (fun hg => i64w (by (try simp at hg); omega)) optN ?_ | refine ARun.arith rfl rfl rfl rfl (Ev.plain rfl) (Ev.plain rfl) rfl (fun _ => rfl) optN ?_
    refine ARun.move (.inr rfl) rfl rfl rfl (Ev.plain rfl) optN ?_
    refine ⟨_, _, rfl, hG, ?_⟩
    refine thenA_n ⟨rfl, (k + 1, acc ++ [l.getD k default]), _, ?_, ?_, rfl, ?_⟩
    · refine ⟨by dsimp only; omega, by dsimp only; rw [hacc0]; exact (take_snoc2 h0.1), fun j hj => ?_⟩
      dsimp only at hj
      by_cases e : j = k
      · subst e; omega
      · exact hno j (by omega)
    · repeat (first | exact .nil | refine .cons rfl ?_)
    · dsimp only; omega
  · skip
    try simp [-List.getD_eq_getElem?_getD] at h0
    refine AWP.exit ?_
    refine thenA_x ?_
    refine thenA_x ?_
    refine blockA_h ?_
    refine thenA_n ?_
    refine AWP.seq ?_
    refine AWP.region (fun _ => ?_)
    refine ARun.move (.inl rfl) rfl rfl rfl (Ev.plain rfl) optN ?_
    refine ARun.loadBoxA rfl rfl rfl rfl Tryz.underlying64 rfl sz64 (Ev.plain rfl) ((hG.at _ _).trans rfl) rfl rfl optN ?_
    refine ARun.buildSl rfl rfl rfl rfl Tryz.underlying22 sz64 zv64 rfl (by decide) (.cons (Ev.plain rfl) .nil) rfl rfl rfl rfl (by decide) rfl rfl optN ?_
    refine ARun.appendL hG rfl rfl rfl rfl Tryz.underlying22 ti64 rfl (by decide) (Ev.plain rfl) (Ev.plain rfl) rfl rfl (by simp [maxLen]; omega) (by simp; omega) (map_snoc aIt acc x) optN rfl ?_
    refine ARun.move (.inr rfl) rfl rfl rfl (Ev.plain rfl) optN ?_
    refine ⟨_, _, rfl, hG, ?_⟩
    refine thenA_n ?_
    refine AWP.seq ?_
    refine AWP.seq ?_
    refine AWP.region (fun _ => ?_)
    refine ARun.move (.inr rfl) rfl rfl rfl (Ev.plain rfl) optN ?_
    refine ⟨_, _, rfl, hG, ?_⟩
    refine thenA_n ?_
    refine AWP.block ?_
    refine AWP.rounds (fun s => s.1 ≤ l.length ∧ s.2.2 = l.takeWhile (fun y => decide (y.id < x.id)) ++ [x] ++ (l.take s.1).filter (fun y => decide (x.id < y.id)) ∧ s.2.2.length ≤ l.length + 1 + s.1) (fun s => [(0, .sl (l.map aIt)), (3, .box (G.length + 0) 0), (5, .own (G.length + 1) s.2.1), (7, .int .i64 (s.1 : Int))]) (fun s => [.box [.int .i64 x.id, .int .i64 x.free, .int .i64 x.held, .int .i64 x.gone], .row s.2.1 64 4 (s.2.2.map aIt)]) (fun s => l.length - s.1) 2 ((0, k + 1, acc ++ [x]) : Nat × Nat × List It) ⟨by dsimp only; omega, by dsimp only; rw [hacc0, tw_is hk hno (by omega)]; simp, by rw [hacc0]; simp; omega⟩ (by repeat (first | exact .nil | refine .cons rfl ?_)) rfl (fun _ => rfl) (fun _ => (by simp [AO.conts, AV.cells, aIt]; rintro y a _ (rfl | rfl | rfl | rfl) <;> simp)) (fun s hI => ?_)
    obtain ⟨kk, gg, acc⟩ := s
    dsimp only at hI
    show AWP _ _ _ _ _ [(0, .sl (l.map aIt)), (3, .box (G.length + 0) 0), (5, .own (G.length + 1) gg), (7, .int .i64 (kk : Int))] _ [.box [.int .i64 x.id, .int .i64 x.free, .int .i64 x.held, .int .i64 x.gone], .row gg 64 4 (acc.map aIt)]
    obtain ⟨hk2, hacc, hlen⟩ := hI
    refine AWP.seq ?_
    refine AWP.seq ?_
    refine AWP.region (fun _ => ?_)
    refine ARun.move (.inl rfl) rfl rfl rfl (Ev.plain rfl) optN ?_
    refine ARun.move (.inl rfl) rfl rfl rfl (Ev.plain rfl) optN ?_
    refine ARun.lenSl rfl rfl rfl rfl Tryz.underlying22 (Ev.plain rfl) optN ?_
    refine ARun.cmp rfl rfl rfl rfl (Ev.plain rfl) (Ev.plain rfl) rfl optN ?_
    refine ⟨_, _, rfl, hG, ?_⟩
    refine thenA_n ?_
    refine AWP.cond rfl (fun h1 => ?_) (fun h1 => ?_)
    · skip
      try simp [-List.getD_eq_getElem?_getD] at h1
      refine AWP.skip ?_
      refine thenA_n ?_
      refine AWP.seq ?_
      refine AWP.block ?_
      refine AWP.seq ?_
      refine AWP.draw mixed (by kernel_rfl) (fun _ => ?_)
      refine ARun.move (.inl rfl) rfl rfl rfl (Ev.plain rfl) optN ?_
      refine ARun.move (.inl rfl) rfl rfl rfl (Ev.plain rfl) optN ?_
      first | refine ARun.indexSl rfl rfl rfl rfl Tryz.underlying22 sz64 (Ev.plain rfl) (Ev.plain rfl) (fun _ => rfl) (fun hg => getMap _ _ _ (by (try simp at hg); omega)) rfl rfl optN ?_ | refine ARun.indexSl rfl rfl rfl rfl Tryz.underlying22 sz64 (Ev.plain rfl) (Ev.plain rfl) (fun hg => ofNonneg (by (try simp at hg); omega)) (fun hg => getMap _ _ _ (by (try simp at hg); omega)) rfl rfl optN ?_
      refine ARun.fieldPe rfl rfl rfl rfl Tryz.underlying64 rfl rfl sz3 (by decide) (Ev.plain rfl) rfl optN ?_
      refine ARun.loadPe rfl rfl rfl rfl Tryz.underlying3 rfl (Ev.plain rfl) rfl optN ?_
      refine ARun.fieldBox (fo := 0) rfl rfl rfl rfl Tryz.underlying64 rfl rfl sz3 (by decide) (Ev.plain rfl) ((hG.at _ _).trans rfl) optN ?_
      refine ARun.loadBox rfl rfl rfl rfl Tryz.underlying3 rfl (Ev.plain rfl) ((hG.at _ _).trans rfl) rfl optN ?_
      refine ARun.cmp rfl rfl rfl rfl (Ev.plain rfl) (Ev.plain rfl) rfl optN ?_
      refine ⟨by kernel_rfl, _, _, rfl, hG, ?_⟩
      refine thenA_n ?_
      refine AWP.cond rfl (fun h2 => ?_) (fun h2 => ?_)
      · skip
        try simp [-List.getD_eq_getElem?_getD] at h2
        refine AWP.region (fun _ => ?_)
        refine ARun.move (.inl rfl) rfl rfl rfl (Ev.plain rfl) optN ?_
        refine ARun.move (.inl rfl) rfl rfl rfl (Ev.plain rfl) optN ?_
        refine ARun.move (.inl rfl) rfl rfl rfl (Ev.plain rfl) optN ?_
        first | refine ARun.indexSl rfl rfl rfl rfl Tryz.underlying22 sz64 (Ev.plain rfl) (Ev.plain rfl) (fun _ => rfl) (fun hg => getMap _ _ _ (by (try simp at hg); omega)) rfl rfl optN ?_ | refine ARun.indexSl rfl rfl rfl rfl Tryz.underlying22 sz64 (Ev.plain rfl) (Ev.plain rfl) (fun hg => ofNonneg (by (try simp at hg); omega)) (fun hg => getMap _ _ _ (by (try simp at hg); omega)) rfl rfl optN ?_
        refine ARun.loadPeA rfl rfl rfl rfl Tryz.underlying64 rfl sz64 (Ev.plain rfl) rfl optN ?_
        refine ARun.buildSl rfl rfl rfl rfl Tryz.underlying22 sz64 zv64 rfl (by decide) (.cons (Ev.plain rfl) .nil) rfl rfl rfl rfl (by decide) rfl rfl optN ?_
        refine ARun.appendL hG rfl rfl rfl rfl Tryz.underlying22 ti64 rfl (by decide) (Ev.plain rfl) (Ev.plain rfl) rfl rfl (by simp [maxLen]; omega) (by simp; omega) (map_snoc aIt acc (l.getD kk default)) optN rfl ?_
        refine ARun.move (.inr rfl) rfl rfl rfl (Ev.plain rfl) optN ?_
        refine ⟨_, _, rfl, hG, ?_⟩
        refine blockA_n ?_
        refine thenA_n ?_
        refine AWP.region (fun _ => ?_)
        refine ARun.move (.inl rfl) rfl rfl rfl (Ev.plain rfl) optN ?_
        first | refine ARun.arith rfl rfl rfl rfl (Ev.plain rfl) (Ev.plain rfl) rfl (fun hg => i64w (by (try simp at hg); omega)) optN ?_ | refine ARun.arith rfl rfl rfl rfl (Ev.plain rfl) (Ev.plain rfl) rfl (fun _ => rfl) optN ?_
        refine ARun.move (.inr rfl) rfl rfl rfl (Ev.plain rfl) optN ?_
        refine ⟨_, _, rfl, hG, ?_⟩
        refine thenA_n ⟨rfl, (kk + 1, gg + 1, acc ++ [l.getD kk default]), _, ?_, ?_, rfl, ?_⟩
        · refine ⟨by dsimp only; omega, ?_, by simp; omega⟩
          dsimp only; rw [hacc, List.append_assoc]; congr 1; exact flt_yes h1 (by simpa using h2)
        · repeat (first | exact .nil | refine .cons rfl ?_)
        · dsimp only; omega
      · skip
        try simp [-List.getD_eq_getElem?_getD] at h2
        refine AWP.skip ?_
        refine blockA_n ?_
        refine thenA_n ?_
        refine AWP.region (fun _ => ?_)
        refine ARun.move (.inl rfl) rfl rfl rfl (Ev.plain rfl) optN ?_
        first | refine ARun.arith rfl rfl rfl rfl (Ev.plain rfl) (Ev.plain rfl) rfl (fun hg => i64w (by (try simp at hg); omega)) optN ?_ | refine ARun.arith rfl rfl rfl rfl (Ev.plain rfl) (Ev.plain rfl) rfl (fun _ => rfl) optN ?_
        refine ARun.move (.inr rfl) rfl rfl rfl (Ev.plain rfl) optN ?_
        refine ⟨_, _, rfl, hG, ?_⟩
        refine thenA_n ⟨rfl, (kk + 1, gg, acc), _, ?_, ?_, rfl, ?_⟩
        · refine ⟨by dsimp only; omega, ?_, by dsimp only; omega⟩
          dsimp only; rw [hacc]; congr 1; exact flt_no h1 (by simpa using h2)
        · repeat (first | exact .nil | refine .cons rfl ?_)
        · dsimp only; omega
    · skip
      try simp [-List.getD_eq_getElem?_getD] at h1
      refine AWP.exit ?_
      refine thenA_x ?_
      refine thenA_x ?_
      refine blockA_h ?_
      refine thenA_n ?_
      refine AWP.seq ?_
      refine AWP.region (fun _ => ?_)
      refine ARun.move (.inl rfl) rfl rfl rfl (Ev.plain rfl) optN ?_
      refine ARun.move (.inr rfl) rfl rfl rfl (Ev.plain rfl) optN ?_
      refine ⟨_, _, rfl, hG, ?_⟩
      refine thenA_n ?_
      refine AWP.frzOwn 4 hG rfl rfl (by decide) (by simp [maxLen]; omega) rfl ?_
      refine AWP.ret ?_
      refine endF.one (.inr rfl) rfl (.tmp rfl) ?_ hN
      unfold put; rw [hacc, List.take_of_length_le h1, List.append_assoc]; rfl
end Go.Proofs.YtgebpndhnkkbgaaGreatDoor.Stk
namespace Go.Proofs.YtgebpndhnkkbgaaGreatDoor
set_option linter.unusedVariables false
set_option linter.unusedSimpArgs false
open Go.RowKit
open NumP
set_option maxRecDepth 100000
theorem fit_at {l : List Int} (hf : ∀ x, x ∈ l → -9223372036854775808 ≤ x ∧ x ≤ 9223372036854775807) {k : Nat} (hk : k < l.length) : -9223372036854775808 ≤ l.getD k default ∧ l.getD k default ≤ 9223372036854775807 := by
  simp only [List.getD, List.getElem?_eq_getElem hk, Option.getD_some]; exact hf _ (List.getElem_mem hk)
theorem liesB : liesAt Tryz.prog Tryz.prog.depth 170 (2 / Tryz.prog.cellsOf 170) 0 170 1 = true := by kernel_rfl
theorem writeB (l : List UInt8) (t : ByteArray) (h : l.length + t.size ≤ 100000000) : FnM Tryz.prog 159 (fun i => [.box i 0, .str t]) [.adr 170, .buf 5 (bs l)] (.tup [.int .i64 t.size, .raw .nilIface]) [.adr 170, .buf 5 (bs l ++ t)] :=
  bld_write (n := 2) liesB (by decide) (bs l) t [] rfl (by rw [bs_size]; omega)
set_option maxHeartbeats 1000000 in
theorem rowPut_fn (n : Int) (h : -9223372036854775808 ≤ n ∧ n ≤ 9223372036854775807) (l : List UInt8) (hl : l.length ≤ 1000000) : FnM Tryz.prog 161 (fun i => [.int .i64 n, .box i 0]) ([.adr 170, .buf 5 (bs l)]) (.int .i64 (putN n).2) ([.adr 170, .buf 5 (bs (l ++ (putN n).1))]) := by
  have hpl := putN_len n
  refine FnM.of Tryz.func161 rfl rfl (fun i => by simp) (fun H i m hHm hi hG => ?_)
  have hN : NoH H.length (.int .i64 (putN n).2) := (by simp)
  refine AWP.seq ?_
  refine AWP.region (fun _ => ?_)
  refine ARun.move (.inr rfl) rfl rfl rfl (Ev.plain rfl) optN ?_
  refine ⟨_, _, rfl, hG, ?_⟩
  refine thenA_n ?_
  refine AWP.seq ?_
  refine AWP.region (fun _ => ?_)
  refine ARun.move (.inl rfl) rfl rfl rfl (Ev.plain rfl) optN ?_
  refine ARun.call rfl rfl rfl rfl cf146 (Ev.plain rfl) (.cons (Ev.plain rfl) .nil) rfl (fun hg => put_fn n h) optN ?_
  refine ARun.move (.inl rfl) rfl rfl rfl (Ev.plain rfl) optN ?_
  refine ARun.extract rfl rfl rfl rfl (Ev.plain rfl) rfl optN ?_
  refine ARun.extract rfl rfl rfl rfl (Ev.plain rfl) rfl optN ?_
  refine ARun.move (.inr rfl) rfl rfl rfl (Ev.plain rfl) optN ?_
  refine ARun.move (.inr rfl) rfl rfl rfl (Ev.plain rfl) optN ?_
  refine ⟨_, _, rfl, hG, ?_⟩
  refine thenA_n ?_
  refine AWP.seq ?_
  refine AWP.region (fun _ => ?_)
  refine ARun.move (.inl rfl) rfl rfl rfl (Ev.plain rfl) optN ?_
  refine ARun.callO hi hG rfl rfl rfl rfl cf159 (Ev.plain rfl) (.cons (Ev.plain rfl) (.cons (Ev.plain rfl) .nil)) rfl (writeB l (bs (putN n).1) (by rw [bs_size]; omega) _ _ (atO hi)) (by simp) optN (fun hG => ?_)
  refine ⟨_, _, rfl, hG, ?_⟩
  refine thenA_n ?_
  refine AWP.seq ?_
  refine AWP.region (fun _ => ?_)
  refine ARun.move (.inl rfl) rfl rfl rfl (Ev.plain rfl) optN ?_
  refine ARun.move (.inr rfl) rfl rfl rfl (Ev.plain rfl) optN ?_
  refine ⟨_, _, rfl, hG, ?_⟩
  refine thenA_n ?_
  refine AWP.ret ?_
  refine endF.toG (congrArg (fun c => H.set i (AO.box c)) (by rw [bs_append])) ?_
  refine endF.one (.inr rfl) rfl (.tmp rfl) ?_ (by rw [List.length_set]; exact hN)
  rfl
theorem rowPut_st (x : Int) (h : -9223372036854775808 ≤ x ∧ x ≤ 9223372036854775807) (a : List UInt8 × Int) (ha : a.1.length ≤ 1000000) (h0 : a.2 = 0) : FnM Tryz.prog 161 (fun i => [.int .i64 x, .box i 0]) ([.adr 170, .buf 5 (bs a.1)]) (.int .i64 (rowStep a x).2) ([.adr 170, .buf 5 (bs (rowStep a x).1)]) := by
  rw [show rowStep a x = (a.1 ++ (putN x).1, (putN x).2) from if_pos h0]; exact rowPut_fn x h a.1 ha
set_option maxHeartbeats 1000000 in
theorem rowN_fn (l : List Int) (hl : l.length ≤ 10000) (hf : ∀ x, x ∈ l → -9223372036854775808 ≤ x ∧ x ≤ 9223372036854775807) : FnP Tryz.prog 147 [.sl (l.map (AV.int .i64))] (.tup [.str (bs (rowN l).1), .int .i64 (rowN l).2]) := by
  have hpe : (putN (l.length : Int)).2 = 0 := by rw [putN_err, if_pos (by omega)]
  have hp0 : FnM Tryz.prog 161 (fun i => [.int .i64 ((l.map (AV.int .i64)).length : Int), .box i 0]) ([.adr 170, .buf 5 (bs [])]) (.int .i64 (putN (l.length : Int)).2) ([.adr 170, .buf 5 (bs ([] ++ (putN (l.length : Int)).1))]) := by rw [List.length_map]; exact rowPut_fn l.length (by omega) [] (by simp)
  refine FnP.of Tryz.func147 rfl rfl (by simp) (by simp [AV.cells]) (fun G hG => ?_)
  have hN : NoH G.length (.tup [.str (bs (rowN l).1), .int .i64 (rowN l).2]) := (by simp [AV.cells])
  refine AWP.seq ?_
  refine AWP.region (fun _ => ?_)
  refine ARun.move (.inr rfl) rfl rfl rfl (Ev.plain rfl) optN ?_
  refine ARun.move (.inr rfl) rfl rfl rfl (Ev.plain rfl) optN ?_
  refine ⟨_, _, rfl, hG, ?_⟩
  refine thenA_n ?_
  refine AWP.seq ?_
  refine AWP.region (fun _ => ?_)
  refine ARun.allocBld (j := 0) (e := 5) hG rfl rfl rfl rfl rfl zv170 rfl rfl rfl optN ?_
  refine ⟨_, _, rfl, hG, ?_⟩
  refine thenA_n ?_
  refine AWP.seq ?_
  refine AWP.region (fun _ => ?_)
  refine ARun.makeFunc rfl rfl rfl rfl .nil (.cons (Ev.plain rfl) .nil) optN ?_
  refine ARun.move (.inr rfl) rfl rfl rfl (Ev.plain rfl) optN ?_
  refine ⟨_, _, rfl, hG, ?_⟩
  refine thenA_n ?_
  refine AWP.seq ?_
  refine AWP.region (fun _ => ?_)
  refine ARun.move (.inl rfl) rfl rfl rfl (Ev.plain rfl) optN ?_
  refine ARun.move (.inl rfl) rfl rfl rfl (Ev.plain rfl) optN ?_
  refine ARun.lenSl rfl rfl rfl rfl Tryz.underlying29 (Ev.plain rfl) optN ?_
  refine ARun.callSet (j := 0) hG rfl rfl rfl rfl cf161 (Ev.plain rfl) (.cons (Ev.plain rfl) .nil) rfl (hp0 _ _ ((hG.at _ _).trans rfl)) rfl optN ?_
  refine ARun.move (.inr rfl) rfl rfl rfl (Ev.plain rfl) optN ?_
  refine ⟨_, _, rfl, hG, ?_⟩
  refine thenA_n ?_
  refine AWP.seq ?_
  refine AWP.seq ?_
  refine AWP.region (fun _ => ?_)
  refine ARun.move (.inl rfl) rfl rfl rfl (Ev.plain rfl) optN ?_
  refine ARun.lenSl rfl rfl rfl rfl Tryz.underlying29 (Ev.plain rfl) optN ?_
  refine ARun.move (.inl rfl) rfl rfl rfl (Ev.plain rfl) optN ?_
  refine ⟨_, _, rfl, hG, ?_⟩
  refine thenA_n ?_
  refine AWP.block ?_
  refine AWP.rounds (fun s => s.1 ≤ l.length ∧ s.2 = rowS l s.1) (fun s => [(5, .fn (.func 161) [] [.box (G.length + 0) 0]), (6, .int .i64 s.2.2), (14, .sl (l.map (AV.int .i64))), (15, .int .i64 ((l.map (AV.int .i64)).length : Int)), (16, .int .i64 (s.1 : Int)), (4, .box (G.length + 0) 0)]) (fun s => [.box ([.adr 170, .buf 5 (bs s.2.1)])]) (fun s => l.length - s.1) 1 ((0, rowS l 0) : Nat × (List UInt8 × Int)) ⟨Nat.zero_le _, rfl⟩ (by rw [show (rowS l 0).2 = (putN (l.length : Int)).2 from hpe.symm]; repeat (first | exact .nil | refine .cons rfl ?_)) rfl (fun _ => rfl) (fun _ => ⟨by simp [AV.cells], by simp [AO.conts]⟩) (fun s hI => ?_)
  obtain ⟨k, a⟩ := s
  dsimp only at hI
  show AWP _ _ _ _ _ [(5, .fn (.func 161) [] [.box (G.length + 0) 0]), (6, .int .i64 a.2), (14, .sl (l.map (AV.int .i64))), (15, .int .i64 ((l.map (AV.int .i64)).length : Int)), (16, .int .i64 (k : Int)), (4, .box (G.length + 0) 0)] _ [.box ([.adr 170, .buf 5 (bs a.1)])]
  obtain ⟨hk, ha⟩ := hI
  have hal := rowS_len l k
  rw [← ha] at hal
  refine AWP.seq ?_
  refine AWP.region (fun _ => ?_)
  refine ARun.cmp rfl rfl rfl rfl (Ev.plain rfl) (Ev.plain rfl) rfl optN ?_
  refine ⟨_, _, rfl, hG, ?_⟩
  refine thenA_n ?_
  refine AWP.seq ?_
  refine AWP.cond rfl (fun h0 => ?_) (fun h0 => ?_)
  · skip
    simp [-List.getD_eq_getElem?_getD] at h0
    refine AWP.skip ?_
    refine thenA_n ?_
    refine AWP.seq ?_
    refine AWP.block ?_
    refine AWP.seq ?_
    refine AWP.region (fun _ => ?_)
    first | refine ARun.indexSl rfl rfl rfl rfl Tryz.underlying29 sz3 (Ev.plain rfl) (Ev.plain rfl) (fun _ => rfl) (fun hg => getMap _ _ _ (by (try simp at hg); omega)) rfl rfl optN ?_ | refine ARun.indexSl rfl rfl rfl rfl Tryz.underlying29 sz3 (Ev.plain rfl) (Ev.plain rfl) (fun hg => ofNonneg (by (try simp at hg); omega)) (fun hg => getMap _ _ _ (by (try simp at hg); omega)) rfl rfl optN ?_
    refine ARun.loadPe rfl rfl rfl rfl Tryz.underlying3 rfl (Ev.plain rfl) rfl optN ?_
    refine ARun.move (.inr rfl) rfl rfl rfl (Ev.plain rfl) optN ?_
    refine ⟨_, _, rfl, hG, ?_⟩
    refine thenA_n ?_
    refine AWP.seq ?_
    refine AWP.region (fun _ => ?_)
    refine ARun.move (.inl rfl) rfl rfl rfl (Ev.plain rfl) optN ?_
    refine ARun.cmp rfl rfl rfl rfl (Ev.plain rfl) (Ev.plain rfl) rfl optN ?_
    refine ⟨_, _, rfl, hG, ?_⟩
    refine thenA_n ?_
    refine AWP.cond rfl (fun h1 => ?_) (fun h1 => ?_)
    · skip
      try simp [-List.getD_eq_getElem?_getD] at h1
      refine AWP.region (fun _ => ?_)
      refine ARun.move (.inl rfl) rfl rfl rfl (Ev.plain rfl) optN ?_
      refine ARun.move (.inl rfl) rfl rfl rfl (Ev.plain rfl) optN ?_
      refine ARun.callSet (j := 0) hG rfl rfl rfl rfl cf161 (Ev.plain rfl) (.cons (Ev.plain rfl) .nil) rfl (rowPut_st _ (fit_at hf (by simpa using h0)) a (by omega) h1 _ _ ((hG.at _ _).trans rfl)) rfl optN ?_
      refine ARun.move (.inr rfl) rfl rfl rfl (Ev.plain rfl) optN ?_
      refine ⟨_, _, rfl, hG, ?_⟩
      refine blockA_n ?_
      refine thenA_n ?_
      refine AWP.region (fun _ => ?_)
      first | refine ARun.arith rfl rfl rfl rfl (Ev.plain rfl) (Ev.plain rfl) rfl (fun hg => i64w (by (try simp at hg); omega)) optN ?_ | refine ARun.arith rfl rfl rfl rfl (Ev.plain rfl) (Ev.plain rfl) rfl (fun _ => rfl) optN ?_
      refine ARun.move (.inl rfl) rfl rfl rfl (Ev.plain rfl) optN ?_
      refine ⟨_, _, rfl, hG, ?_⟩
      refine thenA_n ⟨rfl, (k + 1, rowStep a (l.getD k default)), _, ?_, ?_, rfl, ?_⟩
      · refine ⟨by omega, ?_⟩
        show rowStep a _ = _
        rw [rowS_succ l k (by omega), ha]
      · repeat (first | exact .nil | refine .cons rfl ?_)
      · dsimp only; omega
    · skip
      try simp [-List.getD_eq_getElem?_getD] at h1
      refine AWP.skip ?_
      refine blockA_n ?_
      refine thenA_n ?_
      refine AWP.region (fun _ => ?_)
      first | refine ARun.arith rfl rfl rfl rfl (Ev.plain rfl) (Ev.plain rfl) rfl (fun hg => i64w (by (try simp at hg); omega)) optN ?_ | refine ARun.arith rfl rfl rfl rfl (Ev.plain rfl) (Ev.plain rfl) rfl (fun _ => rfl) optN ?_
      refine ARun.move (.inl rfl) rfl rfl rfl (Ev.plain rfl) optN ?_
      refine ⟨_, _, rfl, hG, ?_⟩
      refine thenA_n ⟨rfl, (k + 1, a), _, ?_, ?_, rfl, ?_⟩
      · refine ⟨by omega, ?_⟩
        show a = _
        rw [rowS_succ l k (by omega), ← ha, rowStep, if_neg h1]
      · repeat (first | exact .nil | refine .cons rfl ?_)
      · dsimp only; omega
  · skip
    simp at h0
    obtain rfl : k = l.length := by omega
    have hall := rowS_all l
    rw [← ha] at hall
    refine AWP.exit ?_
    refine thenA_x ?_
    refine thenA_x ?_
    refine blockA_h ?_
    refine thenA_n ?_
    refine AWP.seq ?_
    refine AWP.seq ?_
    refine AWP.region (fun _ => ?_)
    refine ARun.move (.inl rfl) rfl rfl rfl (Ev.plain rfl) optN ?_
    refine ARun.cmp rfl rfl rfl rfl (Ev.plain rfl) (Ev.plain rfl) rfl optN ?_
    refine ⟨_, _, rfl, hG, ?_⟩
    refine thenA_n ?_
    refine AWP.cond rfl (fun h2 => ?_) (fun h2 => ?_)
    · skip
      try simp [-List.getD_eq_getElem?_getD] at h2
      refine AWP.seq ?_
      refine AWP.region (fun _ => ?_)
      refine ARun.move (.inl rfl) rfl rfl rfl (Ev.plain rfl) optN ?_
      refine ARun.move (.inr rfl) rfl rfl rfl (Ev.plain rfl) optN ?_
      refine ARun.move (.inr rfl) rfl rfl rfl (Ev.plain rfl) optN ?_
      refine ⟨_, _, rfl, hG, ?_⟩
      refine thenA_n ?_
      refine AWP.ret ?_
      refine thenA_r ?_
      refine endF.many (.inr rfl) (rs := [.tmp 2, .tmp 3]) rfl (.cons (.tmp rfl) (.cons (.tmp rfl) .nil)) (by simp) ?_ hN
      rw [if_neg h2] at hall
      rw [← hall]; rfl
    · skip
      try simp [-List.getD_eq_getElem?_getD] at h2
      refine AWP.skip ?_
      refine thenA_n ?_
      refine AWP.seq ?_
      refine AWP.region (fun _ => ?_)
      refine ARun.callSet (j := 0) hG rfl rfl rfl rfl cf148 (Ev.plain rfl) (.cons (Ev.plain rfl) .nil) rfl (bld_string (n := 2) (bs a.1) [] _ _ ((hG.at _ _).trans rfl)) rfl optN ?_
      refine ARun.move (.inr rfl) rfl rfl rfl (Ev.plain rfl) optN ?_
      refine ARun.move (.inr rfl) rfl rfl rfl (Ev.plain rfl) optN ?_
      refine ⟨_, _, rfl, hG, ?_⟩
      refine thenA_n ?_
      refine AWP.ret ?_
      refine endF.many (.inr rfl) (rs := [.tmp 2, .tmp 3]) rfl (.cons (.tmp rfl) (.cons (.tmp rfl) .nil)) (by simp) ?_ hN
      rw [if_pos h2] at hall
      rw [← hall]; rfl
theorem map_snocI (l : List Int) (x : Int) : l.map (AV.int .i64) ++ [AV.int .i64 x] = (l ++ [x]).map (AV.int .i64) := by simp
set_option maxHeartbeats 1000000 in
theorem unrowN_fn (s : ByteArray) (p top : Int) (hs : s.size ≤ 1000000) : FnP Tryz.prog 96 [.str s, .int .i64 p, .int .i64 top] (.tup [.sl ((unrowN (bl s) p top).1.map (AV.int .i64)), .int .i64 (unrowN (bl s) p top).2.1, .int .i64 (unrowN (bl s) p top).2.2]) := by
  have hbd := getN_bd (bl s) p (by rw [bl_len]; exact hs)
  have hdef : unrowN (bl s) p top = (if (getN (bl s) p).2.2 ≠ 0 then (([], 0, (getN (bl s) p).2.2) : List Int × Int × Int) else if (getN (bl s) p).1 > 1000 ∨ ((getN (bl s) p).1 > top ∧ (getN (bl s) p).1 > 0) then ([], 0, 3) else unrowF (bl s) (getN (bl s) p).1.toNat (getN (bl s) p).2.1 []) := rfl
  refine FnP.of Tryz.func96 rfl rfl (by simp) (by simp [AV.cells]) (fun G hG => ?_)
  have hN : NoH G.length (.tup [.sl ((unrowN (bl s) p top).1.map (AV.int .i64)), .int .i64 (unrowN (bl s) p top).2.1, .int .i64 (unrowN (bl s) p top).2.2]) := (by simp [AV.cells])
  refine AWP.seq ?_
  refine AWP.region (fun _ => ?_)
  refine ARun.nilOwn (e := 3) (z := 1) (j := 0) hG rfl ⟨.inl rfl, rfl⟩ (fun _ => rfl) rfl rfl rfl optN ?_
  refine ARun.move (.inr rfl) rfl rfl rfl (Ev.plain rfl) optN ?_
  refine ARun.move (.inr rfl) rfl rfl rfl (Ev.plain rfl) optN ?_
  refine ⟨_, _, rfl, hG, ?_⟩
  refine thenA_n ?_
  refine AWP.seq ?_
  refine AWP.region (fun _ => ?_)
  refine ARun.move (.inl rfl) rfl rfl rfl (Ev.plain rfl) optN ?_
  refine ARun.move (.inl rfl) rfl rfl rfl (Ev.plain rfl) optN ?_
  refine ARun.call rfl rfl rfl rfl cf94 (Ev.plain rfl) (.cons (Ev.plain rfl) (.cons (Ev.plain rfl) .nil)) rfl (fun hg => get_fn s p hs) optN ?_
  refine ARun.move (.inl rfl) rfl rfl rfl (Ev.plain rfl) optN ?_
  refine ARun.extract rfl rfl rfl rfl (Ev.plain rfl) rfl optN ?_
  refine ARun.extract rfl rfl rfl rfl (Ev.plain rfl) rfl optN ?_
  refine ARun.extract rfl rfl rfl rfl (Ev.plain rfl) rfl optN ?_
  refine ARun.move (.inr rfl) rfl rfl rfl (Ev.plain rfl) optN ?_
  refine ARun.move (.inr rfl) rfl rfl rfl (Ev.plain rfl) optN ?_
  refine ARun.move (.inr rfl) rfl rfl rfl (Ev.plain rfl) optN ?_
  refine ⟨_, _, rfl, hG, ?_⟩
  refine thenA_n ?_
  refine AWP.seq ?_
  refine AWP.seq ?_
  refine AWP.region (fun _ => ?_)
  refine ARun.move (.inl rfl) rfl rfl rfl (Ev.plain rfl) optN ?_
  refine ARun.cmp rfl rfl rfl rfl (Ev.plain rfl) (Ev.plain rfl) rfl optN ?_
  refine ⟨_, _, rfl, hG, ?_⟩
  refine thenA_n ?_
  refine AWP.cond rfl (fun h0 => ?_) (fun h0 => ?_)
  · skip
    have h0' : (getN (bl s) p).2.2 ≠ 0 := by simpa using h0
    refine AWP.seq ?_
    refine AWP.region (fun _ => ?_)
    refine ARun.move (.inl rfl) rfl rfl rfl (Ev.plain rfl) optN ?_
    refine ARun.move (.inr rfl) rfl rfl rfl (Ev.plain rfl) optN ?_
    refine ARun.move (.inr rfl) rfl rfl rfl (Ev.plain rfl) optN ?_
    refine ARun.move (.inr rfl) rfl rfl rfl (Ev.plain rfl) optN ?_
    refine ⟨_, _, rfl, hG, ?_⟩
    refine thenA_n ?_
    refine AWP.ret ?_
    refine thenA_r ?_
    refine endF.many (.inr rfl) (rs := [.tmp 6, .tmp 7, .tmp 8]) rfl (.cons (.tmp rfl) (.cons (.tmp rfl) (.cons (.tmp rfl) .nil))) (by simp) ?_ hN
    rw [hdef, if_pos h0']; rfl
  · skip
    simp at h0
    have hlen : (getN (bl s) p).1.toNat ≤ (getN (bl s) p).1.toNat := Nat.le_refl _
    rw [if_neg (by simp [h0])] at hdef
    refine AWP.skip ?_
    refine thenA_n ?_
    refine AWP.seq ?_
    refine AWP.seq ?_
    refine AWP.region (fun _ => ?_)
    refine ARun.move (.inl rfl) rfl rfl rfl (Ev.plain rfl) optN ?_
    refine ARun.move (.inl rfl) rfl rfl rfl (Ev.plain rfl) optN ?_
    refine ARun.minmax rfl rfl rfl rfl (Ev.plain rfl) (Ev.plain rfl) (.inr ⟨rfl, rfl⟩) optN ?_
    refine ARun.minmax rfl rfl rfl rfl (Ev.plain rfl) (Ev.plain rfl) (.inl ⟨rfl, rfl⟩) optN ?_
    refine ARun.cmp rfl rfl rfl rfl (Ev.plain rfl) (Ev.plain rfl) rfl optN ?_
    refine ⟨_, _, rfl, hG, ?_⟩
    refine thenA_n ?_
    refine AWP.cond rfl (fun h1 => ?_) (fun h1 => ?_)
    · skip
      have h1' : (getN (bl s) p).1 > 1000 ∨ ((getN (bl s) p).1 > top ∧ (getN (bl s) p).1 > 0) := by simp at h1; omega
      rw [if_pos h1'] at hdef
      refine AWP.seq ?_
      refine AWP.region (fun _ => ?_)
      refine ARun.move (.inr rfl) rfl rfl rfl (Ev.plain rfl) optN ?_
      refine ARun.move (.inr rfl) rfl rfl rfl (Ev.plain rfl) optN ?_
      refine ARun.move (.inr rfl) rfl rfl rfl (Ev.plain rfl) optN ?_
      refine ⟨_, _, rfl, hG, ?_⟩
      refine thenA_n ?_
      refine AWP.ret ?_
      refine thenA_r ?_
      refine endF.many (.inr rfl) (rs := [.tmp 6, .tmp 7, .tmp 8]) rfl (.cons (.tmp rfl) (.cons (.tmp rfl) (.cons (.tmp rfl) .nil))) (by simp) ?_ hN
      rw [hdef]; rfl
    · skip
      have h1' : ¬ ((getN (bl s) p).1 > 1000 ∨ ((getN (bl s) p).1 > top ∧ (getN (bl s) p).1 > 0)) := by simp at h1; omega
      rw [if_neg h1'] at hdef
      refine AWP.skip ?_
      refine thenA_n ?_
      refine AWP.seq ?_
      refine AWP.seq ?_
      refine AWP.region (fun _ => ?_)
      refine ARun.move (.inl rfl) rfl rfl rfl (Ev.plain rfl) optN ?_
      refine ARun.move (.inl rfl) rfl rfl rfl (Ev.plain rfl) optN ?_
      refine ⟨_, _, rfl, hG, ?_⟩
      refine thenA_n ?_
      refine AWP.block ?_
      refine AWP.rounds (fun st => st.1 ≤ (getN (bl s) p).1.toNat ∧ st.2.2.2.length = st.1 ∧ unrowF (bl s) ((getN (bl s) p).1.toNat - st.1) st.2.2.1 st.2.2.2 = unrowF (bl s) (getN (bl s) p).1.toNat (getN (bl s) p).2.1 []) (fun st => [(0, .str s), (6, .own (G.length + 0) st.2.1), (7, .int .i64 st.2.2.1), (28, .int .i64 (getN (bl s) p).1), (29, .int .i64 (st.1 : Int))]) (fun st => [.row st.2.1 3 1 (st.2.2.2.map (AV.int .i64))]) (fun st => (getN (bl s) p).1.toNat - st.1) 1 ((0, 0, (getN (bl s) p).2.1, []) : Nat × Nat × Int × List Int) ⟨Nat.zero_le _, rfl, rfl⟩ (by repeat (first | exact .nil | refine .cons rfl ?_)) rfl (fun _ => rfl) (fun _ => ⟨by simp [AV.cells], by simp [AO.conts, AV.cells]; rintro y a _ rfl; simp⟩) (fun st hI => ?_)
      obtain ⟨k, g, to, acc⟩ := st
      dsimp only at hI
      show AWP _ _ _ _ _ [(0, .str s), (6, .own (G.length + 0) g), (7, .int .i64 to), (28, .int .i64 (getN (bl s) p).1), (29, .int .i64 (k : Int))] _ [.row g 3 1 (acc.map (AV.int .i64))]
      obtain ⟨hk, hal, hu⟩ := hI
      refine AWP.seq ?_
      refine AWP.region (fun _ => ?_)
      refine ARun.cmp rfl rfl rfl rfl (Ev.plain rfl) (Ev.plain rfl) rfl optN ?_
      refine ⟨_, _, rfl, hG, ?_⟩
      refine thenA_n ?_
      refine AWP.seq ?_
      refine AWP.cond rfl (fun h2 => ?_) (fun h2 => ?_)
      · skip
        simp at h2
        refine AWP.skip ?_
        refine thenA_n ?_
        refine AWP.seq ?_
        refine AWP.block ?_
        refine AWP.seq ?_
        refine AWP.region (fun _ => ?_)
        refine ARun.move (.inl rfl) rfl rfl rfl (Ev.plain rfl) optN ?_
        refine ARun.move (.inl rfl) rfl rfl rfl (Ev.plain rfl) optN ?_
        refine ARun.call rfl rfl rfl rfl cf94 (Ev.plain rfl) (.cons (Ev.plain rfl) (.cons (Ev.plain rfl) .nil)) rfl (fun hg => get_fn s to hs) optN ?_
        refine ARun.move (.inl rfl) rfl rfl rfl (Ev.plain rfl) optN ?_
        refine ARun.extract rfl rfl rfl rfl (Ev.plain rfl) rfl optN ?_
        refine ARun.extract rfl rfl rfl rfl (Ev.plain rfl) rfl optN ?_
        refine ARun.extract rfl rfl rfl rfl (Ev.plain rfl) rfl optN ?_
        refine ARun.move (.inr rfl) rfl rfl rfl (Ev.plain rfl) optN ?_
        refine ARun.move (.inr rfl) rfl rfl rfl (Ev.plain rfl) optN ?_
        refine ARun.move (.inr rfl) rfl rfl rfl (Ev.plain rfl) optN ?_
        refine ⟨_, _, rfl, hG, ?_⟩
        refine thenA_n ?_
        refine AWP.seq ?_
        refine AWP.seq ?_
        refine AWP.region (fun _ => ?_)
        refine ARun.move (.inl rfl) rfl rfl rfl (Ev.plain rfl) optN ?_
        refine ARun.cmp rfl rfl rfl rfl (Ev.plain rfl) (Ev.plain rfl) rfl optN ?_
        refine ⟨_, _, rfl, hG, ?_⟩
        refine thenA_n ?_
        refine AWP.cond rfl (fun h3 => ?_) (fun h3 => ?_)
        · skip
          have h3' : (getN (bl s) to).2.2 ≠ 0 := by simpa using h3
          rw [show (getN (bl s) p).1.toNat - k = ((getN (bl s) p).1.toNat - (k + 1)) + 1 by omega, unrow_step, if_pos h3'] at hu
          refine AWP.seq ?_
          refine AWP.region (fun _ => ?_)
          refine ARun.move (.inl rfl) rfl rfl rfl (Ev.plain rfl) optN ?_
          refine ARun.move (.inr rfl) rfl rfl rfl (Ev.plain rfl) optN ?_
          refine ARun.move (.inr rfl) rfl rfl rfl (Ev.plain rfl) optN ?_
          refine ARun.move (.inr rfl) rfl rfl rfl (Ev.plain rfl) optN ?_
          refine ⟨_, _, rfl, hG, ?_⟩
          refine thenA_n ?_
          refine AWP.ret ?_
          refine thenA_r ?_
          refine blockA_r ?_
          refine thenA_r ?_
          refine thenA_r ?_
          refine blockA_r ?_
          refine thenA_r ?_
          refine endF.many (.inr rfl) (rs := [.tmp 6, .tmp 7, .tmp 8]) rfl (.cons (.tmp rfl) (.cons (.tmp rfl) (.cons (.tmp rfl) .nil))) (by simp) ?_ hN
          rw [hdef, ← hu]; rfl
        · skip
          simp at h3
          rw [show (getN (bl s) p).1.toNat - k = ((getN (bl s) p).1.toNat - (k + 1)) + 1 by omega, unrow_step, if_neg (by simp [h3])] at hu
          refine AWP.skip ?_
          refine thenA_n ?_
          refine AWP.region (fun _ => ?_)
          refine ARun.move (.inl rfl) rfl rfl rfl (Ev.plain rfl) optN ?_
          refine ARun.move (.inl rfl) rfl rfl rfl (Ev.plain rfl) optN ?_
          refine ARun.buildSl rfl rfl rfl rfl Tryz.underlying29 sz3 zv3 rfl (by decide) (.cons (Ev.plain rfl) .nil) rfl rfl rfl rfl (by decide) rfl rfl optN ?_
          refine ARun.appendL hG rfl rfl rfl rfl Tryz.underlying29 ti3 rfl (by decide) (Ev.plain rfl) (Ev.plain rfl) rfl rfl (by simp [maxLen]; omega) (by simp; omega) (map_snocI acc _) optN rfl ?_
          refine ARun.move (.inl rfl) rfl rfl rfl (Ev.plain rfl) optN ?_
          refine ARun.move (.inr rfl) rfl rfl rfl (Ev.plain rfl) optN ?_
          refine ARun.move (.inr rfl) rfl rfl rfl (Ev.plain rfl) optN ?_
          refine ⟨_, _, rfl, hG, ?_⟩
          refine blockA_n ?_
          refine thenA_n ?_
          refine AWP.region (fun _ => ?_)
          first | refine ARun.arith rfl rfl rfl rfl (Ev.plain rfl) (Ev.plain rfl) rfl (fun hg => i64w (by (try simp at hg); omega)) optN ?_ | refine ARun.arith rfl rfl rfl rfl (Ev.plain rfl) (Ev.plain rfl) rfl (fun _ => rfl) optN ?_
          refine ARun.move (.inl rfl) rfl rfl rfl (Ev.plain rfl) optN ?_
          refine ⟨_, _, rfl, hG, ?_⟩
          refine thenA_n ⟨rfl, (k + 1, g + 1, (getN (bl s) to).2.1, acc ++ [(getN (bl s) to).1]), _, ?_, ?_, rfl, ?_⟩
          · exact ⟨by dsimp only; omega, by simp [hal], hu⟩
          · repeat (first | exact .nil | refine .cons rfl ?_)
          · dsimp only; omega
      · skip
        simp at h2
        have hkk : (getN (bl s) p).1.toNat - k = 0 := by omega
        rw [hkk] at hu
        refine AWP.exit ?_
        refine thenA_x ?_
        refine thenA_x ?_
        refine blockA_h ?_
        refine thenA_n ?_
        refine AWP.seq ?_
        refine AWP.region (fun _ => ?_)
        refine ARun.move (.inl rfl) rfl rfl rfl (Ev.plain rfl) optN ?_
        refine ARun.move (.inl rfl) rfl rfl rfl (Ev.plain rfl) optN ?_
        refine ARun.move (.inr rfl) rfl rfl rfl (Ev.plain rfl) optN ?_
        refine ARun.move (.inr rfl) rfl rfl rfl (Ev.plain rfl) optN ?_
        refine ARun.move (.inr rfl) rfl rfl rfl (Ev.plain rfl) optN ?_
        refine ⟨_, _, rfl, hG, ?_⟩
        refine thenA_n ?_
        refine AWP.frzOwn 6 hG rfl rfl (by decide) (by simp [maxLen]; omega) rfl ?_
        refine AWP.ret ?_
        refine endF.many (.inr rfl) (rs := [.tmp 6, .tmp 7, .tmp 8]) rfl (.cons (.tmp rfl) (.cons (.tmp rfl) (.cons (.tmp rfl) .nil))) (by simp) ?_ hN
        rw [hdef, ← hu]; rfl
end Go.Proofs.YtgebpndhnkkbgaaGreatDoor
namespace Go.Proofs.YtgebpndhnkkbgaaGreatDoor
set_option linter.unusedVariables false
set_option linter.unusedSimpArgs false
open NumP
set_option linter.unusedVariables false
set_option linter.unusedSimpArgs false
structure Pc where
  kind : Int
  n : Int
  s : ByteArray
  l : List Int
instance : Inhabited Pc := ⟨⟨0, 0, ⟨#[]⟩, []⟩⟩
/-! ### what was read, laid again -/
theorem moved_zero {r : RdS} {p : ByteArray} {to e : Int} (h : (r.moved p to e).e = 0) (h0 : r.e = 0) : e = 0 ∧ r.moved p to e = { r with at_ := to } := by
  rw [moved_e _ _ _ _ h0] at h
  subst h
  exact ⟨rfl, by simp [RdS.moved]⟩
/-- bytes up to the place -/
def Upto (r : RdS) (w : WrS) : Prop := r.e = 0 → w.e = 0 ∧ w.s = (bl r.s).take r.at_.toNat
theorem wrPut_ok {w : WrS} (h : w.e = 0) (p : ByteArray) (t : List UInt8) : wrPut w p t 0 = { w with s := w.s ++ t } := by
  unfold wrPut; rw [if_neg (by omega), if_neg (by omega)]
theorem upto_put {r : RdS} {w : WrS} {p : ByteArray} {t : List UInt8} {to : Int} (hU : Upto r w) (h0 : r.e = 0) (hr : 0 ≤ r.at_ ∧ r.at_ ≤ to) (ht : ((bl r.s).take to.toNat).drop r.at_.toNat = t) :
    (wrPut w p t 0).e = 0 ∧ (wrPut w p t 0).s = (bl r.s).take to.toNat := by
  obtain ⟨h1, h2⟩ := hU h0
  rw [wrPut_ok h1]
  refine ⟨h1, ?_⟩
  show w.s ++ t = _
  rw [h2, ← ht]
  have := cut_join (bl r.s) 0 r.at_.toNat to.toNat (by omega) (by omega)
  simp only [List.drop_zero] at this
  exact this.symm
theorem first_num {r : RdS} (hr : r.ok) (w : WrS) (most : Int) (hU : Upto r w) : Upto (rdNum r most).1 (wrNum w (rdNum r most).2) := by
  intro h
  unfold rdNum at h ⊢
  by_cases he : r.e = 0
  · rw [if_neg (by omega)] at h ⊢
    obtain ⟨h1, h2⟩ := moved_zero h he
    rw [h2, h1]
    have h3 : (getN (bl r.s) r.at_).2.2 = 0 := by
      unfold numE at h1; split at h1 <;> omega
    have hg : getN (bl r.s) r.at_ = ((getN (bl r.s) r.at_).1, (getN (bl r.s) r.at_).2.1, 0) := by rw [← h3]
    obtain ⟨g1, g2, g3, g4, g5, g6⟩ := get_least _ _ _ _ hg
    have := upto_put (p := tNum) hU he ⟨hr.1, by omega⟩ g6
    have e0 : (putN (getN (bl r.s) r.at_).1).2 = 0 := by rw [putN_err, if_pos g1]
    simp only [ne_eq, not_true_eq_false, if_false]
    unfold wrNum
    rw [e0]; exact this
  · rw [if_pos he] at h; exact absurd h he
theorem unrowN_least (l : List UInt8) (p top to : Int) (xs : List Int) (h : unrowN l p top = (xs, to, 0)) : unrowN l p 1000 = (xs, to, 0) := by
  unfold unrowN at h ⊢
  split at h
  · rename_i h1; simp at h; exact absurd h.2.2 h1
  · rename_i h1
    rw [if_neg h1]
    split at h
    · simp at h
    · rename_i h2
      rw [if_neg (by omega)]; exact h
theorem first_row {r : RdS} (hr : r.ok) (w : WrS) (most : Int) (hU : Upto r w) : Upto (rdRow r most).1 (wrRow w (rdRow r most).2) := by
  intro h
  unfold rdRow at h ⊢
  by_cases he : r.e = 0
  · rw [if_neg (by omega)] at h ⊢
    obtain ⟨h1, h2⟩ := moved_zero h he
    rw [h2]
    have hg : unrowN (bl r.s) r.at_ most = ((unrowN (bl r.s) r.at_ most).1, (unrowN (bl r.s) r.at_ most).2.1, 0) := by rw [← h1]
    obtain ⟨g1, g2, g3, g4, g5, g6⟩ := unrow_least _ _ _ _ (unrowN_least _ _ _ _ _ hg)
    have := upto_put (p := tRow) (to := (unrowN (bl r.s) r.at_ most).2.1) hU he ⟨hr.1, by omega⟩ rfl
    unfold wrRow
    rw [g6]; exact this
  · rw [if_pos he] at h; exact absurd h he
theorem unrowF_len (l : List UInt8) (k : Nat) : ∀ (to : Int) (acc : List Int), (unrowF l k to acc).1.length ≤ acc.length + k := by
  induction k with
  | zero => intro to acc; exact Nat.le_refl _
  | succ k ih =>
    intro to acc
    rw [unrow_step]
    split
    · simp
    · have := ih (getN l to).2.1 (acc ++ [(getN l to).1]); simp at this; omega
theorem unrowN_len (l : List UInt8) (p top : Int) : (unrowN l p top).1.length ≤ 1000 := by
  unfold unrowN
  split
  · exact Nat.zero_le _
  · split
    · exact Nat.zero_le _
    · have := unrowF_len l (getN l p).1.toNat (getN l p).2.1 []
      simp at this; omega
theorem rdRow_len (r : RdS) (most : Int) : (rdRow r most).2.length ≤ 1000 := by
  unfold rdRow
  split
  · exact Nat.zero_le _
  · exact unrowN_len _ _ _
theorem rd_new_ok {s : ByteArray} (h : s.size ≤ 1000000) : (RdS.new s).ok := ⟨Int.le_refl 0, by show (0 : Int) ≤ s.size; omega, h⟩
theorem upto_new (s : ByteArray) : Upto (RdS.new s) WrS.new := fun _ => ⟨rfl, by simp [RdS.new, WrS.new]⟩
theorem upto_end {r : RdS} {w : WrS} (hr : r.ok) (h : Upto r w) (he : (rdEnd r).e = 0) : w.out = r.s ∧ w.e = 0 := by
  unfold rdEnd at he
  have h1 : ¬ (r.e = 0 ∧ r.at_ < r.s.size) := by
    intro h2; rw [if_pos h2, moved_e _ _ _ _ h2.1] at he; cases he
  rw [if_neg h1] at he
  obtain ⟨h2, h3⟩ := h he
  refine ⟨?_, h2⟩
  unfold WrS.out
  rw [if_pos h2, h3]
  apply bl_inj
  rw [bl_bs, List.take_of_length_le (by rw [bl_len]; have := hr.2.1; omega)]
end Go.Proofs.YtgebpndhnkkbgaaGreatDoor
namespace Go.Proofs.YtgebpndhnkkbgaaGreatDoor
set_option linter.unusedVariables false
set_option linter.unusedSimpArgs false
open Go.RowKit
open NumP
set_option maxRecDepth 100000
/-- a writer, a reader, as they lie -/
def aW (w : WrS) : List AV := [.adr 172, .buf 5 (bs w.s), aEr (errOf tWrite w.p w.e)]
def aRd (r : RdS) : List AV := [.str r.s, .int .i64 r.at_, aEr (errOf tRead r.p r.e), .bool true]
/-- the document's -/
def aIn (r : RdS) : AV := .agg [.str r.s, .int .i64 r.at_, .str r.p, .int .i64 r.e]
def aOut (w : WrS) : AV := .agg [.str w.out, .str w.p, .int .i64 w.e]
theorem noH_aW (m : Nat) (w : WrS) : ∀ x, x ∈ aW w → NoH m x := by simp [aW]
theorem noH_aRd (m : Nat) (r : RdS) : ∀ x, x ∈ aRd r → NoH m x := by simp [aRd]
theorem liesW : liesAt Tryz.prog Tryz.prog.depth 172 (3 / Tryz.prog.cellsOf 172) 0 170 1 = true := by kernel_rfl
theorem writeW (w : WrS) (s : ByteArray) (h : w.s.length + s.size ≤ 100000000) : FnM Tryz.prog 159 (fun i => [.box i 0, .str s]) (aW w) (.tup [.int .i64 s.size, .raw .nilIface]) [.adr 172, .buf 5 (bs w.s ++ s), aEr (errOf tWrite w.p w.e)] :=
  bld_write (n := 3) liesW (by decide) (bs w.s) s [aEr (errOf tWrite w.p w.e)] rfl (by rw [bs_size]; omega)
theorem plain_aEr (e : Er) : (aEr e).plainC = true := by cases e <;> rfl
theorem unrowF_bad (l : List UInt8) (k : Nat) : ∀ (to : Int) (acc : List Int), (unrowF l k to acc).2.2 ≠ 0 → (unrowF l k to acc).1 = [] := by
  induction k with
  | zero => intro to acc h; exact absurd rfl h
  | succ k ih =>
    intro to acc h
    rw [unrow_step] at h ⊢
    split
    · rfl
    · rename_i h1; rw [if_neg h1] at h; exact ih _ _ h
theorem unrow_bad {l : List UInt8} {p top : Int} (h : (unrowN l p top).2.2 ≠ 0) : (unrowN l p top).1 = [] := by
  unfold unrowN at h ⊢
  split
  · rfl
  · rename_i h1
    rw [if_neg h1] at h
    split
    · rfl
    · rename_i h2; rw [if_neg h2] at h; exact unrowF_bad _ _ _ _ h
theorem moved_pos {r : RdS} {p : ByteArray} {to e : Int} (h : e ≠ 0) : r.moved p to e = { r with p := p, e := e } := if_pos h
theorem moved_neg {r : RdS} {p : ByteArray} {to e : Int} (h : e = 0) : r.moved p to e = { r with at_ := to } := if_neg (by simpa using h)
set_option maxHeartbeats 1000000 in
theorem put_w (w : WrS) (p : ByteArray) (u : List UInt8) (s : ByteArray) (hs : s = bs u) (e : Int) (hl : w.s.length + u.length ≤ 10000000) : FnM Tryz.prog 145 (fun i => [.box i 0, .str p, .str s, .int .i64 e]) (aW w) (.tup []) (aW (wrPut w p u e)) := by
  subst hs
  refine FnM.of Tryz.func145 rfl rfl (fun i => by simp) (fun H i m hHm hi hG => ?_)
  have hN : NoH H.length (.tup []) := (by simp [AV.cells, aIn, aOut])
  refine AWP.seq ?_
  refine AWP.seq ?_
  refine AWP.region (fun _ => ?_)
  refine ARun.move (.inl rfl) rfl rfl rfl (Ev.plain rfl) optN ?_
  refine ARun.isNilBox rfl rfl rfl rfl Tryz.underlying211 (Ev.plain rfl) (atO hi) (.inl ⟨rfl, rfl⟩) optN ?_
  refine ARun.move (.inl rfl) rfl rfl rfl (Ev.plain rfl) optN ?_
  refine ARun.move (.inl rfl) rfl rfl rfl (Ev.plain rfl) optS ?_
  first | refine ARun.nilPe rfl rfl rfl rfl (Ev.opt rfl (fun h => h)) optS ?_ | refine ARun.nilFn rfl rfl rfl rfl (Ev.opt rfl (fun h => h)) optS ?_ | refine ARun.nilBox rfl rfl rfl rfl (Ev.opt rfl (fun h => h)) (atO hi) optS ?_
  refine ARun.fieldBox (fo := 2) rfl rfl rfl rfl Tryz.underlying172 rfl rfl sz53 (by decide) (Ev.opt rfl (fun h => h)) (atO hi) optS ?_
  refine ARun.loadBox rfl rfl rfl rfl Tryz.underlying53 rfl (Ev.opt rfl (fun h => h)) (atO hi) rfl optS ?_
  refine ARun.isNil rfl rfl rfl rfl Tryz.underlying53 (Ev.opt rfl (fun h => h)) (fun hg => by first | rfl | exact nilA_aEr _) (.inr ⟨rfl, rfl⟩) optS ?_
  refine ARun.pick rfl rfl rfl rfl (Ev.plain rfl) (Ev.plain rfl) (Ev.opt rfl (by first | exact pkF | exact pkF2 | simp +contextual)) (orB _ _) optN ?_
  refine ⟨_, _, rfl, hG, ?_⟩
  refine thenA_n ?_
  refine AWP.cond rfl (fun h0 => ?_) (fun h0 => ?_)
  · skip
    have hw : w.e ≠ 0 := by simpa [errOf_none] using h0
    refine AWP.ret ?_
    refine thenA_r ?_
    refine endF.toG (congrArg (fun c => H.set i (AO.box c)) (by rw [wrPut, if_pos hw])) ?_
    refine endF.many (.inr rfl) (rs := []) rfl .nil (by simp) ?_ (by rw [List.length_set]; exact hN)
    rfl
  · skip
    have hw : w.e = 0 := by simpa [errOf_none] using h0
    refine AWP.skip ?_
    refine thenA_n ?_
    refine AWP.seq ?_
    refine AWP.seq ?_
    refine AWP.region (fun _ => ?_)
    refine ARun.move (.inl rfl) rfl rfl rfl (Ev.plain rfl) optN ?_
    refine ARun.cmp rfl rfl rfl rfl (Ev.plain rfl) (Ev.plain rfl) rfl optN ?_
    refine ⟨_, _, rfl, hG, ?_⟩
    refine thenA_n ?_
    refine AWP.cond rfl (fun h1 => ?_) (fun h1 => ?_)
    · skip
      have he : e ≠ 0 := by simpa using h1
      refine AWP.seq ?_
      refine AWP.region (fun _ => ?_)
      refine ARun.move (.inl rfl) rfl rfl rfl (Ev.plain rfl) optN ?_
      refine ARun.move (.inl rfl) rfl rfl rfl (Ev.plain rfl) optN ?_
      refine ARun.move (.inl rfl) rfl rfl rfl (Ev.plain rfl) optN ?_
      refine ARun.call rfl rfl rfl rfl cf62 (Ev.plain rfl) (.cons (Ev.plain rfl) (.cons (Ev.plain rfl) .nil)) rfl (fun hg => new_fn p e) optN ?_
      refine ARun.call rfl rfl rfl rfl cf61 (Ev.plain rfl) (.cons (Ev.plain rfl) (.cons (Ev.plain rfl) .nil)) rfl (fun hg => wrap_fn tWrite (Er.new p e)) optN ?_
      first | refine ARun.nilPe rfl rfl rfl rfl (Ev.plain rfl) optN ?_ | refine ARun.nilFn rfl rfl rfl rfl (Ev.plain rfl) optN ?_ | refine ARun.nilBox rfl rfl rfl rfl (Ev.plain rfl) (atO hi) optN ?_
      refine ARun.fieldBox (fo := 2) rfl rfl rfl rfl Tryz.underlying172 rfl rfl sz53 (by decide) (Ev.plain rfl) (atO hi) optN ?_
      refine ARun.storeO1 hi hG rfl rfl rfl sz53 (Ev.plain rfl) (Ev.plain rfl) (by first | rfl | exact aEr_one _ | exact aFl_one _) (Nat.le_of_ble_eq_true rfl) rfl (by first | exact noH_aW _ _ | (simp; done) | (simp [cAV]; done)) (fun hG => ?_) (hsp := (by simp [aW, plain_aEr]))
      refine ⟨_, _, rfl, hG, ?_⟩
      refine thenA_n ?_
      refine AWP.ret ?_
      refine thenA_r ?_
      refine endF.toG (congrArg (fun c => H.set i (AO.box c)) (by rw [wrPut, if_neg (by omega), if_pos he]; exact congrArg (fun x => [AV.adr _, .buf _ (bs w.s), aEr x]) (errOf_mk tWrite p e))) ?_
      refine endF.many (.inr rfl) (rs := []) rfl .nil (by simp) ?_ (by rw [List.length_set]; exact hN)
      rfl
    · skip
      have he : e = 0 := by simpa using h1
      refine AWP.skip ?_
      refine thenA_n ?_
      refine AWP.region (fun _ => ?_)
      refine ARun.move (.inl rfl) rfl rfl rfl (Ev.plain rfl) optN ?_
      first | refine ARun.nilPe rfl rfl rfl rfl (Ev.plain rfl) optN ?_ | refine ARun.nilFn rfl rfl rfl rfl (Ev.plain rfl) optN ?_ | refine ARun.nilBox rfl rfl rfl rfl (Ev.plain rfl) (atO hi) optN ?_
      refine ARun.fieldBox (fo := 0) rfl rfl rfl rfl Tryz.underlying172 rfl rfl sz170 (by decide) (Ev.plain rfl) (atO hi) optN ?_
      refine ARun.move (.inl rfl) rfl rfl rfl (Ev.plain rfl) optN ?_
      refine ARun.callO hi hG rfl rfl rfl rfl cf159 (Ev.plain rfl) (.cons (Ev.plain rfl) (.cons (Ev.plain rfl) .nil)) rfl (writeW w (bs u) (by rw [bs_size]; omega) _ _ (atO hi)) (by first | exact noH_aW _ _ | (simp; done) | (simp [cAV]; done)) optN (fun hG => ?_)
      refine ⟨_, _, rfl, hG, ?_⟩
      refine endF.toG (congrArg (fun c => H.set i (AO.box c)) (by rw [wrPut, if_neg (by omega), if_neg (by omega), bs_append]; rfl)) ?_
      refine endF.many (.inl rfl) (rs := []) rfl .nil (by simp) ?_ (by rw [List.length_set]; exact hN)
      rfl
-- numbers
set_option maxHeartbeats 1000000 in
theorem nums_w (w : WrS) (l : List Int) (hll : l.length ≤ 1000) (hl : w.s.length ≤ 1000000) (hf : ∀ x, x ∈ l → -9223372036854775808 ≤ x ∧ x ≤ 9223372036854775807) : FnM Tryz.prog 116 (fun i => [.box i 0, .sl (l.map (AV.int .i64))]) (aW w) (.tup []) (aW (wrNums w l)) := by
  refine FnM.of Tryz.func116 rfl rfl (fun i => by simp) (fun H i m hHm hi hG => ?_)
  have hN : NoH H.length (.tup []) := (by simp [AV.cells, aIn, aOut])
  refine AWP.seq ?_
  refine AWP.region (fun _ => ?_)
  refine ARun.move (.inl rfl) rfl rfl rfl (Ev.plain rfl) optN ?_
  refine ARun.makeFunc rfl rfl rfl rfl (.cons (Ev.plain rfl) .nil) .nil optN ?_
  refine ARun.move (.inr rfl) rfl rfl rfl (Ev.plain rfl) optN ?_
  refine ⟨_, _, rfl, hG, ?_⟩
  refine thenA_n ?_
  refine AWP.seq ?_
  refine AWP.region (fun _ => ?_)
  refine ARun.move (.inl rfl) rfl rfl rfl (Ev.plain rfl) optN ?_
  refine ARun.lenSl rfl rfl rfl rfl Tryz.underlying29 (Ev.plain rfl) optN ?_
  refine ARun.move (.inl rfl) rfl rfl rfl (Ev.plain rfl) optN ?_
  refine ⟨_, _, rfl, hG, ?_⟩
  refine thenA_n ?_
  refine AWP.block ?_
  refine AWP.roundsO (fun k => k ≤ l.length) (fun k => [(1, .sl (l.map (AV.int .i64))), (4, .fn (.func 145) [.box i 0] []), (11, .sl (l.map (AV.int .i64))), (12, .int .i64 ((l.map (AV.int .i64)).length : Int)), (13, .int .i64 (k : Int))]) (fun k => H.set i (.box (aW (wrNums w (l.take k))))) (fun k => []) (fun k => l.length - k) 0 0 (Nat.zero_le _) (by repeat (first | exact .nil | refine .cons rfl ?_)) rfl rfl (fun _ => rfl) (fun _ => ⟨by simp [AV.cells]; omega, by simp⟩) (fun k hI hG => ?_)
  show AWP _ _ _ _ _ [(1, .sl (l.map (AV.int .i64))), (4, .fn (.func 145) [.box i 0] []), (11, .sl (l.map (AV.int .i64))), (12, .int .i64 ((l.map (AV.int .i64)).length : Int)), (13, .int .i64 (k : Int))] (H.set i (.box (aW (wrNums w (l.take k))))) []
  replace hG : GOK _ (H.set i (.box (aW (wrNums w (l.take k))))) := hG
  have hwl := wrNums_len (l.take k) w
  have htl : (l.take k).length ≤ k := by rw [List.length_take]; omega
  refine AWP.seq ?_
  refine AWP.region (fun _ => ?_)
  refine ARun.cmp rfl rfl rfl rfl (Ev.plain rfl) (Ev.plain rfl) rfl optN ?_
  refine ⟨_, _, rfl, hG, ?_⟩
  refine thenA_n ?_
  refine AWP.seq ?_
  refine AWP.cond rfl (fun h0 => ?_) (fun h0 => ?_)
  · skip
    try simp [-List.getD_eq_getElem?_getD] at h0
    refine AWP.skip ?_
    refine thenA_n ?_
    refine AWP.seq ?_
    refine AWP.block ?_
    refine AWP.seq ?_
    refine AWP.region (fun _ => ?_)
    first | refine ARun.indexSl rfl rfl rfl rfl Tryz.underlying29 sz3 (Ev.plain rfl) (Ev.plain rfl) (fun _ => rfl) (fun hg => getMap _ _ _ (by (try simp at hg); omega)) rfl rfl optN ?_ | refine ARun.indexSl rfl rfl rfl rfl Tryz.underlying29 sz3 (Ev.plain rfl) (Ev.plain rfl) (fun hg => ofNonneg (by (try simp at hg); omega)) (fun hg => getMap _ _ _ (by (try simp at hg); omega)) rfl rfl optN ?_
    refine ARun.loadPe rfl rfl rfl rfl Tryz.underlying3 rfl (Ev.plain rfl) rfl optN ?_
    refine ARun.move (.inr rfl) rfl rfl rfl (Ev.plain rfl) optN ?_
    refine ⟨_, _, rfl, hG, ?_⟩
    refine thenA_n ?_
    refine AWP.seq ?_
    refine AWP.region (fun _ => ?_)
    refine ARun.move (.inl rfl) rfl rfl rfl (Ev.plain rfl) optN ?_
    refine ARun.call rfl rfl rfl rfl cf146 (Ev.plain rfl) (.cons (Ev.plain rfl) .nil) rfl (fun hg => put_fn _ (fit_at hf (by simpa using h0))) optN ?_
    refine ARun.move (.inl rfl) rfl rfl rfl (Ev.plain rfl) optN ?_
    refine ARun.extract rfl rfl rfl rfl (Ev.plain rfl) rfl optN ?_
    refine ARun.extract rfl rfl rfl rfl (Ev.plain rfl) rfl optN ?_
    refine ARun.move (.inr rfl) rfl rfl rfl (Ev.plain rfl) optN ?_
    refine ARun.move (.inr rfl) rfl rfl rfl (Ev.plain rfl) optN ?_
    refine ⟨_, _, rfl, hG, ?_⟩
    refine thenA_n ?_
    refine AWP.region (fun _ => ?_)
    refine ARun.move (.inl rfl) rfl rfl rfl (Ev.plain rfl) optN ?_
    refine ARun.move (.inl rfl) rfl rfl rfl (Ev.plain rfl) optN ?_
    refine ARun.move (.inl rfl) rfl rfl rfl (Ev.plain rfl) optN ?_
    refine ARun.callO hi hG rfl rfl rfl rfl cf145 (Ev.plain rfl) (.cons (Ev.plain rfl) (.cons (Ev.plain rfl) (.cons (Ev.plain rfl) .nil))) rfl (put_w (wrNums w (l.take k)) tNum (putN (l.getD k default)).1 _ rfl (putN (l.getD k default)).2 (by have := putN_len (l.getD k default); omega) _ _ (atO hi)) (by first | exact noH_aW _ _ | (simp; done) | (simp [cAV]; done)) optN (fun hG => ?_)
    refine ⟨_, _, rfl, hG, ?_⟩
    refine blockA_n ?_
    refine thenA_n ?_
    refine AWP.region (fun _ => ?_)
    first | refine ARun.arith rfl rfl rfl rfl (Ev.plain rfl) (Ev.plain rfl) rfl (fun hg => i64w (by (try simp at hg); omega)) optN ?_ | refine ARun.arith rfl rfl rfl rfl (Ev.plain rfl) (Ev.plain rfl) rfl (fun _ => rfl) optN ?_
    refine ARun.move (.inl rfl) rfl rfl rfl (Ev.plain rfl) optN ?_
    refine ⟨_, _, rfl, hG, ?_⟩
    refine thenA_n ⟨k + 1, _, ?_, ?_, ?_, rfl, ?_⟩
    · rw [wrNums_succ w l k (by simpa using h0)]; rfl
    · omega
    · repeat (first | exact .nil | refine .cons rfl ?_)
    · omega
  · skip
    simp at h0
    obtain rfl : k = l.length := by omega
    rw [List.take_length]
    refine AWP.exit ?_
    refine thenA_x ?_
    refine thenA_x ?_
    refine blockA_h ?_
    refine endF.toG (congrArg (fun c => H.set i (AO.box c)) rfl) ?_
    refine endF.many (.inl rfl) (rs := []) rfl .nil (by simp) ?_ (by rw [List.length_set]; exact hN)
    rfl
set_option maxHeartbeats 1000000 in
theorem row_w (w : WrS) (l : List Int) (hll : l.length ≤ 10000) (hl : w.s.length ≤ 1000000) (hf : ∀ x, x ∈ l → -9223372036854775808 ≤ x ∧ x ≤ 9223372036854775807) : FnM Tryz.prog 117 (fun i => [.box i 0, .sl (l.map (AV.int .i64))]) (aW w) (.tup []) (aW (wrRow w l)) := by
  have hrl := rowN_len l
  refine FnM.of Tryz.func117 rfl rfl (fun i => by simp) (fun H i m hHm hi hG => ?_)
  have hN : NoH H.length (.tup []) := (by simp [AV.cells, aIn, aOut])
  refine AWP.seq ?_
  refine AWP.region (fun _ => ?_)
  refine ARun.move (.inl rfl) rfl rfl rfl (Ev.plain rfl) optN ?_
  refine ARun.call rfl rfl rfl rfl cf147 (Ev.plain rfl) (.cons (Ev.plain rfl) .nil) rfl (fun hg => rowN_fn l hll hf) optN ?_
  refine ARun.move (.inl rfl) rfl rfl rfl (Ev.plain rfl) optN ?_
  refine ARun.extract rfl rfl rfl rfl (Ev.plain rfl) rfl optN ?_
  refine ARun.extract rfl rfl rfl rfl (Ev.plain rfl) rfl optN ?_
  refine ARun.move (.inr rfl) rfl rfl rfl (Ev.plain rfl) optN ?_
  refine ARun.move (.inr rfl) rfl rfl rfl (Ev.plain rfl) optN ?_
  refine ⟨_, _, rfl, hG, ?_⟩
  refine thenA_n ?_
  refine AWP.region (fun _ => ?_)
  refine ARun.move (.inl rfl) rfl rfl rfl (Ev.plain rfl) optN ?_
  refine ARun.move (.inl rfl) rfl rfl rfl (Ev.plain rfl) optN ?_
  refine ARun.move (.inl rfl) rfl rfl rfl (Ev.plain rfl) optN ?_
  refine ARun.callO hi hG rfl rfl rfl rfl cf145 (Ev.plain rfl) (.cons (Ev.plain rfl) (.cons (Ev.plain rfl) (.cons (Ev.plain rfl) (.cons (Ev.plain rfl) .nil)))) rfl (put_w w tRow (rowN l).1 _ rfl (rowN l).2 (by omega) _ _ (atO hi)) (by first | exact noH_aW _ _ | (simp; done) | (simp [cAV]; done)) optN (fun hG => ?_)
  refine ⟨_, _, rfl, hG, ?_⟩
  refine endF.toG (congrArg (fun c => H.set i (AO.box c)) rfl) ?_
  refine endF.many (.inl rfl) (rs := []) rfl .nil (by simp) ?_ (by rw [List.length_set]; exact hN)
  rfl
set_option maxHeartbeats 1000000 in
theorem done_ok (w : WrS) (h : w.e = 0) : FnK Tryz.prog 118 (fun i => [.box i 0]) (aW w) (.tup [.str w.out, .raw .nilIface]) := by
  refine FnK.of Tryz.func118 rfl rfl (fun i => by simp) (fun H i m hHm hi hG => ?_)
  have hN : NoH H.length (.tup [.str w.out, .raw .nilIface]) := (by simp [AV.cells, aIn, aOut])
  refine AWP.seq ?_
  refine AWP.region (fun _ => ?_)
  refine ARun.move (.inr rfl) rfl rfl rfl (Ev.plain rfl) optN ?_
  refine ARun.move (.inr rfl) rfl rfl rfl (Ev.plain rfl) optN ?_
  refine ⟨_, _, rfl, hG, ?_⟩
  refine thenA_n ?_
  refine AWP.seq ?_
  refine AWP.seq ?_
  refine AWP.region (fun _ => ?_)
  refine ARun.move (.inl rfl) rfl rfl rfl (Ev.plain rfl) optN ?_
  refine ARun.isNilBox rfl rfl rfl rfl Tryz.underlying211 (Ev.plain rfl) (atO hi) (.inl ⟨rfl, rfl⟩) optN ?_
  refine ⟨_, _, rfl, hG, ?_⟩
  refine thenA_n ?_
  refine AWP.cond rfl (fun h0 => ?_) (fun h0 => ?_)
  · skip
    simp at h0
  · skip
    refine AWP.skip ?_
    refine thenA_n ?_
    refine AWP.seq ?_
    refine AWP.seq ?_
    refine AWP.region (fun _ => ?_)
    refine ARun.move (.inl rfl) rfl rfl rfl (Ev.plain rfl) optN ?_
    first | refine ARun.nilPe rfl rfl rfl rfl (Ev.plain rfl) optN ?_ | refine ARun.nilFn rfl rfl rfl rfl (Ev.plain rfl) optN ?_ | refine ARun.nilBox rfl rfl rfl rfl (Ev.plain rfl) (atO hi) optN ?_
    refine ARun.fieldBox (fo := 2) rfl rfl rfl rfl Tryz.underlying172 rfl rfl sz53 (by decide) (Ev.plain rfl) (atO hi) optN ?_
    refine ARun.loadBox rfl rfl rfl rfl Tryz.underlying53 rfl (Ev.plain rfl) (atO hi) rfl optN ?_
    refine ARun.isNil rfl rfl rfl rfl Tryz.underlying53 (Ev.plain rfl) (fun hg => by first | rfl | exact nilA_aEr _) (.inr ⟨rfl, rfl⟩) optN ?_
    refine ⟨_, _, rfl, hG, ?_⟩
    refine thenA_n ?_
    refine AWP.cond rfl (fun h1 => ?_) (fun h1 => ?_)
    · skip
      simp [errOf_none, h] at h1
    · skip
      refine AWP.skip ?_
      refine thenA_n ?_
      refine AWP.seq ?_
      refine AWP.region (fun _ => ?_)
      refine ARun.move (.inl rfl) rfl rfl rfl (Ev.plain rfl) optN ?_
      first | refine ARun.nilPe rfl rfl rfl rfl (Ev.plain rfl) optN ?_ | refine ARun.nilFn rfl rfl rfl rfl (Ev.plain rfl) optN ?_ | refine ARun.nilBox rfl rfl rfl rfl (Ev.plain rfl) (atO hi) optN ?_
      refine ARun.fieldBox (fo := 0) rfl rfl rfl rfl Tryz.underlying172 rfl rfl sz170 (by decide) (Ev.plain rfl) (atO hi) optN ?_
      refine ARun.callK hi hG rfl rfl rfl rfl cf148 (Ev.plain rfl) (.cons (Ev.plain rfl) .nil) rfl (bld_string (T := 172) (n := 3) (bs w.s) [aEr (errOf tWrite w.p w.e)] _ _ (atO hi)) optN (fun hG => ?_)
      refine ARun.move (.inr rfl) rfl rfl rfl (Ev.plain rfl) optN ?_
      refine ARun.move (.inr rfl) rfl rfl rfl (Ev.plain rfl) optN ?_
      refine ⟨_, _, rfl, hG, ?_⟩
      refine thenA_n ?_
      refine AWP.ret ?_
      refine endF.many (.inr rfl) (rs := [.tmp 2, .tmp 3]) rfl (.cons (.tmp rfl) (.cons (.tmp rfl) .nil)) (by simp) ?_ (by rw [List.length_set]; exact hN)
      rw [WrS.out, if_pos h]; rfl
set_option maxHeartbeats 1000000 in
theorem done_bad (w : WrS) (h : w.e ≠ 0) : FnM Tryz.prog 118 (fun i => [.box i 0]) (aW w) (.tup [.str w.out, aEr (errOf tWrite w.p w.e)]) (aW w) := by
  refine FnM.of Tryz.func118 rfl rfl (fun i => by simp) (fun H i m hHm hi hG => ?_)
  have hN : NoH H.length (.tup [.str w.out, aEr (errOf tWrite w.p w.e)]) := (by simp [AV.cells, aIn, aOut])
  refine AWP.seq ?_
  refine AWP.region (fun _ => ?_)
  refine ARun.move (.inr rfl) rfl rfl rfl (Ev.plain rfl) optN ?_
  refine ARun.move (.inr rfl) rfl rfl rfl (Ev.plain rfl) optN ?_
  refine ⟨_, _, rfl, hG, ?_⟩
  refine thenA_n ?_
  refine AWP.seq ?_
  refine AWP.seq ?_
  refine AWP.region (fun _ => ?_)
  refine ARun.move (.inl rfl) rfl rfl rfl (Ev.plain rfl) optN ?_
  refine ARun.isNilBox rfl rfl rfl rfl Tryz.underlying211 (Ev.plain rfl) (atO hi) (.inl ⟨rfl, rfl⟩) optN ?_
  refine ⟨_, _, rfl, hG, ?_⟩
  refine thenA_n ?_
  refine AWP.cond rfl (fun h0 => ?_) (fun h0 => ?_)
  · skip
    simp at h0
  · skip
    refine AWP.skip ?_
    refine thenA_n ?_
    refine AWP.seq ?_
    refine AWP.seq ?_
    refine AWP.region (fun _ => ?_)
    refine ARun.move (.inl rfl) rfl rfl rfl (Ev.plain rfl) optN ?_
    first | refine ARun.nilPe rfl rfl rfl rfl (Ev.plain rfl) optN ?_ | refine ARun.nilFn rfl rfl rfl rfl (Ev.plain rfl) optN ?_ | refine ARun.nilBox rfl rfl rfl rfl (Ev.plain rfl) (atO hi) optN ?_
    refine ARun.fieldBox (fo := 2) rfl rfl rfl rfl Tryz.underlying172 rfl rfl sz53 (by decide) (Ev.plain rfl) (atO hi) optN ?_
    refine ARun.loadBox rfl rfl rfl rfl Tryz.underlying53 rfl (Ev.plain rfl) (atO hi) rfl optN ?_
    refine ARun.isNil rfl rfl rfl rfl Tryz.underlying53 (Ev.plain rfl) (fun hg => by first | rfl | exact nilA_aEr _) (.inr ⟨rfl, rfl⟩) optN ?_
    refine ⟨_, _, rfl, hG, ?_⟩
    refine thenA_n ?_
    refine AWP.cond rfl (fun h1 => ?_) (fun h1 => ?_)
    · skip
      refine AWP.seq ?_
      refine AWP.draw mixed (by kernel_rfl) (fun _ => ?_)
      refine ARun.move (.inl rfl) rfl rfl rfl (Ev.plain rfl) optN ?_
      first | refine ARun.nilPe rfl rfl rfl rfl (Ev.plain rfl) optN ?_ | refine ARun.nilFn rfl rfl rfl rfl (Ev.plain rfl) optN ?_ | refine ARun.nilBox rfl rfl rfl rfl (Ev.plain rfl) (atO hi) optN ?_
      refine ARun.fieldBox (fo := 2) rfl rfl rfl rfl Tryz.underlying172 rfl rfl sz53 (by decide) (Ev.plain rfl) (atO hi) optN ?_
      refine ARun.loadBox rfl rfl rfl rfl Tryz.underlying53 rfl (Ev.plain rfl) (atO hi) rfl optN ?_
      refine ARun.move (.inr rfl) rfl rfl rfl (Ev.plain rfl) optN ?_
      refine ARun.move (.inr rfl) rfl rfl rfl (Ev.plain rfl) optN ?_
      refine ⟨by kernel_rfl, _, _, rfl, hG, ?_⟩
      refine thenA_n ?_
      refine AWP.ret ?_
      refine thenA_r ?_
      refine endF.toG (congrArg (fun c => H.set i (AO.box c)) rfl) ?_
      refine endF.many (.inr rfl) (rs := [.tmp 2, .tmp 3]) rfl (.cons (.tmp rfl) (.cons (.tmp rfl) .nil)) (by simp) ?_ (by rw [List.length_set]; exact hN)
      rw [WrS.out, if_neg h]; rfl
    · skip
      simp [errOf_none, h] at h1
theorem done_w (w : WrS) : FnK Tryz.prog 118 (fun i => [.box i 0]) (aW w) (.tup [.str w.out, aEr (errOf tWrite w.p w.e)]) := by
  by_cases h : w.e = 0
  · rw [h, errOf_zero]; exact done_ok w h
  · exact (done_bad w h).kill (by simp)
set_option maxHeartbeats 1000000 in
theorem newr_fn (s : ByteArray) : FnNewB Tryz.prog 56 [.str s] (fun i => .box i 0) (aRd (RdS.new s)) := by
  refine FnNewB.of Tryz.func56 rfl rfl (by simp) (fun G hG => ?_)
  refine AWP.seq ?_
  refine AWP.region (fun _ => ?_)
  refine ARun.move (.inr rfl) rfl rfl rfl (Ev.plain rfl) optN ?_
  refine ⟨_, _, rfl, hG, ?_⟩
  refine thenA_n ?_
  refine AWP.seq ?_
  refine AWP.region (fun _ => ?_)
  refine ARun.move (.inl rfl) rfl rfl rfl (Ev.plain rfl) optN ?_
  refine ARun.build rfl rfl rfl rfl so139 (.cons (Ev.plain rfl) (.cons (Ev.plain rfl) .nil)) rfl rfl optN ?_
  refine ARun.box (j := 0) hG rfl rfl rfl rfl rfl (Ev.plain rfl) rfl rfl optN ?_
  refine ARun.move (.inr rfl) rfl rfl rfl (Ev.plain rfl) optN ?_
  refine ⟨_, _, rfl, hG, ?_⟩
  refine thenA_n ?_
  refine AWP.ret ?_
  refine endN.one (.inr rfl) rfl (.tmp rfl) ?_ (by first | exact noH_aRd _ _ | (simp; done)) (by first | exact noH_aRd _ _ | (simp; done))
  rfl
set_option maxHeartbeats 1000000 in
theorem goes_fn (r : RdS) : FnM Tryz.prog 93 (fun i => [.box i 0]) (aRd r) (.bool (decide (r.e = 0))) (aRd r) := by
  refine FnM.of Tryz.func93 rfl rfl (fun i => by simp) (fun H i m hHm hi hG => ?_)
  have hN : NoH H.length (.bool (decide (r.e = 0))) := (by simp [AV.cells, aIn, aOut])
  refine AWP.seq ?_
  refine AWP.region (fun _ => ?_)
  refine ARun.move (.inr rfl) rfl rfl rfl (Ev.plain rfl) optN ?_
  refine ⟨_, _, rfl, hG, ?_⟩
  refine thenA_n ?_
  refine AWP.seq ?_
  refine AWP.region (fun _ => ?_)
  refine ARun.alloc (j := 0) hG rfl rfl rfl rfl rfl zv145 rfl optN ?_
  refine ⟨_, _, rfl, hG, ?_⟩
  refine thenA_n ?_
  refine AWP.seq ?_
  refine AWP.region (fun _ => ?_)
  refine ARun.move (.inl rfl) rfl rfl rfl (Ev.plain rfl) optN ?_
  refine ARun.isNilBox rfl rfl rfl rfl Tryz.underlying100 (Ev.plain rfl) (atO hi) (.inr ⟨rfl, rfl⟩) optN ?_
  refine ARun.move (.inl rfl) rfl rfl rfl (Ev.plain rfl) optN ?_
  refine ARun.move (.inl rfl) rfl rfl rfl (Ev.plain rfl) optS ?_
  first | refine ARun.nilPe rfl rfl rfl rfl (Ev.opt rfl (fun h => h)) optS ?_ | refine ARun.nilFn rfl rfl rfl rfl (Ev.opt rfl (fun h => h)) optS ?_ | refine ARun.nilBox rfl rfl rfl rfl (Ev.opt rfl (fun h => h)) (atO hi) optS ?_
  refine ARun.fieldBox (fo := 3) rfl rfl rfl rfl Tryz.underlying139 rfl rfl sz4 (by decide) (Ev.opt rfl (fun h => h)) (atO hi) optS ?_
  refine ARun.loadBox rfl rfl rfl rfl Tryz.underlying4 rfl (Ev.opt rfl (fun h => h)) (atO hi) rfl optS ?_
  refine ARun.pick rfl rfl rfl rfl (Ev.plain rfl) (Ev.opt rfl (by first | exact pkT | exact pkT2 | simp +contextual)) (Ev.plain rfl) (andB _ _) optN ?_
  refine ARun.move (.inl rfl) rfl rfl rfl (Ev.plain rfl) optN ?_
  refine ARun.move (.inl rfl) rfl rfl rfl (Ev.plain rfl) optS ?_
  first | refine ARun.nilPe rfl rfl rfl rfl (Ev.opt rfl (fun h => h)) optS ?_ | refine ARun.nilFn rfl rfl rfl rfl (Ev.opt rfl (fun h => h)) optS ?_ | refine ARun.nilBox rfl rfl rfl rfl (Ev.opt rfl (fun h => h)) (atO hi) optS ?_
  refine ARun.fieldBox (fo := 2) rfl rfl rfl rfl Tryz.underlying139 rfl rfl sz53 (by decide) (Ev.opt rfl (fun h => h)) (atO hi) optS ?_
  refine ARun.loadBox rfl rfl rfl rfl Tryz.underlying53 rfl (Ev.opt rfl (fun h => h)) (atO hi) rfl optS ?_
  refine ARun.iface rfl rfl rfl rfl (by kernel_rfl) (Ev.plain rfl) optS ?_
  refine ARun.callSetG (j := 0) hG rfl rfl rfl rfl cf63 (Ev.plain rfl) (.cons (Ev.opt rfl (fun h => h)) (.cons (Ev.opt rfl (fun h => h)) .nil)) rfl (fun hg => As_F (errOf tRead r.p r.e) _ _ ((hG.at _ _).trans rfl)) (fun hg => by simp at hg) rfl optS ?_
  refine ARun.not rfl rfl rfl rfl (Ev.opt rfl (fun h => h)) optS ?_
  refine ARun.pick rfl rfl rfl rfl (Ev.plain rfl) (Ev.opt rfl (by first | exact pkT | exact pkT2 | simp +contextual)) (Ev.plain rfl) (andB _ _) optN ?_
  refine ARun.move (.inr rfl) rfl rfl rfl (Ev.plain rfl) optN ?_
  refine ⟨_, _, rfl, hG, ?_⟩
  refine thenA_n ?_
  refine AWP.ret ?_
  refine endF.toG (congrArg (fun c => H.set i (AO.box c)) rfl) ?_
  refine endF.one (.inr rfl) rfl (.tmp rfl) ?_ (by rw [List.length_set]; exact hN)
  simp [errOf_isWr]
set_option maxHeartbeats 1000000 in
theorem done_fn (r : RdS) (p : ByteArray) (to e : Int) : FnM Tryz.prog 95 (fun i => [.box i 0, .str p, .int .i64 to, .int .i64 e]) (aRd r) (.bool (decide (e = 0))) (aRd (r.moved p to e)) := by
  refine FnM.of Tryz.func95 rfl rfl (fun i => by simp) (fun H i m hHm hi hG => ?_)
  have hN : NoH H.length (.bool (decide (e = 0))) := (by simp [AV.cells, aIn, aOut])
  refine AWP.seq ?_
  refine AWP.region (fun _ => ?_)
  refine ARun.move (.inr rfl) rfl rfl rfl (Ev.plain rfl) optN ?_
  refine ⟨_, _, rfl, hG, ?_⟩
  refine thenA_n ?_
  refine AWP.seq ?_
  refine AWP.seq ?_
  refine AWP.region (fun _ => ?_)
  refine ARun.move (.inl rfl) rfl rfl rfl (Ev.plain rfl) optN ?_
  refine ARun.cmp rfl rfl rfl rfl (Ev.plain rfl) (Ev.plain rfl) rfl optN ?_
  refine ⟨_, _, rfl, hG, ?_⟩
  refine thenA_n ?_
  refine AWP.cond rfl (fun h0 => ?_) (fun h0 => ?_)
  · skip
    have he : e ≠ 0 := by simpa using h0
    refine AWP.seq ?_
    refine AWP.region (fun _ => ?_)
    refine ARun.move (.inl rfl) rfl rfl rfl (Ev.plain rfl) optN ?_
    refine ARun.move (.inl rfl) rfl rfl rfl (Ev.plain rfl) optN ?_
    refine ARun.move (.inl rfl) rfl rfl rfl (Ev.plain rfl) optN ?_
    refine ARun.call rfl rfl rfl rfl cf62 (Ev.plain rfl) (.cons (Ev.plain rfl) (.cons (Ev.plain rfl) .nil)) rfl (fun hg => new_fn p e) optN ?_
    refine ARun.call rfl rfl rfl rfl cf61 (Ev.plain rfl) (.cons (Ev.plain rfl) (.cons (Ev.plain rfl) .nil)) rfl (fun hg => wrap_fn tRead (Er.new p e)) optN ?_
    first | refine ARun.nilPe rfl rfl rfl rfl (Ev.plain rfl) optN ?_ | refine ARun.nilFn rfl rfl rfl rfl (Ev.plain rfl) optN ?_ | refine ARun.nilBox rfl rfl rfl rfl (Ev.plain rfl) (atO hi) optN ?_
    refine ARun.fieldBox (fo := 2) rfl rfl rfl rfl Tryz.underlying139 rfl rfl sz53 (by decide) (Ev.plain rfl) (atO hi) optN ?_
    refine ARun.storeO1 hi hG rfl rfl rfl sz53 (Ev.plain rfl) (Ev.plain rfl) (by first | rfl | exact aEr_one _ | exact aFl_one _) (Nat.le_of_ble_eq_true rfl) rfl (by first | exact noH_aRd _ _ | (simp; done) | (simp [cAV]; done)) (fun hG => ?_) (hsp := (by first | rfl | simp [aRd, plain_aEr]))
    refine ⟨_, _, rfl, hG, ?_⟩
    refine thenA_n ?_
    refine AWP.seq ?_
    refine AWP.region (fun _ => ?_)
    refine ARun.move (.inr rfl) rfl rfl rfl (Ev.plain rfl) optN ?_
    refine ⟨_, _, rfl, hG, ?_⟩
    refine thenA_n ?_
    refine AWP.ret ?_
    refine thenA_r ?_
    refine endF.toG (congrArg (fun c => H.set i (AO.box c)) (by rw [moved_pos he]; exact congrArg (fun x => [AV.str r.s, .int .i64 r.at_, aEr x, .bool true]) (errOf_mk tRead p e))) ?_
    refine endF.one (.inr rfl) rfl (.tmp rfl) ?_ (by rw [List.length_set]; exact hN)
    simp [he]; rfl
  · skip
    have he : e = 0 := by simpa using h0
    refine AWP.skip ?_
    refine thenA_n ?_
    refine AWP.seq ?_
    refine AWP.region (fun _ => ?_)
    refine ARun.move (.inl rfl) rfl rfl rfl (Ev.plain rfl) optN ?_
    refine ARun.move (.inl rfl) rfl rfl rfl (Ev.plain rfl) optN ?_
    first | refine ARun.nilPe rfl rfl rfl rfl (Ev.plain rfl) optN ?_ | refine ARun.nilFn rfl rfl rfl rfl (Ev.plain rfl) optN ?_ | refine ARun.nilBox rfl rfl rfl rfl (Ev.plain rfl) (atO hi) optN ?_
    refine ARun.fieldBox (fo := 1) rfl rfl rfl rfl Tryz.underlying139 rfl rfl sz3 (by decide) (Ev.plain rfl) (atO hi) optN ?_
    refine ARun.storeO1 hi hG rfl rfl rfl sz3 (Ev.plain rfl) (Ev.plain rfl) (by first | rfl | exact aEr_one _ | exact aFl_one _) (Nat.le_of_ble_eq_true rfl) rfl (by first | exact noH_aRd _ _ | (simp; done) | (simp [cAV]; done)) (fun hG => ?_) (hsp := (by first | rfl | simp [aRd, plain_aEr]))
    refine ⟨_, _, rfl, hG, ?_⟩
    refine thenA_n ?_
    refine AWP.seq ?_
    refine AWP.region (fun _ => ?_)
    refine ARun.move (.inr rfl) rfl rfl rfl (Ev.plain rfl) optN ?_
    refine ⟨_, _, rfl, hG, ?_⟩
    refine thenA_n ?_
    refine AWP.ret ?_
    refine endF.toG (congrArg (fun c => H.set i (AO.box c)) (by rw [moved_neg he]; rfl)) ?_
    refine endF.one (.inr rfl) rfl (.tmp rfl) ?_ (by rw [List.length_set]; exact hN)
    simp [he]; rfl
set_option maxHeartbeats 1000000 in
theorem num_r (r : RdS) (most : Int) (h : r.ok) : FnM Tryz.prog 57 (fun i => [.box i 0, .int .i64 most]) (aRd r) (.int .i64 (rdNum r most).2) (aRd (rdNum r most).1) := by
  refine FnM.of Tryz.func57 rfl rfl (fun i => by simp) (fun H i m hHm hi hG => ?_)
  have hN : NoH H.length (.int .i64 (rdNum r most).2) := (by simp [AV.cells, aIn, aOut])
  refine AWP.seq ?_
  refine AWP.region (fun _ => ?_)
  refine ARun.move (.inr rfl) rfl rfl rfl (Ev.plain rfl) optN ?_
  refine ⟨_, _, rfl, hG, ?_⟩
  refine thenA_n ?_
  refine AWP.seq ?_
  refine AWP.seq ?_
  refine AWP.region (fun _ => ?_)
  refine ARun.move (.inl rfl) rfl rfl rfl (Ev.plain rfl) optN ?_
  refine ARun.callR rfl rfl rfl rfl cf93 (Ev.plain rfl) (.cons (Ev.plain rfl) .nil) rfl (fun hg => FnM.keep (goes_fn r) (atO hi)) optN ?_
  refine ARun.not rfl rfl rfl rfl (Ev.plain rfl) optN ?_
  refine ⟨_, _, rfl, hG, ?_⟩
  refine thenA_n ?_
  refine AWP.cond rfl (fun h0 => ?_) (fun h0 => ?_)
  · skip
    have he : r.e ≠ 0 := by simpa using h0
    refine AWP.seq ?_
    refine AWP.region (fun _ => ?_)
    refine ARun.move (.inr rfl) rfl rfl rfl (Ev.plain rfl) optN ?_
    refine ⟨_, _, rfl, hG, ?_⟩
    refine thenA_n ?_
    refine AWP.ret ?_
    refine thenA_r ?_
    refine endF.toG (congrArg (fun c => H.set i (AO.box c)) (by rw [rdNum, if_pos he])) ?_
    refine endF.one (.inr rfl) rfl (.tmp rfl) ?_ (by rw [List.length_set]; exact hN)
    rw [rdNum, if_pos he]; rfl
  · skip
    have he : r.e = 0 := by simpa using h0
    have hde : rdNum r most = (r.moved tNum (getN (bl r.s) r.at_).2.1 (numE r most), if numE r most ≠ 0 then 0 else (getN (bl r.s) r.at_).1) := by rw [rdNum, if_neg (by omega)]
    refine AWP.skip ?_
    refine thenA_n ?_
    refine AWP.seq ?_
    refine AWP.draw mixed (by kernel_rfl) (fun _ => ?_)
    refine ARun.move (.inl rfl) rfl rfl rfl (Ev.plain rfl) optN ?_
    first | refine ARun.nilPe rfl rfl rfl rfl (Ev.plain rfl) optN ?_ | refine ARun.nilFn rfl rfl rfl rfl (Ev.plain rfl) optN ?_ | refine ARun.nilBox rfl rfl rfl rfl (Ev.plain rfl) (atO hi) optN ?_
    refine ARun.fieldBox (fo := 0) rfl rfl rfl rfl Tryz.underlying139 rfl rfl sz9 (by decide) (Ev.plain rfl) (atO hi) optN ?_
    refine ARun.loadBox rfl rfl rfl rfl Tryz.underlying9 rfl (Ev.plain rfl) (atO hi) rfl optN ?_
    refine ARun.move (.inl rfl) rfl rfl rfl (Ev.plain rfl) optN ?_
    first | refine ARun.nilPe rfl rfl rfl rfl (Ev.plain rfl) optN ?_ | refine ARun.nilFn rfl rfl rfl rfl (Ev.plain rfl) optN ?_ | refine ARun.nilBox rfl rfl rfl rfl (Ev.plain rfl) (atO hi) optN ?_
    refine ARun.fieldBox (fo := 1) rfl rfl rfl rfl Tryz.underlying139 rfl rfl sz3 (by decide) (Ev.plain rfl) (atO hi) optN ?_
    refine ARun.loadBox rfl rfl rfl rfl Tryz.underlying3 rfl (Ev.plain rfl) (atO hi) rfl optN ?_
    refine ARun.call rfl rfl rfl rfl cf94 (Ev.plain rfl) (.cons (Ev.plain rfl) (.cons (Ev.plain rfl) .nil)) rfl (fun hg => get_fn r.s r.at_ h.2.2) optN ?_
    refine ARun.move (.inl rfl) rfl rfl rfl (Ev.plain rfl) optN ?_
    refine ARun.extract rfl rfl rfl rfl (Ev.plain rfl) rfl optN ?_
    refine ARun.extract rfl rfl rfl rfl (Ev.plain rfl) rfl optN ?_
    refine ARun.extract rfl rfl rfl rfl (Ev.plain rfl) rfl optN ?_
    refine ARun.move (.inr rfl) rfl rfl rfl (Ev.plain rfl) optN ?_
    refine ARun.move (.inr rfl) rfl rfl rfl (Ev.plain rfl) optN ?_
    refine ARun.move (.inr rfl) rfl rfl rfl (Ev.plain rfl) optN ?_
    refine ⟨by kernel_rfl, _, _, rfl, hG, ?_⟩
    refine thenA_n ?_
    refine AWP.seq ?_
    refine AWP.seq ?_
    refine AWP.region (fun _ => ?_)
    refine ARun.move (.inl rfl) rfl rfl rfl (Ev.plain rfl) optN ?_
    refine ARun.cmp rfl rfl rfl rfl (Ev.plain rfl) (Ev.plain rfl) rfl optN ?_
    refine ARun.move (.inl rfl) rfl rfl rfl (Ev.plain rfl) optN ?_
    refine ARun.move (.inl rfl) rfl rfl rfl (Ev.plain rfl) optS ?_
    refine ARun.move (.inl rfl) rfl rfl rfl (Ev.plain rfl) optS ?_
    refine ARun.cmp rfl rfl rfl rfl (Ev.opt rfl (fun h => h)) (Ev.opt rfl (fun h => h)) rfl optS ?_
    refine ARun.pick rfl rfl rfl rfl (Ev.plain rfl) (Ev.opt rfl (by first | exact pkT | exact pkT2 | simp +contextual)) (Ev.plain rfl) (andB _ _) optN ?_
    refine ⟨_, _, rfl, hG, ?_⟩
    refine thenA_n ?_
    refine AWP.cond rfl (fun h1 => ?_) (fun h1 => ?_)
    · skip
      simp at h1
      have hne : numE r most = 3 := by rw [numE, if_pos (by omega)]
      rw [hne] at hde
      refine AWP.region (fun _ => ?_)
      refine ARun.move (.inr rfl) rfl rfl rfl (Ev.plain rfl) optN ?_
      refine ⟨_, _, rfl, hG, ?_⟩
      refine thenA_n ?_
      refine AWP.seq ?_
      refine AWP.seq ?_
      refine AWP.region (fun _ => ?_)
      refine ARun.move (.inl rfl) rfl rfl rfl (Ev.plain rfl) optN ?_
      refine ARun.move (.inl rfl) rfl rfl rfl (Ev.plain rfl) optN ?_
      refine ARun.move (.inl rfl) rfl rfl rfl (Ev.plain rfl) optN ?_
      refine ARun.callO hi hG rfl rfl rfl rfl cf95 (Ev.plain rfl) (.cons (Ev.plain rfl) (.cons (Ev.plain rfl) (.cons (Ev.plain rfl) (.cons (Ev.plain rfl) .nil)))) rfl (done_fn r tNum (getN (bl r.s) r.at_).2.1 3 _ _ (atO hi)) (by first | exact noH_aRd _ _ | (simp; done) | (simp [cAV]; done)) optN (fun hG => ?_)
      refine ARun.not rfl rfl rfl rfl (Ev.plain rfl) optN ?_
      refine ⟨_, _, rfl, hG, ?_⟩
      refine thenA_n ?_
      refine AWP.cond rfl (fun h2 => ?_) (fun h2 => ?_)
      · skip
        refine AWP.seq ?_
        refine AWP.region (fun _ => ?_)
        refine ARun.move (.inr rfl) rfl rfl rfl (Ev.plain rfl) optN ?_
        refine ⟨_, _, rfl, hG, ?_⟩
        refine thenA_n ?_
        refine AWP.ret ?_
        refine thenA_r ?_
        refine endF.toG (congrArg (fun c => H.set i (AO.box c)) (by rw [hde])) ?_
        refine endF.one (.inr rfl) rfl (.tmp rfl) ?_ (by rw [List.length_set]; exact hN)
        rw [hde]; rfl
      · skip
        simp at h2
    · skip
      have h1' : ¬ ((getN (bl r.s) r.at_).2.2 = 0 ∧ (getN (bl r.s) r.at_).1 > most) := by simp at h1; omega
      have hne : numE r most = (getN (bl r.s) r.at_).2.2 := by rw [numE, if_neg h1']
      rw [hne] at hde
      refine AWP.skip ?_
      refine thenA_n ?_
      refine AWP.seq ?_
      refine AWP.seq ?_
      refine AWP.region (fun _ => ?_)
      refine ARun.move (.inl rfl) rfl rfl rfl (Ev.plain rfl) optN ?_
      refine ARun.move (.inl rfl) rfl rfl rfl (Ev.plain rfl) optN ?_
      refine ARun.move (.inl rfl) rfl rfl rfl (Ev.plain rfl) optN ?_
      refine ARun.callO hi hG rfl rfl rfl rfl cf95 (Ev.plain rfl) (.cons (Ev.plain rfl) (.cons (Ev.plain rfl) (.cons (Ev.plain rfl) (.cons (Ev.plain rfl) .nil)))) rfl (done_fn r tNum (getN (bl r.s) r.at_).2.1 (getN (bl r.s) r.at_).2.2 _ _ (atO hi)) (by first | exact noH_aRd _ _ | (simp; done) | (simp [cAV]; done)) optN (fun hG => ?_)
      refine ARun.not rfl rfl rfl rfl (Ev.plain rfl) optN ?_
      refine ⟨_, _, rfl, hG, ?_⟩
      refine thenA_n ?_
      refine AWP.cond rfl (fun h3 => ?_) (fun h3 => ?_)
      · skip
        simp at h3
        refine AWP.seq ?_
        refine AWP.region (fun _ => ?_)
        refine ARun.move (.inr rfl) rfl rfl rfl (Ev.plain rfl) optN ?_
        refine ⟨_, _, rfl, hG, ?_⟩
        refine thenA_n ?_
        refine AWP.ret ?_
        refine thenA_r ?_
        refine endF.toG (congrArg (fun c => H.set i (AO.box c)) (by rw [hde])) ?_
        refine endF.one (.inr rfl) rfl (.tmp rfl) ?_ (by rw [List.length_set]; exact hN)
        rw [hde, if_pos h3]; rfl
      · skip
        simp at h3
        refine AWP.skip ?_
        refine thenA_n ?_
        refine AWP.seq ?_
        refine AWP.region (fun _ => ?_)
        refine ARun.move (.inl rfl) rfl rfl rfl (Ev.plain rfl) optN ?_
        refine ARun.move (.inr rfl) rfl rfl rfl (Ev.plain rfl) optN ?_
        refine ⟨_, _, rfl, hG, ?_⟩
        refine thenA_n ?_
        refine AWP.ret ?_
        refine endF.toG (congrArg (fun c => H.set i (AO.box c)) (by rw [hde])) ?_
        refine endF.one (.inr rfl) rfl (.tmp rfl) ?_ (by rw [List.length_set]; exact hN)
        rw [hde, if_neg (by omega)]
set_option maxHeartbeats 1000000 in
theorem row_r (r : RdS) (most : Int) (h : r.ok) : FnM Tryz.prog 58 (fun i => [.box i 0, .int .i64 most]) (aRd r) (.sl ((rdRow r most).2.map (AV.int .i64))) (aRd (rdRow r most).1) := by
  refine FnM.of Tryz.func58 rfl rfl (fun i => by simp) (fun H i m hHm hi hG => ?_)
  have hN : NoH H.length (.sl ((rdRow r most).2.map (AV.int .i64))) := (by simp [AV.cells])
  refine AWP.seq ?_
  refine AWP.region (fun _ => ?_)
  refine ARun.move (.inr rfl) rfl rfl rfl (Ev.plain rfl) optN ?_
  refine ⟨_, _, rfl, hG, ?_⟩
  refine thenA_n ?_
  refine AWP.seq ?_
  refine AWP.seq ?_
  refine AWP.region (fun _ => ?_)
  refine ARun.move (.inl rfl) rfl rfl rfl (Ev.plain rfl) optN ?_
  refine ARun.callR rfl rfl rfl rfl cf93 (Ev.plain rfl) (.cons (Ev.plain rfl) .nil) rfl (fun hg => FnM.keep (goes_fn r) (atO hi)) optN ?_
  refine ARun.not rfl rfl rfl rfl (Ev.plain rfl) optN ?_
  refine ⟨_, _, rfl, hG, ?_⟩
  refine thenA_n ?_
  refine AWP.cond rfl (fun h0 => ?_) (fun h0 => ?_)
  · skip
    have he : r.e ≠ 0 := by simpa using h0
    refine AWP.seq ?_
    refine AWP.region (fun _ => ?_)
    refine ARun.move (.inr rfl) rfl rfl rfl (Ev.plain rfl) optN ?_
    refine ⟨_, _, rfl, hG, ?_⟩
    refine thenA_n ?_
    refine AWP.ret ?_
    refine thenA_r ?_
    refine endF.toG (congrArg (fun c => H.set i (AO.box c)) (by rw [rdRow, if_pos he])) ?_
    refine endF.one (.inr rfl) rfl (.tmp rfl) ?_ (by rw [List.length_set]; exact hN)
    rw [rdRow, if_pos he]; rfl
  · skip
    have he : r.e = 0 := by simpa using h0
    have hde : rdRow r most = (r.moved tRow (unrowN (bl r.s) r.at_ most).2.1 (unrowN (bl r.s) r.at_ most).2.2, (unrowN (bl r.s) r.at_ most).1) := by rw [rdRow, if_neg (by omega)]
    refine AWP.skip ?_
    refine thenA_n ?_
    refine AWP.seq ?_
    refine AWP.draw mixed (by kernel_rfl) (fun _ => ?_)
    refine ARun.move (.inl rfl) rfl rfl rfl (Ev.plain rfl) optN ?_
    first | refine ARun.nilPe rfl rfl rfl rfl (Ev.plain rfl) optN ?_ | refine ARun.nilFn rfl rfl rfl rfl (Ev.plain rfl) optN ?_ | refine ARun.nilBox rfl rfl rfl rfl (Ev.plain rfl) (atO hi) optN ?_
    refine ARun.fieldBox (fo := 0) rfl rfl rfl rfl Tryz.underlying139 rfl rfl sz9 (by decide) (Ev.plain rfl) (atO hi) optN ?_
    refine ARun.loadBox rfl rfl rfl rfl Tryz.underlying9 rfl (Ev.plain rfl) (atO hi) rfl optN ?_
    refine ARun.move (.inl rfl) rfl rfl rfl (Ev.plain rfl) optN ?_
    first | refine ARun.nilPe rfl rfl rfl rfl (Ev.plain rfl) optN ?_ | refine ARun.nilFn rfl rfl rfl rfl (Ev.plain rfl) optN ?_ | refine ARun.nilBox rfl rfl rfl rfl (Ev.plain rfl) (atO hi) optN ?_
    refine ARun.fieldBox (fo := 1) rfl rfl rfl rfl Tryz.underlying139 rfl rfl sz3 (by decide) (Ev.plain rfl) (atO hi) optN ?_
    refine ARun.loadBox rfl rfl rfl rfl Tryz.underlying3 rfl (Ev.plain rfl) (atO hi) rfl optN ?_
    refine ARun.move (.inl rfl) rfl rfl rfl (Ev.plain rfl) optN ?_
    refine ARun.call rfl rfl rfl rfl cf96 (Ev.plain rfl) (.cons (Ev.plain rfl) (.cons (Ev.plain rfl) (.cons (Ev.plain rfl) .nil))) rfl (fun hg => unrowN_fn r.s r.at_ most h.2.2) optN ?_
    refine ARun.move (.inl rfl) rfl rfl rfl (Ev.plain rfl) optN ?_
    refine ARun.extract rfl rfl rfl rfl (Ev.plain rfl) rfl optN ?_
    refine ARun.extract rfl rfl rfl rfl (Ev.plain rfl) rfl optN ?_
    refine ARun.extract rfl rfl rfl rfl (Ev.plain rfl) rfl optN ?_
    refine ARun.move (.inr rfl) rfl rfl rfl (Ev.plain rfl) optN ?_
    refine ARun.move (.inr rfl) rfl rfl rfl (Ev.plain rfl) optN ?_
    refine ARun.move (.inr rfl) rfl rfl rfl (Ev.plain rfl) optN ?_
    refine ⟨by kernel_rfl, _, _, rfl, hG, ?_⟩
    refine thenA_n ?_
    refine AWP.seq ?_
    refine AWP.seq ?_
    refine AWP.region (fun _ => ?_)
    refine ARun.move (.inl rfl) rfl rfl rfl (Ev.plain rfl) optN ?_
    refine ARun.move (.inl rfl) rfl rfl rfl (Ev.plain rfl) optN ?_
    refine ARun.move (.inl rfl) rfl rfl rfl (Ev.plain rfl) optN ?_
    refine ARun.callO hi hG rfl rfl rfl rfl cf95 (Ev.plain rfl) (.cons (Ev.plain rfl) (.cons (Ev.plain rfl) (.cons (Ev.plain rfl) (.cons (Ev.plain rfl) .nil)))) rfl (done_fn r tRow (unrowN (bl r.s) r.at_ most).2.1 (unrowN (bl r.s) r.at_ most).2.2 _ _ (atO hi)) (by first | exact noH_aRd _ _ | (simp; done) | (simp [cAV]; done)) optN (fun hG => ?_)
    refine ARun.not rfl rfl rfl rfl (Ev.plain rfl) optN ?_
    refine ⟨_, _, rfl, hG, ?_⟩
    refine thenA_n ?_
    refine AWP.cond rfl (fun h1 => ?_) (fun h1 => ?_)
    · skip
      simp at h1
      refine AWP.seq ?_
      refine AWP.region (fun _ => ?_)
      refine ARun.move (.inr rfl) rfl rfl rfl (Ev.plain rfl) optN ?_
      refine ⟨_, _, rfl, hG, ?_⟩
      refine thenA_n ?_
      refine AWP.ret ?_
      refine thenA_r ?_
      refine endF.toG (congrArg (fun c => H.set i (AO.box c)) (by rw [hde])) ?_
      refine endF.one (.inr rfl) rfl (.tmp rfl) ?_ (by rw [List.length_set]; exact hN)
      rw [hde, unrow_bad h1]; rfl
    · skip
      simp at h1
      refine AWP.skip ?_
      refine thenA_n ?_
      refine AWP.seq ?_
      refine AWP.region (fun _ => ?_)
      refine ARun.move (.inl rfl) rfl rfl rfl (Ev.plain rfl) optN ?_
      refine ARun.move (.inr rfl) rfl rfl rfl (Ev.plain rfl) optN ?_
      refine ⟨_, _, rfl, hG, ?_⟩
      refine thenA_n ?_
      refine AWP.ret ?_
      refine endF.toG (congrArg (fun c => H.set i (AO.box c)) (by rw [hde])) ?_
      refine endF.one (.inr rfl) rfl (.tmp rfl) ?_ (by rw [List.length_set]; exact hN)
      rw [hde]
set_option maxHeartbeats 1000000 in
theorem end_r (r : RdS) (h : r.ok) : FnM Tryz.prog 59 (fun i => [.box i 0]) (aRd r) (.tup []) (aRd (rdEnd r)) := by
  refine FnM.of Tryz.func59 rfl rfl (fun i => by simp) (fun H i m hHm hi hG => ?_)
  have hN : NoH H.length (.tup []) := (by simp [AV.cells, aIn, aOut])
  refine AWP.seq ?_
  refine AWP.draw mixed (by kernel_rfl) (fun _ => ?_)
  refine ARun.move (.inl rfl) rfl rfl rfl (Ev.plain rfl) optN ?_
  refine ARun.callR rfl rfl rfl rfl cf93 (Ev.plain rfl) (.cons (Ev.plain rfl) .nil) rfl (fun hg => FnM.keep (goes_fn r) (atO hi)) optN ?_
  refine ARun.move (.inl rfl) rfl rfl rfl (Ev.plain rfl) optN ?_
  refine ARun.move (.inl rfl) rfl rfl rfl (Ev.plain rfl) optS ?_
  first | refine ARun.nilPe rfl rfl rfl rfl (Ev.opt rfl (fun h => h)) optS ?_ | refine ARun.nilFn rfl rfl rfl rfl (Ev.opt rfl (fun h => h)) optS ?_ | refine ARun.nilBox rfl rfl rfl rfl (Ev.opt rfl (fun h => h)) (atO hi) optS ?_
  refine ARun.fieldBox (fo := 1) rfl rfl rfl rfl Tryz.underlying139 rfl rfl sz3 (by decide) (Ev.opt rfl (fun h => h)) (atO hi) optS ?_
  refine ARun.loadBox rfl rfl rfl rfl Tryz.underlying3 rfl (Ev.opt rfl (fun h => h)) (atO hi) rfl optS ?_
  refine ARun.move (.inl rfl) rfl rfl rfl (Ev.plain rfl) optS ?_
  first | refine ARun.nilPe rfl rfl rfl rfl (Ev.opt rfl (fun h => h)) optS ?_ | refine ARun.nilFn rfl rfl rfl rfl (Ev.opt rfl (fun h => h)) optS ?_ | refine ARun.nilBox rfl rfl rfl rfl (Ev.opt rfl (fun h => h)) (atO hi) optS ?_
  refine ARun.fieldBox (fo := 0) rfl rfl rfl rfl Tryz.underlying139 rfl rfl sz9 (by decide) (Ev.opt rfl (fun h => h)) (atO hi) optS ?_
  refine ARun.loadBox rfl rfl rfl rfl Tryz.underlying9 rfl (Ev.opt rfl (fun h => h)) (atO hi) rfl optS ?_
  refine ARun.lenStr rfl rfl rfl rfl Tryz.underlying9 (Ev.opt rfl (fun h => h)) optS ?_
  refine ARun.cmp rfl rfl rfl rfl (Ev.opt rfl (fun h => h)) (Ev.opt rfl (fun h => h)) rfl optS ?_
  refine ARun.pick rfl rfl rfl rfl (Ev.plain rfl) (Ev.opt rfl (by first | exact pkT | exact pkT2 | simp +contextual)) (Ev.plain rfl) (andB _ _) optN ?_
  refine ⟨by kernel_rfl, _, _, rfl, hG, ?_⟩
  refine thenA_n ?_
  refine AWP.cond rfl (fun h0 => ?_) (fun h0 => ?_)
  · skip
    simp at h0
    refine AWP.region (fun _ => ?_)
    refine ARun.move (.inl rfl) rfl rfl rfl (Ev.plain rfl) optN ?_
    refine ARun.callO hi hG rfl rfl rfl rfl cf95 (Ev.plain rfl) (.cons (Ev.plain rfl) (.cons (Ev.plain rfl) (.cons (Ev.plain rfl) (.cons (Ev.plain rfl) .nil)))) rfl (done_fn r tEnd 0 6 _ _ (atO hi)) (by first | exact noH_aRd _ _ | (simp; done) | (simp [cAV]; done)) optN (fun hG => ?_)
    refine ⟨_, _, rfl, hG, ?_⟩
    refine endF.toG (congrArg (fun c => H.set i (AO.box c)) (by rw [rdEnd, if_pos h0])) ?_
    refine endF.many (.inl rfl) (rs := []) rfl .nil (by simp) ?_ (by rw [List.length_set]; exact hN)
    rfl
  · skip
    simp at h0
    refine AWP.skip ?_
    refine endF.toG (congrArg (fun c => H.set i (AO.box c)) (by rw [rdEnd, if_neg (by omega)])) ?_
    refine endF.many (.inl rfl) (rs := []) rfl .nil (by simp) ?_ (by rw [List.length_set]; exact hN)
    rfl
set_option maxHeartbeats 1000000 in
theorem rdone_fn (r : RdS) : FnM Tryz.prog 60 (fun i => [.box i 0]) (aRd r) (aEr (errOf tRead r.p r.e)) (aRd r) := by
  refine FnM.of Tryz.func60 rfl rfl (fun i => by simp) (fun H i m hHm hi hG => ?_)
  have hN : NoH H.length (aEr (errOf tRead r.p r.e)) := (by simp [AV.cells, aIn, aOut])
  refine AWP.seq ?_
  refine AWP.region (fun _ => ?_)
  refine ARun.move (.inr rfl) rfl rfl rfl (Ev.plain rfl) optN ?_
  refine ⟨_, _, rfl, hG, ?_⟩
  refine thenA_n ?_
  refine AWP.seq ?_
  refine AWP.seq ?_
  refine AWP.region (fun _ => ?_)
  refine ARun.move (.inl rfl) rfl rfl rfl (Ev.plain rfl) optN ?_
  refine ARun.isNilBox rfl rfl rfl rfl Tryz.underlying100 (Ev.plain rfl) (atO hi) (.inl ⟨rfl, rfl⟩) optN ?_
  refine ARun.move (.inl rfl) rfl rfl rfl (Ev.plain rfl) optN ?_
  refine ARun.move (.inl rfl) rfl rfl rfl (Ev.plain rfl) optS ?_
  first | refine ARun.nilPe rfl rfl rfl rfl (Ev.opt rfl (fun h => h)) optS ?_ | refine ARun.nilFn rfl rfl rfl rfl (Ev.opt rfl (fun h => h)) optS ?_ | refine ARun.nilBox rfl rfl rfl rfl (Ev.opt rfl (fun h => h)) (atO hi) optS ?_
  refine ARun.fieldBox (fo := 3) rfl rfl rfl rfl Tryz.underlying139 rfl rfl sz4 (by decide) (Ev.opt rfl (fun h => h)) (atO hi) optS ?_
  refine ARun.loadBox rfl rfl rfl rfl Tryz.underlying4 rfl (Ev.opt rfl (fun h => h)) (atO hi) rfl optS ?_
  refine ARun.not rfl rfl rfl rfl (Ev.opt rfl (fun h => h)) optS ?_
  refine ARun.pick rfl rfl rfl rfl (Ev.plain rfl) (Ev.plain rfl) (Ev.opt rfl (by first | exact pkF | exact pkF2 | simp +contextual)) (orB _ _) optN ?_
  refine ⟨_, _, rfl, hG, ?_⟩
  refine thenA_n ?_
  refine AWP.cond rfl (fun h0 => ?_) (fun h0 => ?_)
  · skip
    simp at h0
  · skip
    refine AWP.skip ?_
    refine thenA_n ?_
    refine AWP.seq ?_
    refine AWP.region (fun _ => ?_)
    refine ARun.move (.inl rfl) rfl rfl rfl (Ev.plain rfl) optN ?_
    first | refine ARun.nilPe rfl rfl rfl rfl (Ev.plain rfl) optN ?_ | refine ARun.nilFn rfl rfl rfl rfl (Ev.plain rfl) optN ?_ | refine ARun.nilBox rfl rfl rfl rfl (Ev.plain rfl) (atO hi) optN ?_
    refine ARun.fieldBox (fo := 2) rfl rfl rfl rfl Tryz.underlying139 rfl rfl sz53 (by decide) (Ev.plain rfl) (atO hi) optN ?_
    refine ARun.loadBox rfl rfl rfl rfl Tryz.underlying53 rfl (Ev.plain rfl) (atO hi) rfl optN ?_
    refine ARun.move (.inr rfl) rfl rfl rfl (Ev.plain rfl) optN ?_
    refine ⟨_, _, rfl, hG, ?_⟩
    refine thenA_n ?_
    refine AWP.ret ?_
    refine endF.toG (congrArg (fun c => H.set i (AO.box c)) rfl) ?_
    refine endF.one (.inr rfl) rfl (.tmp rfl) ?_ (by rw [List.length_set]; exact hN)
    rfl
theorem fit_one {n : Int} (h : -9223372036854775808 ≤ n ∧ n ≤ 9223372036854775807) : ∀ x, x ∈ [n] → -9223372036854775808 ≤ x ∧ x ≤ 9223372036854775807 := by
  intro x hx; simp at hx; subst hx; exact h
end Go.Proofs.YtgebpndhnkkbgaaGreatDoor
namespace Go.Proofs.YtgebpndhnkkbgaaGreatDoor
set_option linter.unusedVariables false
set_option linter.unusedSimpArgs false
open Go.RowKit Go.WideShapes
inductive AllRep (β : List Hd) (w : World) : List Value → List AV → Prop where
  | nil : AllRep β w [] []
  | cons {v : Value} {x : AV} {vs : List Value} {xs : List AV} (h : VRep β w v x) (t : AllRep β w vs xs) : AllRep β w (v :: vs) (x :: xs)
theorem AllRep.reps {β : List Hd} {w : World} : ∀ {vs : List Value} {xs : List AV}, AllRep β w vs xs → VReps β w vs.toArray xs := by
  intro vs
  induction vs with
  | nil => intro xs h; cases h; exact ⟨rfl, fun j u x h => by simp at h⟩
  | cons v vs ih =>
    intro xs h
    cases h with
    | cons h t =>
      obtain ⟨h1, h2⟩ := ih t
      refine ⟨by simpa using h1, fun j u x k1 k2 => ?_⟩
      cases j with
      | zero => simp at k1 k2; subst k1 k2; exact h
      | succ j => exact h2 j u x (by simpa using k1) (by simpa using k2)
theorem law_of_fn {P : Program} {F : FuncId} {args : List AV} (h : FnP P F args (.bool true)) {w : World} (hg : GOk [] w) {vs : List Value} (hv : AllRep [] w vs args) : Calls P F vs.toArray w fun e w' => e = .returned (.bool true) ∧ Below w.heap.size w w' := by
  refine (pure_call h (HRel.nil w hg) hv.reps).mono ?_
  rintro e w' ⟨v, rfl, hb, hr⟩
  obtain rfl := hr.bool_inv
  exact ⟨rfl, hb⟩
end Go.Proofs.YtgebpndhnkkbgaaGreatDoor
namespace Go.Proofs.YtgebpndhnkkbgaaGreatDoor
set_option linter.unusedVariables false
set_option linter.unusedSimpArgs false
open Go.RowKit
/-- a row of a call's own, which nobody writes any more -/
theorem VRep.owned {α : Type} {enc : α → List Value} {av : α → AV} {z : Nat} (hz : ∀ x, (enc x).length = z) (hc : ∀ x, (av x).cells = (enc x).map cAV) {β : List Hd} {w : World} {B : Nat} {e : TypeId} {v : Value} {xs : List α} (h : w.ownsRow B e z v xs.length (xs.flatMap enc)) (hβ : ∀ y, y ∈ β → ∀ b, b ∈ y.blks → b < B) : VRep β w v (.sl (xs.map av)) := by
  obtain ⟨a, cap, rfl, h1, h2, hr⟩ := Reads.of_owns hz rfl h
  cases a with
  | none =>
    rcases h.2 with ⟨e1, e2⟩ | ⟨g, cap', cur, e1, _⟩
    · have : xs = [] := List.length_eq_zero_iff.1 e2
      subst this
      cases e1; exact .slnil
    · cases e1
  | some x =>
    obtain ⟨b, off, sp⟩ := x
    rcases h.2 with ⟨e1, _⟩ | ⟨g, cap', cur, e1, hB, hg, _⟩
    · cases e1
    · cases e1
      have hget : ∀ (i j : Nat) (x y : AV), (xs.map av)[i]? = some x → x.cells[j]? = some y → ∃ u, w.cell? ⟨b, 0 + i * z + j, none⟩ = some u ∧ y = cAV u := by
        intro i j x y h3 h4
        rw [List.getElem?_map, Option.map_eq_some_iff] at h3
        obtain ⟨x', h3, rfl⟩ := h3
        obtain ⟨hi, rfl⟩ := List.getElem?_eq_some_iff.1 h3
        rw [hc, List.getElem?_map, Option.map_eq_some_iff] at h4
        obtain ⟨u, h4, rfl⟩ := h4
        obtain ⟨hj, h5⟩ := List.getElem?_eq_some_iff.1 h4
        obtain ⟨b', off', e1, e2, e3⟩ := hr i hi
        cases e1
        exact ⟨u, by rw [e3 j (by rw [← hz]; exact hj)]; exact h4, rfl⟩
      have h := VRep.sl (β := β) (w := w) b 0 cap z (xs.map av) (by simpa using h1) h2 (Array.getElem?_eq_some_iff.1 hg).1 (fun y hy hm => by have := hβ y hy _ hm; omega) (fun x hx => by
          obtain ⟨y, _, rfl⟩ := List.mem_map.1 hx
          rw [hc, List.length_map, hz])
        (fun i j x y h3 h4 => by obtain ⟨u, h5, _⟩ := hget i j x y h3 h4; exact ⟨u, h5⟩)
        (fun i j x y u h3 h4 h5 => by
          obtain ⟨u', h6, rfl⟩ := hget i j x y h3 h4
          rw [h5] at h6; cases h6; exact cAV_rep _ _ _)
      rw [List.length_map] at h
      exact h
theorem cAV_noH (m : Nat) (v : Value) : NoH m (cAV v) := by
  unfold cAV; split <;> first | exact .int _ _ | exact .bool _ | exact .str _ | exact .raw _ | exact .sl _ (fun x hx => by cases hx)
theorem FnP.of_owns {α : Type} (enc : α → List Value) (av : α → AV) (z : Nat) (hz : ∀ x, (enc x).length = z) (hc : ∀ x, (av x).cells = (enc x).map cAV) (hp : ∀ x u, u ∈ enc x → plainV u = true) {P : Program} {F : FuncId} {e : TypeId} (xs : List α)
    (h : ∀ (w : World) (a : Option Addr) (cap : Nat), Reads enc z w a xs → xs.length ≤ cap → cap ≤ maxLen → (a = none → cap = 0) → Calls P F #[.slice a xs.length cap] w fun e' w' => ∃ v, e' = .returned v ∧ w'.ownsRow w.heap.size e z v xs.length (xs.flatMap enc) ∧ Below w.heap.size w w') :
    FnP P F [.sl (xs.map av)] (.sl (xs.map av)) := by
  refine ⟨.sl _ fun x hx y hy => ?_, fun k w β vs hH hv => ?_⟩
  · obtain ⟨x', _, rfl⟩ := List.mem_map.1 hx
    rw [hc] at hy
    obtain ⟨u, _, rfl⟩ := List.mem_map.1 hy
    exact cAV_noH _ _
  · obtain ⟨v0, rfl, h0⟩ := VReps.single hv
    obtain ⟨a, cap, rfl, h1, h2, h3, h4⟩ := sl_reads hz hc hp h0
    refine (h w a cap h4 h1 h2 h3).mono ?_
    rintro e' w' ⟨v, rfl, ho, hb⟩
    exact ⟨v, β, rfl, Ext.of_below β hb, hH.below hb, VRep.owned hz hc ho (fun y hy b hm => by
      obtain ⟨j, hj, rfl⟩ := List.mem_iff_getElem.1 hy
      exact hH.lt (List.getElem?_eq_getElem hj) hm)⟩
end Go.Proofs.YtgebpndhnkkbgaaGreatDoor
namespace Go.Proofs.YtgebpndhnkkbgaaGreatDoor
set_option linter.unusedVariables false
set_option linter.unusedSimpArgs false
open Go.ChangeShapes Go.WideShapes Go.ChangeAt Go.RowKit
set_option linter.unusedVariables false
set_option linter.unusedSimpArgs false
set_option maxRecDepth 100000
theorem infoIC : (Tryz.prog.info? 3).map (fun i => (i.zero, i.size, i.bytes)) = some (some (.int .i64 0), 1, 8) := by kernel_rfl
set_option maxHeartbeats 1000000 in
theorem cloneI_any (a : Option Addr) (cap : Nat) (xs : List Int) (w : World) (hr : Reads encI 1 w a xs) (hl : xs.length ≤ 1000000) :
    Calls Tryz.prog 65 #[.slice a xs.length cap] w fun e w' => ∃ v, e = .returned v ∧ w'.ownsRow w.heap.size 3 1 v xs.length (xs.flatMap encI) ∧ Below w.heap.size w w' := by
  cases a with
  | none =>
    have hx : xs = [] := by
      cases xs with
      | nil => rfl
      | cons x xs => obtain ⟨b, off, h, _⟩ := hr 0 (by simp); cases h
    subst hx
    have hnil := Lib.run_eql_slice_nil (P := Tryz.prog) w 29 3 none 0 cap 0 0 Tryz.underlying29
    have HP := Lib.hid (World.ownsRow_nil w w.heap.size 3 1)
    go_enter Tryz.func65, Tryz.ntmps65
    go_wp2_with fail
    go_ret
    exact ⟨_, rfl, HP.out, Below.refl _ _⟩
  | some ad =>
    obtain ⟨i0, hi, hz0, hz1, hz2⟩ := info_parts infoIC
    have hnil := Lib.run_eql_slice_nil (P := Tryz.prog) w 29 3 (some ad) xs.length cap 0 0 Tryz.underlying29
    have HR := Lib.hid hr
    clear hr
    go_enter Tryz.func65, Tryz.ntmps65
    have hfl := HR.out.flat (by omega) encI_len
    have HFL := Lib.hid hfl
    clear hfl
    go_wp2_with (at_builtin; refine wpList_append_own _ rfl _ _ 29 rfl w.heap.size 3 i0 (.int .i64 0) 1 8 Tryz.underlying29 hi hz0 hz1 hz2 rfl (by decide) _ _ _ rfl (World.ownsRow_made w #[] 0 (Nat.le_refl _) (by unfold maxLen; omega) rfl) ad xs.length cap (xs.flatMap encI) rfl ?c0 ?c1 ?c2 ?c3 ?c4 ?c5 ?_)
    case c0 => rw [flat_len encI 1 encI_len]
    case c1 =>
      intro j u hu
      obtain ⟨h1, h2⟩ := HFL.out j u hu
      have h3 : (ad.add j).block = ad.block := by unfold Addr.add; split <;> rfl
      rw [World.cell?_alloc_lt _ _ _ (by rw [h3]; exact h1)]
      exact h2
    case c2 =>
      intro u hu
      obtain ⟨x, _, hx⟩ := List.mem_flatMap.1 hu
      simp [encI] at hx
      subst hx; rfl
    case c3 => unfold maxLen; omega
    case c4 => omega
    case c5 => simp
    intro v' w2 hown' hgrow _
    have hbel : Below w.heap.size w w2 := ((Below.refl _ _).alloc (Nat.le_refl _) _).grown hgrow (by simp) (fun k hk => by simp [Value.ownBlock] at hk; omega)
    have HO := Lib.hid hown'
    clear hown' hgrow
    go_wp2_with fail
    go_ret
    exact ⟨_, rfl, HO.out, hbel⟩
/-- as a value -/
theorem cloneI_fn (xs : List Int) (hl : xs.length ≤ 1000000) : FnP Tryz.prog 65 [.sl (xs.map (AV.int .i64))] (.sl (xs.map (AV.int .i64))) :=
  FnP.of_owns encI (AV.int .i64) 1 encI_len (fun _ => rfl) (fun x u hu => by simp [encI] at hu; subst hu; rfl) xs (fun w a cap hr h1 h2 h3 => cloneI_any a cap xs w hr hl)
end Go.Proofs.YtgebpndhnkkbgaaGreatDoor
