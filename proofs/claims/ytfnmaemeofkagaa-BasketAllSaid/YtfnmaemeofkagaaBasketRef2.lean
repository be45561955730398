/- The basket: the reference's Total, Lacks, Goes, Fits; Hold, Free. -/
import Derived.Test.YtfnmaemeofkagaaBasketRef
namespace Go.Proofs.Ytfnmaemeofkagaa
open Go.ChangeShapes Go.WideShapes Go.ChangeAt Go.RowKit
open StockP
set_option maxRecDepth 100000
set_option maxHeartbeats 4000000 in
theorem totalR_any (a : Option Addr) (cap : Nat) (xs : List Ln) (w : World) (hr : Reads encL 2 w a xs) (hl : xs.length ≤ maxLen) :
    Calls Try.prog 19 #[.slice a xs.length cap] w fun e w' => e = .returned (.int .i64 (totalP xs)) ∧ Below w.heap.size w w' := by
  have C := Lib.hid (fun W h => checkLR_any a cap xs W h hl)
  have HR := Lib.hid hr
  unfold maxLen at hl
  clear hr
  by_cases ho : okL xs = true
  · have he : okLE xs = 0 := by unfold okLE; rw [if_pos ho]
    have ht : totalP xs = sumF xs := by unfold totalP; rw [if_pos ho]
    rw [ht]
    have h5 : xs.length ≤ 5 := by unfold okL at ho; simp at ho; omega
    have HM : Hid (∀ x, x ∈ xs → 1 ≤ x.qty ∧ x.qty ≤ 1000000) := by
      unfold okL at ho; simp at ho
      intro x hx; have := okLFrom_mem ho.2 x hx; omega
    rw [he] at C
    clear he ht ho hl
    go_enter Try.func19, Try.ntmps19
    go_wp2_with fail
    go_loopw [3, 4] (fun v3 v4 wr => ∃ (k : Nat), k ≤ xs.length ∧ v4 = .int .i64 k ∧ v3 = .int .i64 (sumF (xs.take k)) ∧ 0 ≤ sumF (xs.take k) ∧ sumF (xs.take k) ≤ 1000000 * (k : Int) ∧ Below w.heap.size w wr) (fun _ v4 _ => xs.length - (intOf v4).toNat)
    case atStart => exact ⟨0, by omega, rfl, rfl, by simp [sumF], by simp [sumF], Below.refl _ _⟩
    case round =>
      obtain ⟨k, hk, rfl, rfl, hs0, hs1, hbel⟩ := hrel
      by_cases hlt : k < xs.length
      · obtain ⟨b, off, rfl, hbl, c0, c1⟩ := (HR.out.below hbel).line k hlt
        have htk : xs.take (k + 1) = xs.take k ++ [xs[k]] := by simp
        have HS := Lib.hid ((congrArg sumF htk).trans (sumF_snoc (xs.take k) xs[k]))
        have hm := HM.out _ (List.getElem_mem hlt)
        clear htk
        generalize hx : xs[k] = x at c0 c1 HS hm
        clear hx
        generalize sumF (xs.take k) = p at HS hs0 hs1 ⊢
        obtain ⟨i, q⟩ := x
        simp only at c0 c1 HS hm
        obtain ⟨m1, m2⟩ := hm
        go_wp2_with fail
        refine (C.out _ (HR.out.below hbel)).mono ?_
        rintro e w2 ⟨rfl, hb2⟩
        have e1 := (hb2.cell (p := ⟨b, off + k * 2 + 1, none⟩) hbl).trans c1
        replace hbel := bt hbel hb2; clear hb2 c0 c1
        go_wp2_with fail
        exact ⟨⟨k + 1, by omega, by go_num, by rw [HS.out], by rw [HS.out]; omega, by rw [HS.out]; push_cast; omega, hbel⟩, by simp [intOf]; omega⟩
      · obtain rfl : k = xs.length := by omega
        go_wp2_with fail
        go_ret
        exact ⟨ret_int (by rw [List.take_length]), hbel⟩
  · have he : okLE xs = 2 := by unfold okLE; rw [if_neg ho]
    have ht : totalP xs = 0 := by unfold totalP; rw [if_neg ho]
    rw [ht]
    rw [he] at C
    clear he ht ho
    go_enter Try.func19, Try.ntmps19
    go_wp2_with fail
    go_loopw [3, 4] (fun v3 v4 wr => v4 = .int .i64 0 ∧ v3 = .int .i64 0 ∧ Below w.heap.size w wr) (fun _ _ _ => 0)
    case atStart => exact ⟨rfl, rfl, Below.refl _ _⟩
    case round =>
      obtain ⟨rfl, rfl, hbel⟩ := hrel
      by_cases hlt : 0 < xs.length
      · go_wp2_with fail
        refine (C.out _ (HR.out.below hbel)).mono ?_
        rintro e w2 ⟨rfl, hb2⟩
        replace hbel := bt hbel hb2; clear hb2
        go_wp2_with fail
        go_ret
        exact ⟨rfl, hbel⟩
      · have hd0 : decide (0 < xs.length) = false := by simpa using hlt
        go_wp2_with fail
        go_ret
        exact ⟨rfl, hbel⟩
set_option maxHeartbeats 4000000 in
theorem lacksR_any (a : Option Addr) (cap : Nat) (xs : List It) (b : Option Addr) (capb : Nat) (ls : List Ln) (w : World) (hr : Reads encT 4 w a xs) (hl : xs.length ≤ maxLen) (hf : ∀ x, x ∈ xs → fitT x)
    (hr2 : Reads encL 2 w b ls) (hl2 : ls.length ≤ maxLen) :
    Calls Try.prog 17 #[.slice a xs.length cap, .slice b ls.length capb] w fun e w' => ∃ v, e = .returned v ∧ IsSl encL 2 w' v (lacksP xs ls) ∧ Below w.heap.size w w' := by
  have C := Lib.hid (fun W h => checkR_any a cap xs W h hl hf)
  have D := Lib.hid (fun W h => checkLR_any b capb ls W h hl2)
  have HR := Lib.hid hr
  have HR2 := Lib.hid hr2
  clear hr hr2
  by_cases ho : ok xs = true ∧ okL ls = true
  · have hlp : lacksP xs ls = lacksF xs ls := by unfold lacksP; rw [if_pos ho]
    rw [hlp]
    have he : okE xs = 0 := by unfold okE; rw [if_pos ho.1]
    have he2 : okLE ls = 0 := by unfold okLE; rw [if_pos ho.2]
    rw [he] at C
    rw [he2] at D
    have HM : Hid (∀ x, x ∈ ls → 1 ≤ x.qty ∧ x.qty ≤ 1000000) := by
      have h2 := ho.2
      unfold okL at h2; simp at h2
      intro x hx; have := okLFrom_mem h2.2 x hx; omega
    have h5 : ls.length ≤ 5 := by have h2 := ho.2; unfold okL at h2; simp at h2; omega
    have HB := Lib.hid (fun id => findT_bd ho.1 id)
    have FD := Lib.hid (fun id W h => findR_any a cap xs id W h hl)
    obtain ⟨i0, hi, hz0, hz1, hz2⟩ := info_parts infoL
    clear hlp ho hf hl he he2
    go_enter Try.func17, Try.ntmps17
    go_wp2_with fail
    go_loopw [5, 6] (fun v5 v6 wr => ∃ (k : Nat) (acc : List Ln), k ≤ ls.length ∧ v6 = .int .i64 k ∧ acc = lacksF xs (ls.take k) ∧ wr.ownsRow w.heap.size 40 2 v5 acc.length (acc.flatMap encL) ∧ Below w.heap.size w wr) (fun _ v6 _ => ls.length - (intOf v6).toNat)
    case atStart => exact ⟨0, [], by omega, rfl, rfl, World.ownsRow_nil _ _ _ _, Below.refl _ _⟩
    case round =>
      obtain ⟨k, acc, hk, rfl, hacc, hown, hbel⟩ := hrel
      have HOWN := Lib.hid hown
      have HACC := Lib.hid hacc
      have hal : acc.length ≤ 5 := by have := lacksF_len xs (ls.take k); have h2 := List.length_take_le k ls; rw [hacc]; omega
      clear hown hacc
      by_cases hlt : k < ls.length
      · obtain ⟨bb, off, rfl, hbl, c0, c1⟩ := (HR2.out.below hbel).line k hlt
        have htk : ls.take (k + 1) = ls.take k ++ [ls[k]] := by simp
        have HS := Lib.hid ((congrArg (lacksF xs) htk).trans (lacksF_one xs (ls.take k) ls[k]))
        have hm := HM.out _ (List.getElem_mem hlt)
        clear htk
        generalize hx : ls[k] = x at c0 c1 HS hm
        clear hx
        obtain ⟨i, q⟩ := x
        simp only at c0 c1 HS hm
        obtain ⟨m1, m2⟩ := hm
        have hws := hbel.size
        go_wp2_with fail
        refine (C.out _ (HR.out.below hbel)).mono ?_
        rintro e w1 ⟨rfl, hb2⟩
        have HO1 : Hid (w1.ownsRow w.heap.size 40 2 _ acc.length (acc.flatMap encL)) := HOWN.out.below' hb2
        have e0 := (hb2.cell (p := ⟨bb, off + k * 2, none⟩) hbl).trans c0
        have e1 := (hb2.cell (p := ⟨bb, off + k * 2 + 1, none⟩) hbl).trans c1
        have hbl1 := Nat.lt_of_lt_of_le hbl hb2.size
        replace hbel := bt hbel hb2; clear hb2 c0 c1 HOWN
        go_wp2_with fail
        refine (D.out _ (HR2.out.below hbel)).mono ?_
        rintro e w2 ⟨rfl, hb2⟩
        have HO2 : Hid (w2.ownsRow w.heap.size 40 2 _ acc.length (acc.flatMap encL)) := HO1.out.below' hb2
        have c0 := (hb2.cell (p := ⟨bb, off + k * 2, none⟩) hbl1).trans e0
        have c1 := (hb2.cell (p := ⟨bb, off + k * 2 + 1, none⟩) hbl1).trans e1
        have hbl2 := Nat.lt_of_lt_of_le hbl1 hb2.size
        replace hbel := bt hbel hb2; clear hb2 e0 e1 HO1
        go_wp2_with fail
        refine (FD.out i _ (HR.out.below hbel)).mono ?_
        have hfb := HB.out i
        generalize findT xs i = ft at hfb HS ⊢
        obtain ⟨⟨f1, f2, f3, f4⟩, fb⟩ := ft
        simp only at hfb HS ⊢
        rintro e w3 ⟨rfl, hb2⟩
        have HO3 : Hid (w3.ownsRow w.heap.size 40 2 _ acc.length (acc.flatMap encL)) := HO2.out.below' hb2
        have e0 := (hb2.cell (p := ⟨bb, off + k * 2, none⟩) hbl2).trans c0
        have e1 := (hb2.cell (p := ⟨bb, off + k * 2 + 1, none⟩) hbl2).trans c1
        have hbl3 := Nat.lt_of_lt_of_le hbl2 hb2.size
        replace hbel := bt hbel hb2; clear hb2 c0 c1 HO2 hbl hbl1 hbl2
        have hsz2 := hbel.size
        by_cases hge : q ≤ f2
        · have HS2 := Lib.hid (HS.out.trans (show _ = acc by rw [if_pos hge, List.append_nil]; exact HACC.out.symm))
          have hged : decide (f2 < q) = false := by simp; omega
          clear HS
          go_wp2_with fail
          have FBX := one_item w3 (.int .i64 f1) (.int .i64 f2) (.int .i64 f3) (.int .i64 f4) 42
          have hbx := hbel.alloc hbel.size (.cells #[.int .i64 f1, .int .i64 f2, .int .i64 f3, .int .i64 f4] 42)
          have HO4 := Lib.hid (HO3.out.alloc (.cells #[.int .i64 f1, .int .i64 f2, .int .i64 f3, .int .i64 f4] 42))
          have g1 : (w3.alloc (.cells #[.int .i64 f1, .int .i64 f2, .int .i64 f3, .int .i64 f4] 42)).cell? ⟨bb, off + k * 2 + 1, none⟩ = some (.int .i64 q) := (World.cell?_alloc_lt _ _ _ hbl3).trans e1
          generalize w3.alloc (.cells #[.int .i64 f1, .int .i64 f2, .int .i64 f3, .int .i64 f4] 42) = W0 at *
          obtain ⟨fs, z0, z1, z2, z3⟩ := FBX
          go_quiet (fail)
          go_wp2_with fail
          exact ⟨⟨k + 1, acc, by omega, by go_num, HS2.out.symm, HO4.out, bdrewN hbx⟩, by simp [intOf]; omega⟩
        · have HS2 := Lib.hid (HS.out.trans (show _ = acc ++ [(⟨i, q - f2⟩ : Ln)] by rw [if_neg hge, HACC.out]))
          have hged : decide (f2 < q) = true := by simp; omega
          have hlt2 : f2 < q := by omega
          clear HS hge
          go_wp2_with fail
          have FBX := one_item w3 (.int .i64 f1) (.int .i64 f2) (.int .i64 f3) (.int .i64 f4) 42
          have hbx := hbel.alloc hbel.size (.cells #[.int .i64 f1, .int .i64 f2, .int .i64 f3, .int .i64 f4] 42)
          have HO4 := Lib.hid (HO3.out.alloc (.cells #[.int .i64 f1, .int .i64 f2, .int .i64 f3, .int .i64 f4] 42))
          have g0 : (w3.alloc (.cells #[.int .i64 f1, .int .i64 f2, .int .i64 f3, .int .i64 f4] 42)).cell? ⟨bb, off + k * 2, none⟩ = some (.int .i64 i) := (World.cell?_alloc_lt _ _ _ hbl3).trans e0
          have g1 : (w3.alloc (.cells #[.int .i64 f1, .int .i64 f2, .int .i64 f3, .int .i64 f4] 42)).cell? ⟨bb, off + k * 2 + 1, none⟩ = some (.int .i64 q) := (World.cell?_alloc_lt _ _ _ hbl3).trans e1
          have gb := Nat.lt_of_lt_of_le hbl3 (show w3.heap.size ≤ (w3.alloc (.cells #[.int .i64 f1, .int .i64 f2, .int .i64 f3, .int .i64 f4] 42)).heap.size by simp)
          generalize w3.alloc (.cells #[.int .i64 f1, .int .i64 f2, .int .i64 f3, .int .i64 f4] 42) = W0 at *
          obtain ⟨fs, z0, z1, z2, z3⟩ := FBX
          (apply rg_region (by kernel_rfl) (by kernel_rfl); intro env)
          repeat (apply rg_det rfl; (intro W K hW _ hK; obtain ⟨hc, hf⟩ := bcell hW; go_simp; first | (rw [IntWalk.i64_in]; (exact hK _ (Below.refl _ _)); omega) | exact hK _ (Below.refl _ _)); rfl)
          (apply rg_done rfl; intro W hW hF)
          have g0b := (hW.cell (p := ⟨bb, off + k * 2, none⟩) gb).trans g0
          have g1b := (hW.cell (p := ⟨bb, off + k * 2 + 1, none⟩) gb).trans g1
          have z1b := (hW.cell (p := ⟨w3.heap.size, 1, none⟩) fs).trans z1
          have gbb := Nat.lt_of_lt_of_le gb hW.size
          have fsb := Nat.lt_of_lt_of_le fs hW.size
          have HO4b : Hid (W.ownsRow w.heap.size 40 2 _ acc.length (acc.flatMap encL)) := HO4.out.below' hW
          replace hbx := bt hbx hW
          clear hW hF g0 g1 z0 z1 z2 z3 e0 e1 gb fs HO4
          go_wp2_with fail
          (apply rg_region_tail 16 (by kernel_rfl) (by kernel_rfl) (by kernel_rfl); intro env)
          iterate 15 (apply rg_det rfl; (intro W K hW _ hK; obtain ⟨hc, hf⟩ := bcell hW; go_simp; first | (rw [IntWalk.i64_in]; (exact hK _ (Below.refl _ _)); omega) | exact hK _ (Below.refl _ _)); rfl)
          (apply rg_rel (NewRow 1 [.int .i64 i, .int .i64 (q - f2)]) rfl (fun _ _ _ h k => h.below k); (intro W K hW hF hK; obtain ⟨hc, hf⟩ := bcell hW; go_simp; exact hK _ _ ((Below.refl _ _).alloc (Nat.le_refl _) _) (NewRow.new 1 [.int .i64 i, .int .i64 (q - f2)] W _)); (simp [rgDst, Act.put]; rfl))
          (apply rg_tail; rfl; (simp only [List.drop_succ_cons, List.drop_zero]; rfl); intro W hW hF)
          have hrow : NewRow 1 [.int .i64 i, .int .i64 (q - f2)] (env 15) W := hF _ (List.mem_append_right _ List.mem_cons_self)
          obtain ⟨nb, hnb, hnl, hnc⟩ := hrow
          have HNC := Lib.hid hnc
          rw [hnb]
          clear hF hnb hnc
          have HO5 : Hid (W.ownsRow w.heap.size 40 2 _ acc.length (acc.flatMap encL)) := HO4b.out.below' hW
          have hbw : Below w.heap.size w W := bt hbx hW
          have hsw := hbw.size
          clear HO4b g0b g1b z1b
          go_wp2_with (at_builtin; refine wpList_append_own _ rfl _ _ 23 rfl w.heap.size 40 i0 (lnv 0 0) 2 16 Try.underlying23 hi hz0 hz1 hz2 rfl (by decide) _ _ _ rfl HO5.out ⟨nb, 0, none⟩ 1 1 [.int .i64 i, .int .i64 (q - f2)] rfl rfl ?c1 ?c2 ?c3 ?c4 ?c5 ?_)
          case c1 => exact HNC.out
          case c2 => simp [Value.oneCell']
          case c3 => unfold maxLen; omega
          case c4 => omega
          case c5 => omega
          intro v' w4 hown' hgrow _
          have hown2 : w4.ownsRow w.heap.size 40 2 v' (acc ++ [(⟨i, q - f2⟩ : Ln)]).length ((acc ++ [(⟨i, q - f2⟩ : Ln)]).flatMap encL) := by
            rw [List.length_append, List.flatMap_append]; exact hown'
          have hbel2 : Below w.heap.size w w4 := (hbw.grown hgrow (by omega) (fun k hk => (HO5.out.lt k hk).1))
          have HOWN2 := Lib.hid hown2
          clear hown2 hown' hgrow
          go_wp2_with fail
          exact ⟨⟨k + 1, acc ++ [(⟨i, q - f2⟩ : Ln)], by omega, by go_num, HS2.out.symm, HOWN2.out, hbel2⟩, by simp [intOf]; omega⟩
      · obtain rfl : k = ls.length := by omega
        have hfin : acc = lacksF xs ls := by rw [HACC.out, List.take_length]
        have hd0 : decide (ls.length < ls.length) = false := by simp
        subst hfin
        go_wp2_with fail
        go_ret
        exact ⟨_, rfl, encL_sl HOWN.out, hbel⟩
  · have hlp : lacksP xs ls = [] := by unfold lacksP; rw [if_neg ho]
    rw [hlp]
    have HN := Lib.hid (fun W => IsSl.nil encL 2 W)
    by_cases h0 : 0 < ls.length
    · by_cases h1 : ok xs = true
      · have he : okE xs = 0 := by unfold okE; rw [if_pos h1]
        have he2 : okLE ls = 2 := by unfold okLE; rw [if_neg (fun h => ho ⟨h1, h⟩)]
        rw [he] at C
        rw [he2] at D
        clear hlp ho hf hl he he2 h1
        go_enter Try.func17, Try.ntmps17
        go_wp2_with fail
        go_loopw [5, 6] (fun v5 v6 wr => v6 = .int .i64 0 ∧ v5 = .slice none 0 0 ∧ Below w.heap.size w wr) (fun _ _ _ => 0)
        case atStart => exact ⟨rfl, rfl, Below.refl _ _⟩
        case round =>
          obtain ⟨rfl, rfl, hbel⟩ := hrel
          go_wp2_with fail
          refine (C.out _ (HR.out.below hbel)).mono ?_
          rintro e w1 ⟨rfl, hb2⟩
          replace hbel := bt hbel hb2; clear hb2
          go_wp2_with fail
          refine (D.out _ (HR2.out.below hbel)).mono ?_
          rintro e w1 ⟨rfl, hb2⟩
          replace hbel := bt hbel hb2; clear hb2
          go_wp2_with fail
          go_ret
          exact ⟨_, rfl, HN.out _, hbel⟩
      · have he : okE xs = 2 := by unfold okE; rw [if_neg h1]
        rw [he] at C
        clear hlp ho hf hl he h1
        go_enter Try.func17, Try.ntmps17
        go_wp2_with fail
        go_loopw [5, 6] (fun v5 v6 wr => v6 = .int .i64 0 ∧ v5 = .slice none 0 0 ∧ Below w.heap.size w wr) (fun _ _ _ => 0)
        case atStart => exact ⟨rfl, rfl, Below.refl _ _⟩
        case round =>
          obtain ⟨rfl, rfl, hbel⟩ := hrel
          go_wp2_with fail
          refine (C.out _ (HR.out.below hbel)).mono ?_
          rintro e w1 ⟨rfl, hb2⟩
          replace hbel := bt hbel hb2; clear hb2
          go_wp2_with fail
          go_ret
          exact ⟨_, rfl, HN.out _, hbel⟩
    · have hd0 : decide (0 < ls.length) = false := by simpa using h0
      clear hlp ho hf hl
      go_enter Try.func17, Try.ntmps17
      go_wp2_with fail
      go_loopw [5, 6] (fun v5 v6 wr => v6 = .int .i64 0 ∧ v5 = .slice none 0 0 ∧ w = wr) (fun _ _ _ => 0)
      case atStart => exact ⟨rfl, rfl, rfl⟩
      case round =>
        obtain ⟨rfl, rfl, rfl⟩ := hrel
        go_wp2_with fail
        go_ret
        exact ⟨_, rfl, HN.out _, Below.refl _ _⟩
end Go.Proofs.Ytfnmaemeofkagaa
