/- frame.All: the loop over the frames, and what it hands back. -/
import Derived.Test.YtopmppnnihdnaaaFrameAll
namespace Go.Proofs.Ytopmppnnihdnaaa
set_option linter.unusedVariables false
set_option linter.unusedSimpArgs false
open Go.RowKit Go.Shelf
set_option linter.unusedVariables false
set_option linter.unusedSimpArgs false
set_option maxRecDepth 100000
attribute [local go_sem] Oper.semAt_some
theorem frames_stops (n : Nat) (hn : 2 ≤ n) (B : Nat) (s : ByteArray) (hs : s.size ≤ 1000000) (w : World) (hB : w.heap[B]? = some (.cells #[.string s] 9 (0, 0))) :
    SeqStopsK Fence.wide n Try.prog 37 #[.pointer (some ⟨B, 0, none⟩)] encF (KpB B) (fun ys => ys = allX s) (fun pre => pre <+: allX s) (s.size + 1) w := fun l J Jx W hW hJ _ hY h0 =>
  frames1_in n hn l B s hs J Jx W hJ hY ((hW.block B (Array.getElem?_eq_some_iff.1 hB).1).trans hB) h0
theorem infoS : (Try.prog.info? 9).map (fun i => (i.zero, i.size, i.bytes)) = some (some (.string ByteArray.empty), 1, 16) := by kernel_rfl
theorem size_own (n : Nat) : Own (fun (_ : List (Int × ByteArray)) W => n ≤ W.heap.size) := fun s A B row hs hg hr => Nat.le_trans hs hg.size
set_option maxHeartbeats 4000000 in
theorem all_c (s : ByteArray) (hs : s.size ≤ 1000000) (w : World) : Calls Try.prog 15 #[.string s] w fun e W' => ∃ v, e = .returned (.tuple #[v, .int .i64 (lastTo (allX s))]) ∧ W'.ownsRow w.heap.size 9 1 v (allX s).length ((allX s).map fun x => .string x.2) ∧ Below w.heap.size w W' := by
  refine (callsIn_wide (n := 6)).1 ?_
  obtain ⟨i0, hi, hz0, hz1, hz2⟩ := info_parts infoS
  refine callsIn_of_wp_marks Try.func15 rfl trivial ?_ rfl
  simp only [Try.ntmps15, List.size_toArray, List.length_cons, List.length_nil, Nat.reduceAdd, Nat.reduceSub, Array.replicate_succ, Array.replicate_zero, List.push_toArray, List.append_toArray, List.nil_append, List.cons_append]
  have hF : Fence.wide.fn 29 := trivial
  have h1n : 1 ≤ 6 := by omega
  gi_wp2_with (gi_at_call 29; refine (callsIn_wide.2 (frames_c s _)).mono ?_; rintro e w' ⟨rfl, rfl⟩)
  have bO := Boxed.new w 22 (.slice none 0 0)
  have bI := Boxed.new (w.alloc (.cells #[.slice none 0 0] 22)) 3 (.int .i64 0)
  have bS := Boxed.new ((w.alloc (.cells #[.slice none 0 0] 22)).alloc (.cells #[.int .i64 0] 3)) 9 (.string s)
  rw [World.size_alloc] at bI
  rw [World.size_alloc, World.size_alloc] at bS
  have hB0 : Below w.heap.size w (((w.alloc (.cells #[.slice none 0 0] 22)).alloc (.cells #[.int .i64 0] 3)).alloc (.cells #[.string s] 9)) := (((Below.refl _ w).alloc (Nat.le_refl _) _).alloc (by simp) _).alloc (by simp; omega) _
  refine wpIn_rangeFunc_ownG rfl (by omega) (gf := 37) (lb := #[.pointer (some ⟨w.heap.size + 1 + 1, 0, none⟩)]) rfl trivial (enters_of Try.func37 (by kernel_rfl) rfl)
    (frames_stops 5 (by omega) (w.heap.size + 1 + 1) s hs _ bS) KpB_t (KpB_b (by simp)) (Below.refl _ _) (fun _ => rfl)
    (fun (pre : List (Int × ByteArray)) W => (∃ v, Boxed W w.heap.size 22 v ∧ W.ownsRow (w.heap.size + 3) 9 1 v pre.length (pre.map fun x => Value.string x.2) ∧ True) ∧ (Boxed W (w.heap.size + 1) 3 (.int .i64 (lastTo pre)) ∧ (w.heap.size + 3 ≤ W.heap.size ∧ Below w.heap.size w W)))
    (fun _ _ _ => False)
    (OwnFrom.and (Own.from (holdsRow_own (w.heap.size + 3) w.heap.size 22 9 1 (fun (pre : List (Int × ByteArray)) => pre.length) (fun (pre : List (Int × ByteArray)) => pre.map fun x => Value.string x.2) (fun pre v => True)) _) (OwnFrom.and (Own.from (boxed_own (w.heap.size + 1) 3 (fun (pre : List (Int × ByteArray)) => Value.int .i64 (lastTo pre))) _) (OwnFrom.and (Own.from (size_own _) _) (ownFrom_below (Nat.le_refl _) (by simp; omega)))))
    (fun _ _ _ _ _ hs _ _ => hs)
    ⟨⟨_, (bO.alloc _).alloc _, World.ownsRow_nil _ _ _ _, trivial⟩, bI.alloc _, by simp, hB0⟩
    (fun x => { tmps := #[.string s, undef, .pointer (some ⟨w.heap.size, 0, none⟩), .pointer (some ⟨w.heap.size + 1, 0, none⟩), .int .i64 x.1, .string x.2, .string s, .func (.func 37) #[] #[.pointer (some ⟨w.heap.size + 1 + 1, 0, none⟩)], .int .i64 x.1, .string x.2, undef, undef, undef, undef, undef, undef, undef], defers := [] }) ?assign ?body ?done ?stop
  case assign =>
    intro l x W K hK
    gi_wp2
    exact hK
  case body =>
    rintro l pre x W ⟨⟨v, hv, hrow, _⟩, hi1, hsz, hB⟩ hlt
    have hc := hv.cell
    gi_wp2_with (gi_at_builtin; refine wpListIn_append_own _ rfl _ _ 22 rfl (w.heap.size + 3) 9 i0 (.string ByteArray.empty) 1 16 Try.underlying22 hi hz0 hz1 hz2 rfl (by decide) _ _ _ rfl (hrow.alloc _) ⟨W.heap.size, 0, none⟩ 1 1 [.string x.2] rfl rfl (cell_one_new _ _ _) (by simp [Value.oneCell']) (by unfold maxLen; omega) (by omega) (by simp; omega) ?_; intro v' w1 hown' hgrow _; obtain ⟨g', cap', rfl⟩ := ownsRow_succ hown'; have hv1 := (hv.alloc _).kept hgrow (hv.not_row (by decide) hrow); have hi2 := (hi1.alloc _).kept hgrow (hi1.not_row (by decide) hrow); have hc1 := hv1.cell; have hf1 := hv1.frozen; have hc2 := hi2.cell; have hf2 := hi2.frozen)
    have hW1 := hgrow.size
    rw [World.size_alloc] at hW1
    have hob : ∀ j, v.ownBlock = some j → w.heap.size + 3 ≤ j ∧ ∃ o : Obj, W.heap[j]? = some o ∧ o.isCells = true := fun j ej => by
      rcases hrow.2 with ⟨rfl, _⟩ | ⟨g, cap, cur, rfl, h3, hgb, _⟩
      · simp [Value.ownBlock] at ej
      · obtain rfl : g = j := by simpa [Value.ownBlock] using ej
        exact ⟨h3, _, hgb, rfl⟩
    have hko : KeepsOthers W ((w1.setCell ⟨w.heap.size, 0, none⟩ (.slice (some ⟨g', 0, none⟩) (pre.length + 1) cap')).setCell ⟨w.heap.size + 1, 0, none⟩ (.int .i64 x.1)) := by
      refine (((KeepsOthers.alloc W _).trans (KeepsOthers.of_grownBy hgrow fun j o ej hj => ?_)).trans (KeepsOthers.setCell _ _ _)).trans (KeepsOthers.setCell _ _ _)
      obtain ⟨_, o', h1, h2⟩ := hob j ej
      rw [Below.heap_alloc W _ j (Array.getElem?_eq_some_iff.1 h1).1, h1] at hj
      cases hj; exact h2
    have hbw := ((((Below.refl w.heap.size W).alloc hB.size _).grown hgrow (by rw [World.size_alloc]; omega) (fun j ej => by have := (hob j ej).1; omega)).setCell (p := ⟨w.heap.size, 0, none⟩) (Nat.le_refl _) (.slice (some ⟨g', 0, none⟩) (pre.length + 1) cap')).setCell (p := ⟨w.heap.size + 1, 0, none⟩) (Nat.le_succ _) (.int .i64 x.1)
    refine ⟨hko.from _, ⟨hko.size, fun hlt => ?_⟩, ⟨_, (hv1.set _).other (by omega) _, ?_, trivial⟩, ?_, Nat.le_trans hsz hko.size, hB.trans hbw⟩
    · rw [Below.heap_setCell _ _ _ _ (by first | (simp; done) | (simp; omega)), Below.heap_setCell _ _ _ _ (by first | (simp; done) | (simp; omega)), hgrow.block _ (by rw [World.size_alloc]; omega) (fun e => by have := (hob _ e.symm).1; omega), Below.heap_alloc W _ _ hlt]
    · have hr1 := hown'.kept (grownBy_setCell' w1 w.heap.size (.slice (some ⟨g', 0, none⟩) (pre.length + 1) cap')) (.inr (hv1.not_row (by decide) hown').symm)
      have hr2 := hr1.kept (grownBy_setCell' _ (w.heap.size + 1) (.int .i64 x.1)) (.inr ((hi2.other (by omega) _).not_row (by decide) hr1).symm)
      rw [List.map_append, List.length_append]; exact hr2
    · rw [lastTo_snoc]; exact (hi2.other (by omega) _).set _
  case done =>
    rintro D ys W hD rfl ⟨⟨v, hv, hrow, _⟩, hi1, hsz, hB⟩ hK
    obtain ⟨va, vn, vc, rfl⟩ : ∃ a n c, v = .slice a n c := by
      rcases hrow.2 with ⟨rfl, _⟩ | ⟨g, cap, cur, rfl, _⟩
      · exact ⟨_, _, _, rfl⟩
      · exact ⟨_, _, _, rfl⟩
    have hc := hv.cell
    have hc2 := hi1.cell
    have hf := hv.frozen
    have hf2 := hi1.frozen
    gi_wp2
    refine wpIn_wide.2 ?_
    go_region
    all_goals gi_wp2
    have hne : w.heap.size ≠ w.heap.size + 1 := by omega
    have hK' := ((KeepsOthers.setCell W ⟨w.heap.size, 0, none⟩ (.slice va vn vc)).trans (KeepsOthers.setCell _ ⟨w.heap.size + 1, 0, none⟩ (.int .i64 (lastTo (allX s))))).same D _ hK rfl
    have b5 := (hv.set (.slice va vn vc)).other hne (.int .i64 (lastTo (allX s)))
    have b6 := (hi1.other hne.symm (.slice va vn vc)).set (.int .i64 (lastTo (allX s)))
    have hr1 := hrow.kept (grownBy_setCell' W w.heap.size (.slice va vn vc)) (.inr (hv.not_row (by decide) hrow).symm)
    have hr2 := hr1.kept (grownBy_setCell' _ (w.heap.size + 1) (.int .i64 (lastTo (allX s)))) (.inr ((hi1.other hne.symm _).not_row (by decide) hr1).symm)
    have hbw := ((Below.refl w.heap.size W).setCell (p := ⟨w.heap.size, 0, none⟩) (Nat.le_refl _) (.slice va vn vc)).setCell (p := ⟨w.heap.size + 1, 0, none⟩) (Nat.le_succ _) (.int .i64 (lastTo (allX s)))
    have hDl : w.heap.size ≤ D := by simp at hD; omega
    have hr3 := ownsRow_putObj hr2 (.deferred none) hK' rfl
    have hb3 := belowK_b (w := w) (Nat.le_refl _) _ D _ (.deferred none) hDl hK' rfl rfl
    have c5 := cell_kept b5.cell (grownBy_putObj' _ D (.deferred none)) (fun r e => by cases e; exact ⟨_, hK', rfl⟩)
    have c6 := cell_kept b6.cell (grownBy_putObj' _ D (.deferred none)) (fun r e => by cases e; exact ⟨_, hK', rfl⟩)
    generalize (W.setCell ⟨w.heap.size, 0, none⟩ (.slice va vn vc)).setCell ⟨w.heap.size + 1, 0, none⟩ (.int .i64 (lastTo (allX s))) = W5 at *
    refine ⟨by simp, .inl ⟨_, _, rfl, run_takeDeferred (w := W5.drew) hK', ?_⟩⟩
    have c5' : (W5.drew.putObj D (.deferred none)).cell? ⟨w.heap.size, 0, none⟩ = some (.slice va vn vc) := c5
    have c6' : (W5.drew.putObj D (.deferred none)).cell? ⟨w.heap.size + 1, 0, none⟩ = some (.int .i64 (lastTo (allX s))) := c6
    refine ⟨.tuple #[.slice va vn vc, .int .i64 (lastTo (allX s))], ?_, _, rfl, ?_, ?_⟩
    · simp [results, Try.f15, go_sem, c5', c6']
    · refine ⟨hr3.1, ?_⟩
      rcases hr3.2 with h | ⟨g, cap, cur, h1, h2, h3⟩
      · exact .inl h
      · exact .inr ⟨g, cap, cur, h1, by omega, h3⟩
    · have hh := hB.trans (hbw.trans hb3)
      exact ⟨hh.os, hh.tape, hh.output, hh.size, hh.block⟩
  case stop =>
    rintro D c pre W _ _ h _
    exact h.elim
theorem all_fn (s : ByteArray) (hs : s.size ≤ 1000000) : FnP Try.prog 15 [.str s] (.tup [.sl ((allP s).1.map AV.str), .int .i64 (allP s).2]) := by
  refine ⟨by simp [AV.cells], fun k w β vs hH hv => ?_⟩
  rw [hv.lits rfl]
  refine (all_c s hs w).mono ?_
  rintro e w' ⟨v, rfl, hrow, hb⟩
  refine ⟨_, β, rfl, Ext.of_below β hb, hH.below hb, VRep.tup2 ?_ (.int _ _)⟩
  have hxs : (allP s).1.map AV.str = (allX s).map fun y => AV.str y.2 := by unfold allP; rw [List.map_map]; rfl
  rw [hxs]
  rcases hrow.2 with ⟨rfl, h0⟩ | ⟨gb, cap, cur, rfl, hge, hgg, hnc, hcm, hcs, htake⟩
  · have h1 : allX s = [] := List.eq_nil_of_length_eq_zero (by simpa using h0)
    rw [h1]; exact .slnil
  · have hgl := (Array.getElem?_eq_some_iff.1 hgg).1
    have hcell : ∀ (q : Nat) (y : Int × ByteArray), (allX s)[q]? = some y → w'.cell? ⟨gb, q, none⟩ = some (.string y.2) := by
      intro q y hq
      have hc := cell_of_row w' gb q cur 9 (0, 0) hgg
      rw [hc]
      have hq2 : ((allX s).map fun x => Value.string x.2)[q]? = some (.string y.2) := by rw [List.getElem?_map, hq]; rfl
      rw [← htake, List.getElem?_take] at hq2
      split at hq2
      · simpa using hq2
      · cases hq2
    have hget : ∀ (i j : Nat) (x y : AV), ((allX s).map fun y => AV.str y.2)[i]? = some x → x.cells[j]? = some y → j = 0 ∧ ∃ z, (allX s)[i]? = some z ∧ y = .str z.2 := by
      intro i j x y h1 h2
      rw [List.getElem?_map, Option.map_eq_some_iff] at h1
      obtain ⟨z, h1, rfl⟩ := h1
      cases j with
      | zero => simp [AV.cells] at h2; exact ⟨rfl, z, h1, h2.symm⟩
      | succ j => simp [AV.cells] at h2
    have h := VRep.sl (β := β) (w := w') gb 0 cap 1 ((allX s).map fun y => AV.str y.2) (by simpa using hnc) hcm hgl
      (fun x hx hm => by
        obtain ⟨i, hi, e⟩ := List.mem_iff_getElem.1 hx
        have := hH.lt (i := i) (x := x) (by rw [List.getElem?_eq_getElem hi, e]) hm
        omega)
      (fun x hx => by obtain ⟨y, _, rfl⟩ := List.mem_map.1 hx; rfl)
      (fun i j x y h1 h2 => by
        obtain ⟨rfl, z, hz, rfl⟩ := hget i j x y h1 h2
        exact ⟨_, by rw [show 0 + i * 1 + 0 = i by omega]; exact hcell i z hz⟩)
      (fun i j x y u h1 h2 h3 => by
        obtain ⟨rfl, z, hz, rfl⟩ := hget i j x y h1 h2
        rw [show 0 + i * 1 + 0 = i by omega, hcell i z hz] at h3
        cases h3; exact .str _)
    rw [List.length_map] at h
    exact h
end Go.Proofs.Ytopmppnnihdnaaa
