/- The stock: the reference's item, Goes. -/
import Derived.Test.YtfnmaemeofkagaaStockRef3
namespace Go.Proofs.Ytfnmaemeofkagaa
open Go.ChangeShapes Go.WideShapes Go.ChangeAt Go.RowKit
open StockP
set_option maxRecDepth 100000
set_option maxHeartbeats 4000000 in
theorem itemR_any (a : Option Addr) (cap : Nat) (xs : List It) (id q : Int) (w : World) (hr : Reads encT 4 w a xs) (hl : xs.length ≤ maxLen) (hf : ∀ x, x ∈ xs → fitT x) :
    Calls Try.prog 38 #[.slice a xs.length cap, .int .i64 id, .int .i64 q] w fun e w' => e = .returned (.tuple #[itv (itemP xs id q).1.id (itemP xs id q).1.free (itemP xs id q).1.held (itemP xs id q).1.gone, .int .i64 (itemP xs id q).2]) ∧ Below w.heap.size w w' := by
  have C := Lib.hid (fun W h => checkR_any a cap xs W h hl hf)
  have FD := Lib.hid (fun W h => findR_any a cap xs id W h hl)
  have HR := Lib.hid hr
  clear hr hf
  have FC := four_new w 42
  have hbx : Below w.heap.size w (w.alloc (.cells #[.int .i64 0, .int .i64 0, .int .i64 0, .int .i64 0] 42)) := (Below.refl _ _).alloc (Nat.le_refl _) _
  by_cases ha : askedB xs q = true
  · have hit : itemP xs id q = ((findT xs id).1, if (findT xs id).2 = true then 0 else 40) := by unfold itemP; rw [if_pos ha]
    have h3 := askedB_ok ha
    have he : okE xs = 0 := by unfold okE; rw [if_pos h3.1]
    rw [he] at C
    rw [hit]
    obtain ⟨_, q1, q2⟩ := h3
    have d1 : decide (q < 1) = false := by simp; omega
    have d2 : decide (1000000 < q) = false := by simp; omega
    clear hit he ha
    generalize findT xs id = r at FD ⊢
    obtain ⟨⟨r1, r2, r3, r4⟩, rb⟩ := r
    simp only at FD ⊢
    cases rb with
    | true =>
      simp only [if_true]
      go_enter Try.func38, Try.ntmps38
      go_wp2_with fail
      generalize w.alloc (.cells #[.int .i64 0, .int .i64 0, .int .i64 0, .int .i64 0] 42) = w0 at *
      refine (C.out _ (HR.out.below hbx)).mono ?_
      rintro e w1 ⟨rfl, hb2⟩
      replace FC := FC.below hb2
      replace hbx := bt hbx hb2; clear hb2
      go_wp2_with fail
      refine (FD.out _ (HR.out.below hbx)).mono ?_
      rintro e w2 ⟨rfl, hb2⟩
      replace FC := FC.below hb2
      replace hbx := bt hbx hb2; clear hb2
      obtain ⟨hs, y0, y1, y2, y3, fz⟩ := FC
      go_wp2_with fail
      obtain ⟨k0, k1, k2, k3⟩ := four_cells_past hs y0 y1 y2 y3 (.int .i64 r1) (.int .i64 r2) (.int .i64 r3) (.int .i64 r4) (.cells #[.int .i64 r1, .int .i64 r2, .int .i64 r3, .int .i64 r4] 42)
      exact bodyPost_ret (v := .tuple #[itv r1 r2 r3 r4, .int .i64 0]) (by simp [results, Try.results38, go_sem, k0, k1, k2, k3]) rfl ⟨rfl, four_below_past hbx (Nat.le_refl _) hbx.size _ _ _ _ _⟩
    | false =>
      simp only [Bool.false_eq_true, if_false]
      go_enter Try.func38, Try.ntmps38
      go_wp2_with fail
      generalize w.alloc (.cells #[.int .i64 0, .int .i64 0, .int .i64 0, .int .i64 0] 42) = w0 at *
      refine (C.out _ (HR.out.below hbx)).mono ?_
      rintro e w1 ⟨rfl, hb2⟩
      replace FC := FC.below hb2
      replace hbx := bt hbx hb2; clear hb2
      go_wp2_with fail
      refine (FD.out _ (HR.out.below hbx)).mono ?_
      rintro e w2 ⟨rfl, hb2⟩
      replace FC := FC.below hb2
      replace hbx := bt hbx hb2; clear hb2
      obtain ⟨hs, y0, y1, y2, y3, fz⟩ := FC
      go_wp2_with fail
      obtain ⟨k0, k1, k2, k3⟩ := four_cells_past hs y0 y1 y2 y3 (.int .i64 r1) (.int .i64 r2) (.int .i64 r3) (.int .i64 r4) (.cells #[.int .i64 r1, .int .i64 r2, .int .i64 r3, .int .i64 r4] 42)
      exact bodyPost_ret (v := .tuple #[itv r1 r2 r3 r4, .int .i64 40]) (by simp [results, Try.results38, go_sem, k0, k1, k2, k3]) rfl ⟨rfl, four_below_past hbx (Nat.le_refl _) hbx.size _ _ _ _ _⟩
  · have hit : itemP xs id q = (⟨0, 0, 0, 0⟩, 2) := by unfold itemP; rw [if_neg ha]
    rw [hit]
    have hcase : okE xs = 2 ∨ (okE xs = 0 ∧ q < 1) ∨ (okE xs = 0 ∧ 1 ≤ q ∧ 1000000 < q) := by
      unfold askedB at ha; unfold okE
      by_cases ho : ok xs = true
      · rw [if_pos ho]; rw [ho] at ha; simp at ha; omega
      · rw [if_neg ho]; exact .inl rfl
    clear hit ha
    generalize okE xs = oe at C hcase
    rcases hcase with rfl | ⟨rfl, q1⟩ | ⟨rfl, q1, q2⟩
    · go_enter Try.func38, Try.ntmps38
      go_wp2_with fail
      generalize w.alloc (.cells #[.int .i64 0, .int .i64 0, .int .i64 0, .int .i64 0] 42) = w0 at *
      refine (C.out _ (HR.out.below hbx)).mono ?_
      rintro e w1 ⟨rfl, hb2⟩
      replace FC := FC.below hb2
      replace hbx := bt hbx hb2; clear hb2
      obtain ⟨hs, y0, y1, y2, y3, fz⟩ := FC
      go_wp2_with fail
      obtain ⟨k0, k1, k2, k3⟩ := four_cells y0 y1 y2 y3 (.int .i64 0) (.int .i64 0) (.int .i64 0) (.int .i64 0)
      exact bodyPost_ret (v := .tuple #[itv 0 0 0 0, .int .i64 2]) (by simp [results, Try.results38, go_sem, k0, k1, k2, k3]) rfl ⟨rfl, four_below hbx (Nat.le_refl _) _ _ _ _⟩

    · have d1 : decide (q < 1) = true := by simp; omega
      go_enter Try.func38, Try.ntmps38
      go_wp2_with fail
      generalize w.alloc (.cells #[.int .i64 0, .int .i64 0, .int .i64 0, .int .i64 0] 42) = w0 at *
      refine (C.out _ (HR.out.below hbx)).mono ?_
      rintro e w1 ⟨rfl, hb2⟩
      replace FC := FC.below hb2
      replace hbx := bt hbx hb2; clear hb2
      obtain ⟨hs, y0, y1, y2, y3, fz⟩ := FC
      go_wp2_with fail
      obtain ⟨k0, k1, k2, k3⟩ := four_cells y0 y1 y2 y3 (.int .i64 0) (.int .i64 0) (.int .i64 0) (.int .i64 0)
      exact bodyPost_ret (v := .tuple #[itv 0 0 0 0, .int .i64 2]) (by simp [results, Try.results38, go_sem, k0, k1, k2, k3]) rfl ⟨rfl, four_below hbx (Nat.le_refl _) _ _ _ _⟩

    · have d1 : decide (q < 1) = false := by simp; omega
      have d2 : decide (1000000 < q) = true := by simp; omega
      go_enter Try.func38, Try.ntmps38
      go_wp2_with fail
      generalize w.alloc (.cells #[.int .i64 0, .int .i64 0, .int .i64 0, .int .i64 0] 42) = w0 at *
      refine (C.out _ (HR.out.below hbx)).mono ?_
      rintro e w1 ⟨rfl, hb2⟩
      replace FC := FC.below hb2
      replace hbx := bt hbx hb2; clear hb2
      obtain ⟨hs, y0, y1, y2, y3, fz⟩ := FC
      go_wp2_with fail
      obtain ⟨k0, k1, k2, k3⟩ := four_cells y0 y1 y2 y3 (.int .i64 0) (.int .i64 0) (.int .i64 0) (.int .i64 0)
      exact bodyPost_ret (v := .tuple #[itv 0 0 0 0, .int .i64 2]) (by simp [results, Try.results38, go_sem, k0, k1, k2, k3]) rfl ⟨rfl, four_below hbx (Nat.le_refl _) _ _ _ _⟩

set_option maxHeartbeats 4000000 in
theorem goesR1_any (a : Option Addr) (cap : Nat) (xs : List It) (id q : Int) (w : World) (hr : Reads encT 4 w a xs) (hl : xs.length ≤ maxLen) (hf : ∀ x, x ∈ xs → fitT x) :
    Calls Try.prog 26 #[.slice a xs.length cap, .int .i64 id, .int .i64 q, .int .i64 1] w (GotL (withP (holdG q) xs id q) w) := by
  rw [← goes_hold]
  have I := Lib.hid (fun W h => itemR_any a cap xs id q W h hl hf)
  have HR := Lib.hid hr
  clear hr hf
  unfold goesP'
  by_cases hie : (itemP xs id q).2 ≠ 0
  · rw [if_pos hie]
    generalize itemP xs id q = r at I hie ⊢
    obtain ⟨⟨r1, r2, r3, r4⟩, re⟩ := r
    simp only at I hie ⊢
    have hreb : (re != 0) = true := by simpa using hie
    go_enter Try.func26, Try.ntmps26
    go_wp2_with fail
    refine (I.out _ HR.out).mono ?_
    rintro e w1 ⟨rfl, hb⟩
    go_wp2_with fail
    go_ret2
    exact GotL.hnil (hb.alloc hb.size _)
  · rw [if_neg hie]
    have hbd : 0 ≤ (itemP xs id q).1.free ∧ (itemP xs id q).1.free ≤ 1000000 ∧ 0 ≤ (itemP xs id q).1.held ∧ (itemP xs id q).1.held ≤ 1000000 ∧ 0 ≤ (itemP xs id q).1.gone ∧ (itemP xs id q).1.gone ≤ 1000000 ∧ 1 ≤ q ∧ q ≤ 1000000 ∧ xs.length ≤ 1000 := by
      unfold itemP at hie ⊢
      by_cases ha : askedB xs q = true
      · rw [if_pos ha] at hie ⊢
        have h3 := askedB_ok ha
        have hlen := ok_len h3.1
        rw [findT_place] at hie ⊢
        by_cases hp : place (fun x => x.id == id) xs < xs.length
        · rw [dif_pos hp]
          have := may_bd (ok_may h3.1 _ (List.getElem_mem hp))
          simp only; omega
        · rw [dif_neg hp] at hie; simp at hie
      · rw [if_neg ha] at hie; simp at hie
    have hre : (itemP xs id q).2 = 0 := by simpa using hie
    generalize itemP xs id q = r at I hie hbd hre ⊢
    obtain ⟨⟨r1, r2, r3, r4⟩, re⟩ := r
    simp only at I hie hbd hre ⊢
    subst hre
    obtain ⟨b1, b2, b3, b4, b5, b6, b7, b8, hxl⟩ := hbd
    clear hie
    by_cases hbad : r2 < q
    · rw [if_pos hbad]
      have dd : decide (r2 < q) = true := by simpa using hbad
      go_enter Try.func26, Try.ntmps26
      go_wp2_with fail
      refine (I.out _ HR.out).mono ?_
      rintro e w1 ⟨rfl, hb⟩
      go_wp2_with fail
      go_ret2
      exact GotL.hnil (hb.alloc hb.size _)
    · rw [if_neg hbad]
      have dd : decide (r2 < q) = false := by simpa using hbad
      have dle : q ≤ r2 := by omega
      have PT := Lib.hid (fun W h => putR_any a cap xs r1 (r2 - q) (r3 + q) r4 W h hxl)
      clear hbad
      generalize put xs ⟨r1, r2 - q, r3 + q, r4⟩ = pv at PT ⊢
      go_enter Try.func26, Try.ntmps26
      go_wp2_with fail
      refine (I.out _ HR.out).mono ?_
      rintro e w1 ⟨rfl, hb⟩
      go_wp2_with fail
      have hb3 : Below w.heap.size w (w1.alloc (.cells #[.int .i64 r1, .int .i64 (r2 - q), .int .i64 (r3 + q), .int .i64 r4] 42)) := hb.alloc hb.size _
      refine (PT.out _ (HR.out.below hb3)).mono ?_
      rintro e w2 ⟨v, rfl, hsl, hab, hb4⟩
      have HG := Lib.hid (And.intro hsl (And.intro (hab.mono hb3.size) (bt hb3 hb4)))
      clear hsl hab hb4 hb3 hb
      go_wp2_with fail
      go_ret2
      exact ⟨_, rfl, HG.out.1, HG.out.2.1, HG.out.2.2⟩
set_option maxHeartbeats 4000000 in
theorem goesR2_any (a : Option Addr) (cap : Nat) (xs : List It) (id q : Int) (w : World) (hr : Reads encT 4 w a xs) (hl : xs.length ≤ maxLen) (hf : ∀ x, x ∈ xs → fitT x) :
    Calls Try.prog 26 #[.slice a xs.length cap, .int .i64 id, .int .i64 q, .int .i64 2] w (GotL (withP (freeG q) xs id q) w) := by
  rw [← goes_free]
  have I := Lib.hid (fun W h => itemR_any a cap xs id q W h hl hf)
  have HR := Lib.hid hr
  clear hr hf
  unfold goesP'
  by_cases hie : (itemP xs id q).2 ≠ 0
  · rw [if_pos hie]
    generalize itemP xs id q = r at I hie ⊢
    obtain ⟨⟨r1, r2, r3, r4⟩, re⟩ := r
    simp only at I hie ⊢
    have hreb : (re != 0) = true := by simpa using hie
    go_enter Try.func26, Try.ntmps26
    go_wp2_with fail
    refine (I.out _ HR.out).mono ?_
    rintro e w1 ⟨rfl, hb⟩
    go_wp2_with fail
    go_ret2
    exact GotL.hnil (hb.alloc hb.size _)
  · rw [if_neg hie]
    have hbd : 0 ≤ (itemP xs id q).1.free ∧ (itemP xs id q).1.free ≤ 1000000 ∧ 0 ≤ (itemP xs id q).1.held ∧ (itemP xs id q).1.held ≤ 1000000 ∧ 0 ≤ (itemP xs id q).1.gone ∧ (itemP xs id q).1.gone ≤ 1000000 ∧ 1 ≤ q ∧ q ≤ 1000000 ∧ xs.length ≤ 1000 := by
      unfold itemP at hie ⊢
      by_cases ha : askedB xs q = true
      · rw [if_pos ha] at hie ⊢
        have h3 := askedB_ok ha
        have hlen := ok_len h3.1
        rw [findT_place] at hie ⊢
        by_cases hp : place (fun x => x.id == id) xs < xs.length
        · rw [dif_pos hp]
          have := may_bd (ok_may h3.1 _ (List.getElem_mem hp))
          simp only; omega
        · rw [dif_neg hp] at hie; simp at hie
      · rw [if_neg ha] at hie; simp at hie
    have hre : (itemP xs id q).2 = 0 := by simpa using hie
    generalize itemP xs id q = r at I hie hbd hre ⊢
    obtain ⟨⟨r1, r2, r3, r4⟩, re⟩ := r
    simp only at I hie hbd hre ⊢
    subst hre
    obtain ⟨b1, b2, b3, b4, b5, b6, b7, b8, hxl⟩ := hbd
    clear hie
    by_cases hbad : r3 < q
    · rw [if_pos hbad]
      have dd : decide (r3 < q) = true := by simpa using hbad
      go_enter Try.func26, Try.ntmps26
      go_wp2_with fail
      refine (I.out _ HR.out).mono ?_
      rintro e w1 ⟨rfl, hb⟩
      go_wp2_with fail
      go_ret2
      exact GotL.hnil (hb.alloc hb.size _)
    · rw [if_neg hbad]
      have dd : decide (r3 < q) = false := by simpa using hbad
      have dle : q ≤ r3 := by omega
      have PT := Lib.hid (fun W h => putR_any a cap xs r1 (r2 + q) (r3 - q) r4 W h hxl)
      clear hbad
      generalize put xs ⟨r1, r2 + q, r3 - q, r4⟩ = pv at PT ⊢
      go_enter Try.func26, Try.ntmps26
      go_wp2_with fail
      refine (I.out _ HR.out).mono ?_
      rintro e w1 ⟨rfl, hb⟩
      go_wp2_with fail
      have hb3 : Below w.heap.size w (w1.alloc (.cells #[.int .i64 r1, .int .i64 (r2 + q), .int .i64 (r3 - q), .int .i64 r4] 42)) := hb.alloc hb.size _
      refine (PT.out _ (HR.out.below hb3)).mono ?_
      rintro e w2 ⟨v, rfl, hsl, hab, hb4⟩
      have HG := Lib.hid (And.intro hsl (And.intro (hab.mono hb3.size) (bt hb3 hb4)))
      clear hsl hab hb4 hb3 hb
      go_wp2_with fail
      go_ret2
      exact ⟨_, rfl, HG.out.1, HG.out.2.1, HG.out.2.2⟩
end Go.Proofs.Ytfnmaemeofkagaa
