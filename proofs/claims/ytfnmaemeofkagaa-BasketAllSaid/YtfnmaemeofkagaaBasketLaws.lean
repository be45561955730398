/- The basket: awake, BasketTells. -/
import Derived.Test.YtfnmaemeofkagaaBasketRef3
import Derived.Test.YtfnmaemeofkagaaBasketLawP3
namespace Go.Proofs.Ytfnmaemeofkagaa
open Go.ChangeShapes Go.WideShapes Go.ChangeAt Go.RowKit
open StockP
set_option maxRecDepth 100000
theorem reads_lit {α : Type} (enc : α → List Value) (sz : Nat) (hz : ∀ x, (enc x).length = sz) (w : World) (T : TypeId) (xs : List α) (cs : Array Value) (h : cs.toList = xs.flatMap enc) : Reads enc sz (w.alloc (.cells cs T)) (some ⟨w.heap.size, 0, none⟩) xs := by
  intro i hi
  refine ⟨w.heap.size, 0, rfl, by simp, fun j hj => ?_⟩
  rw [Nat.zero_add, World.cell?_alloc_new, ← Array.getElem?_toList, h]
  exact flat_get enc sz hz xs i hi j hj
abbrev stk : List It := [⟨1, 5, 0, 0⟩, ⟨2, 2, 0, 0⟩]
abbrev lnA : List Ln := [⟨1, 3⟩, ⟨2, 3⟩]
abbrev lnB : List Ln := [⟨1, 3⟩, ⟨2, 2⟩]
abbrev hel : List It := [⟨1, 2, 3, 0⟩, ⟨2, 0, 2, 0⟩]
theorem items_any (w : World) : Calls Try.prog 23 #[] w fun e w' => ∃ a, e = .returned (.slice a 2 2) ∧ Reads encT 4 w' a stk ∧ Below w.heap.size w w' := by
  go_enter Try.func23, Try.ntmps23
  go_wp2_with fail
  go_ret
  exact ⟨_, rfl, reads_lit encT 4 encT_len w 42 stk #[.int .i64 1, .int .i64 5, .int .i64 0, .int .i64 0, .int .i64 2, .int .i64 2, .int .i64 0, .int .i64 0] rfl, (Below.refl _ _).alloc (Nat.le_refl _) _⟩
instance (x : It) : Decidable (fitT x) := by unfold fitT; infer_instance
instance (x : Ln) : Decidable (fitL x) := by unfold fitL; infer_instance
theorem fitD (l : List It) (h : (l.all fun x => decide (fitT x)) = true) : ∀ x, x ∈ l → fitT x := fun x hx => by simpa using List.all_eq_true.1 h x hx
theorem fitLD (l : List Ln) (h : (l.all fun x => decide (fitL x)) = true) : ∀ x, x ∈ l → fitL x := fun x hx => by simpa using List.all_eq_true.1 h x hx
theorem cap2 {n : Nat} (h : n = 2) : n ≤ 2 ∧ 2 ≤ maxLen := by subst h; exact ⟨Nat.le_refl _, by decide⟩
theorem len2 {n : Nat} (h : n = 2) : n ≤ maxLen := by subst h; decide
set_option maxHeartbeats 8000000 in
theorem awake_any (w : World) : Calls Try.prog 6 #[] w fun e w' => e = .returned (.bool true) ∧ Below w.heap.size w w' := by
  have hb : Below w.heap.size w w := Below.refl _ _
  go_enter Try.func6, Try.ntmps6
  go_wp2_with fail
  have hbA : Below w.heap.size w (w.alloc (.cells #[.int .i64 1, .int .i64 3, .int .i64 2, .int .i64 3] 40)) := (Below.refl _ _).alloc (Nat.le_refl _) _
  have HLA := Lib.hid (reads_lit encL 2 encL_len w 40 lnA #[.int .i64 1, .int .i64 3, .int .i64 2, .int .i64 3] rfl)
  have HLAB : Hid (w.heap.size = w.heap.size) := rfl
  replace hb := bt hb hbA
  generalize hg1 : w.alloc (.cells #[.int .i64 1, .int .i64 3, .int .i64 2, .int .i64 3] 40) = w1 at *
  clear hg1 hbA HLAB
  refine (items_any _).mono ?_
  rintro e w2 ⟨a1, rfl, hr1, hb2⟩
  replace HLA := Lib.hid (HLA.out.below hb2)
  replace hb := bt hb hb2
  have HI := Lib.hid hr1
  clear hr1
  clear hb2
  go_wp2_with fail
  refine ((holdB_any _ 2 stk _ 2 lnA _ HI.out (cap2 rfl) (fitD _ rfl) HLA.out (len2 rfl) (fitLD _ rfl))).mono ?_
  rintro e w3 ⟨v1, rfl, hsl1, hb2⟩
  clear HI
  replace HLA := Lib.hid (HLA.out.below hb2)
  replace hb := bt hb hb2
  clear hb2
  go_wp2_with fail
  clear hsl1
  have hbA : Below w3.heap.size w3 (w3.alloc (.cells #[.int .i64 1, .int .i64 3, .int .i64 2, .int .i64 2] 40)) := (Below.refl _ _).alloc (Nat.le_refl _) _
  have HLB := Lib.hid (reads_lit encL 2 encL_len w3 40 lnB #[.int .i64 1, .int .i64 3, .int .i64 2, .int .i64 2] rfl)
  have HLBB : Hid (w3.heap.size = w3.heap.size) := rfl
  replace HLA := Lib.hid (HLA.out.below hbA)
  replace hb := bt hb hbA
  generalize hg4 : w3.alloc (.cells #[.int .i64 1, .int .i64 3, .int .i64 2, .int .i64 2] 40) = w4 at *
  clear hg4 hbA HLBB
  refine (items_any _).mono ?_
  rintro e w5 ⟨a2, rfl, hr2, hb2⟩
  replace HLA := Lib.hid (HLA.out.below hb2)
  replace HLB := Lib.hid (HLB.out.below hb2)
  replace hb := bt hb hb2
  have HI := Lib.hid hr2
  clear hr2
  clear hb2
  go_wp2_with fail
  refine ((holdB_any _ 2 stk _ 2 lnB _ HI.out (cap2 rfl) (fitD _ rfl) HLB.out (len2 rfl) (fitLD _ rfl))).mono ?_
  rintro e w6 ⟨v2, rfl, ⟨a3, c3, rfl, hc3, hm3, hr3⟩, hb2⟩
  clear HI
  replace HLA := Lib.hid (HLA.out.below hb2)
  replace HLB := Lib.hid (HLB.out.below hb2)
  replace hb := bt hb hb2
  have HA := Lib.hid hr3
  clear hr3
  clear hb2
  go_wp2_with fail
  refine ((freeB_any _ c3 hel _ 2 lnB _ HA.out (And.intro hc3 hm3) (fitD _ rfl) HLB.out (len2 rfl) (fitLD _ rfl))).mono ?_
  rintro e w7 ⟨v3, rfl, ⟨a4, c4, rfl, hc4, hm4, hr4⟩, hb2⟩
  replace HLA := Lib.hid (HLA.out.below hb2)
  replace HLB := Lib.hid (HLB.out.below hb2)
  replace HA := Lib.hid (HA.out.below hb2)
  replace hb := bt hb hb2
  have HB := Lib.hid hr4
  clear hr4
  clear hb2
  go_wp2_with fail
  refine (items_any _).mono ?_
  rintro e w8 ⟨a5, rfl, hr5, hb2⟩
  replace HLA := Lib.hid (HLA.out.below hb2)
  replace HLB := Lib.hid (HLB.out.below hb2)
  replace HA := Lib.hid (HA.out.below hb2)
  replace HB := Lib.hid (HB.out.below hb2)
  replace hb := bt hb hb2
  have HI := Lib.hid hr5
  clear hr5
  clear hb2
  go_wp2_with fail
  refine ((lacks_any _ 2 stk _ 2 lnA _ HI.out (len2 rfl) (fitD _ rfl) HLA.out (len2 rfl) (fitLD _ rfl))).mono ?_
  rintro e w9 ⟨v4, rfl, ⟨a6, c6, rfl, hc6, hm6, hr6⟩, hb2⟩
  clear HI
  replace HLA := Lib.hid (HLA.out.below hb2)
  replace HLB := Lib.hid (HLB.out.below hb2)
  replace HA := Lib.hid (HA.out.below hb2)
  replace HB := Lib.hid (HB.out.below hb2)
  replace hb := bt hb hb2
  have HK := Lib.hid hr6
  clear hr6
  clear hb2
  go_wp2_with fail
  have hbA : Below w9.heap.size w9 (w9.alloc (.cells #[.int .i64 2, .int .i64 1] 40)) := (Below.refl _ _).alloc (Nat.le_refl _) _
  have HX := Lib.hid (reads_lit encL 2 encL_len w9 40 [(⟨2, 1⟩ : Ln)] #[.int .i64 2, .int .i64 1] rfl)
  have HXB : Hid (w9.heap.size = w9.heap.size) := rfl
  replace HLA := Lib.hid (HLA.out.below hbA)
  replace HLB := Lib.hid (HLB.out.below hbA)
  replace HA := Lib.hid (HA.out.below hbA)
  replace HB := Lib.hid (HB.out.below hbA)
  replace HK := Lib.hid (HK.out.below hbA)
  replace hb := bt hb hbA
  generalize hg10 : w9.alloc (.cells #[.int .i64 2, .int .i64 1] 40) = w10 at *
  clear hg10 hbA HXB
  refine ((sameLn_any _ _ c6 1 [(⟨2, 1⟩ : Ln)] [(⟨2, 1⟩ : Ln)] _ HK.out HX.out (by decide))).mono ?_
  rintro e w11 ⟨rfl, hb2⟩
  clear HX
  clear HK
  replace HLA := Lib.hid (HLA.out.below hb2)
  replace HLB := Lib.hid (HLB.out.below hb2)
  replace HA := Lib.hid (HA.out.below hb2)
  replace HB := Lib.hid (HB.out.below hb2)
  replace hb := bt hb hb2
  clear hb2
  go_wp2_with fail
  have hbA : Below w11.heap.size w11 (w11.alloc (.cells #[.int .i64 1, .int .i64 2, .int .i64 3, .int .i64 0, .int .i64 2, .int .i64 0, .int .i64 2, .int .i64 0] 42)) := (Below.refl _ _).alloc (Nat.le_refl _) _
  have HY := Lib.hid (reads_lit encT 4 encT_len w11 42 hel #[.int .i64 1, .int .i64 2, .int .i64 3, .int .i64 0, .int .i64 2, .int .i64 0, .int .i64 2, .int .i64 0] rfl)
  have HYB : Hid (w11.heap.size = w11.heap.size) := rfl
  replace HLA := Lib.hid (HLA.out.below hbA)
  replace HLB := Lib.hid (HLB.out.below hbA)
  replace HA := Lib.hid (HA.out.below hbA)
  replace HB := Lib.hid (HB.out.below hbA)
  replace hb := bt hb hbA
  generalize hg12 : w11.alloc (.cells #[.int .i64 1, .int .i64 2, .int .i64 3, .int .i64 0, .int .i64 2, .int .i64 0, .int .i64 2, .int .i64 0] 42) = w12 at *
  clear hg12 hbA HYB
  refine ((sameT_any _ _ c3 2 hel hel _ HA.out HY.out (by decide))).mono ?_
  rintro e w13 ⟨rfl, hb2⟩
  clear HY
  clear HA
  replace HLA := Lib.hid (HLA.out.below hb2)
  replace HLB := Lib.hid (HLB.out.below hb2)
  replace HB := Lib.hid (HB.out.below hb2)
  replace hb := bt hb hb2
  clear hb2
  go_wp2_with fail
  refine (items_any _).mono ?_
  rintro e w14 ⟨a7, rfl, hr7, hb2⟩
  replace HLA := Lib.hid (HLA.out.below hb2)
  replace HLB := Lib.hid (HLB.out.below hb2)
  replace HB := Lib.hid (HB.out.below hb2)
  replace hb := bt hb hb2
  have HI := Lib.hid hr7
  clear hr7
  clear hb2
  go_wp2_with fail
  refine ((sameT_any _ _ c4 2 stk stk _ HB.out HI.out (by decide))).mono ?_
  rintro e w15 ⟨rfl, hb2⟩
  clear HB
  clear HI
  replace HLA := Lib.hid (HLA.out.below hb2)
  replace HLB := Lib.hid (HLB.out.below hb2)
  replace hb := bt hb hb2
  clear hb2
  go_wp2_with fail
  refine (items_any _).mono ?_
  rintro e w16 ⟨a8, rfl, hr8, hb2⟩
  replace HLA := Lib.hid (HLA.out.below hb2)
  replace HLB := Lib.hid (HLB.out.below hb2)
  replace hb := bt hb hb2
  have HI := Lib.hid hr8
  clear hr8
  clear hb2
  go_wp2_with fail
  refine ((fits_any _ 2 stk _ 2 lnB _ HI.out (len2 rfl) (fitD _ rfl) HLB.out (len2 rfl) (fitLD _ rfl))).mono ?_
  rintro e w17 ⟨rfl, hb2⟩
  clear HI
  clear HLB
  replace HLA := Lib.hid (HLA.out.below hb2)
  replace hb := bt hb hb2
  clear hb2
  go_wp2_with fail
  refine (items_any _).mono ?_
  rintro e w18 ⟨a9, rfl, hr9, hb2⟩
  replace HLA := Lib.hid (HLA.out.below hb2)
  replace hb := bt hb hb2
  have HI := Lib.hid hr9
  clear hr9
  clear hb2
  go_wp2_with fail
  refine ((fits_any _ 2 stk _ 2 lnA _ HI.out (len2 rfl) (fitD _ rfl) HLA.out (len2 rfl) (fitLD _ rfl))).mono ?_
  rintro e w19 ⟨rfl, hb2⟩
  clear HI
  replace HLA := Lib.hid (HLA.out.below hb2)
  replace hb := bt hb hb2
  clear hb2
  go_wp2_with fail
  refine ((totalB_any _ 2 lnA _ HLA.out (len2 rfl) (fitLD _ rfl))).mono ?_
  rintro e w20 ⟨rfl, hb2⟩
  clear HLA
  replace hb := bt hb hb2
  clear hb2
  go_wp2_with fail
  refine ((checkL_any none 0 [] _ (Reads.nil _ _ _ _) (by decide) (fun x hx => by cases hx))).mono ?_
  rintro e w21 ⟨rfl, hb2⟩
  replace hb := bt hb hb2
  clear hb2
  go_wp2_with fail
  go_ret
  exact ⟨rfl, hb⟩
end Go.Proofs.Ytfnmaemeofkagaa
