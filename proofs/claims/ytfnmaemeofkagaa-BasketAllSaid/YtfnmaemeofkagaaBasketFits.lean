/- The basket: Lacks, Fits. -/
import Derived.Test.YtfnmaemeofkagaaBasketWalk
namespace Go.Proofs.Ytfnmaemeofkagaa
open Go.ChangeShapes Go.WideShapes Go.ChangeAt Go.RowKit
open StockP
set_option maxRecDepth 100000
theorem infoL : (Try.prog.info? 40).map (fun i => (i.zero, i.size, i.bytes)) = some (some (lnv 0 0), 2, 16) := by kernel_rfl
theorem encL_sl {w : World} {base : Nat} {v : Value} {xs : List Ln} (h : w.ownsRow base 40 2 v xs.length (xs.flatMap encL)) : IsSl encL 2 w v xs :=
  Reads.of_owns encL_len rfl h
set_option maxHeartbeats 2000000 in
theorem lacks_any (a : Option Addr) (cap : Nat) (xs : List It) (b : Option Addr) (capb : Nat) (ls : List Ln) (w : World) (hr : Reads encT 4 w a xs) (hl : xs.length ≤ maxLen) (hf : ∀ x, x ∈ xs → fitT x)
    (hr2 : Reads encL 2 w b ls) (hl2 : ls.length ≤ maxLen) (hf2 : ∀ x, x ∈ ls → fitL x) :
    Calls Try.prog 16 #[.slice a xs.length cap, .slice b ls.length capb] w fun e w' => ∃ v, e = .returned v ∧ IsSl encL 2 w' v (lacksP xs ls) ∧ Below w.heap.size w w' := by
  have M := Lib.hid (fun W h h2 => mayB_any a cap xs b capb ls W h hl hf h2 hl2 hf2)
  have HR := Lib.hid hr
  have HR2 := Lib.hid hr2
  clear hr hr2
  by_cases ho : ok xs = true ∧ okL ls = true
  · have hlp : lacksP xs ls = lacksF xs ls := by unfold lacksP; rw [if_pos ho]
    rw [hlp]
    have hb1 : (ok xs && okL ls) = true := by rw [ho.1, ho.2]; rfl
    rw [hb1] at M
    have HM : Hid (∀ x, x ∈ ls → 1 ≤ x.qty ∧ x.qty ≤ 1000000) := by
      have h2 := ho.2
      unfold okL at h2; simp at h2
      intro x hx; have := okLFrom_mem h2.2 x hx; omega
    have h5 : ls.length ≤ 5 := by have h2 := ho.2; unfold okL at h2; simp at h2; omega
    have HB := Lib.hid (fun id => findT_bd ho.1 id)
    have FD := Lib.hid (fun id W h => find_any a cap xs id W h hl)
    obtain ⟨i0, hi, hz0, hz1, hz2⟩ := info_parts infoL
    clear hlp hb1 ho hf hf2 hl
    go_enter Try.func16, Try.ntmps16
    go_wp2_with fail
    go_step3
    go_wp2_with fail
    refine (M.out _ HR.out HR2.out).mono ?_
    rintro e w1 ⟨rfl, hb⟩
    have HBEL := Lib.hid hb
    clear hb
    go_wp2_with fail
    go_step3
    go_wp2_with fail
    go_loopw [5, 16] (fun v5 v16 wr => ∃ (k : Nat) (acc : List Ln), k ≤ ls.length ∧ v16 = .int .i64 k ∧ acc = lacksF xs (ls.take k) ∧ wr.ownsRow w.heap.size 40 2 v5 acc.length (acc.flatMap encL) ∧ Below w.heap.size w wr) (fun _ v16 _ => ls.length - (intOf v16).toNat)
    case atStart => exact ⟨0, [], by omega, rfl, rfl, World.ownsRow_nil _ _ _ _, HBEL.out⟩
    case round =>
      obtain ⟨k, acc, hk, rfl, hacc, hown, hbel⟩ := hrel
      have HOWN := Lib.hid hown
      have HACC := Lib.hid hacc
      have hal : acc.length ≤ 5 := by have := lacksF_len xs (ls.take k); have h2 := List.length_take_le k ls; rw [hacc]; omega
      clear hown hacc HBEL
      by_cases hlt : k < ls.length
      · obtain ⟨bb, off, rfl, hbl, c0, c1⟩ := (HR2.out.below hbel).line k hlt
        have htk : ls.take (k + 1) = ls.take k ++ [ls[k]] := by simp
        have HS := Lib.hid ((congrArg (lacksF xs) htk).trans (lacksF_one xs (ls.take k) ls[k]))
        have hm := HM.out _ (List.getElem_mem hlt)
        clear htk
        generalize hx : ls[k] = x at c0 c1 HS hm
        clear hx
        obtain ⟨i, q⟩ := x
        simp only at c0 c1 HS hm
        obtain ⟨m1, m2⟩ := hm
        go_wp2_with fail
        have hbox : Below w.heap.size w (wr.alloc (.cells #[.int .i64 i, .int .i64 q] 40)) := hbel.alloc hbel.size _
        have BX := one_line wr (.int .i64 i) (.int .i64 q) 40
        have HO1 := Lib.hid (HOWN.out.alloc (.cells #[.int .i64 i, .int .i64 q] 40))
        have hsz1 : w.heap.size ≤ wr.heap.size := hbel.size
        generalize wr.alloc (.cells #[.int .i64 i, .int .i64 q] 40) = W0 at *
        refine (FD.out i _ (HR.out.below hbox)).mono ?_
        have hfb := HB.out i
        generalize findT xs i = ft at hfb HS ⊢
        obtain ⟨⟨f1, f2, f3, f4⟩, fb⟩ := ft
        simp only at hfb HS ⊢
        rintro e w2 ⟨rfl, hb2⟩
        obtain ⟨s0, x0, x1⟩ := BX.below hb2
        have HO2 : Hid (w2.ownsRow w.heap.size 40 2 _ acc.length (acc.flatMap encL)) := HO1.out.below' hb2
        replace hbox := bt hbox hb2; clear hb2 c0 c1 BX HO1 HOWN
        have hsz2 := hbox.size
        by_cases hge : q ≤ f2
        · have HS2 := Lib.hid (HS.out.trans (show _ = acc by rw [if_pos hge, List.append_nil]; exact HACC.out.symm))
          clear HS
          go_wp2_with fail
          exact ⟨⟨k + 1, acc, by omega, by go_num, HS2.out.symm, HO2.out.alloc _, hbox.alloc hbox.size _⟩, by simp [intOf]; omega⟩
        · have HS2 := Lib.hid (HS.out.trans (show _ = acc ++ [(⟨i, q - f2⟩ : Ln)] by rw [if_neg hge, HACC.out]))
          have hged : decide (q ≤ f2) = false := by simpa using hge
          have hlt2 : f2 < q := by omega
          clear HS hge
          go_wp2_with (at_builtin; refine wpList_append_own _ rfl _ _ 23 rfl w.heap.size 40 i0 (lnv 0 0) 2 16 Try.underlying23 hi hz0 hz1 hz2 rfl (by decide) _ _ _ rfl ((HO2.out.alloc _).alloc _) ⟨w2.heap.size + 1, 0, none⟩ 1 1 [.int .i64 i, .int .i64 (q - f2)] rfl rfl ?c1 ?c2 ?c3 ?c4 ?c5 ?_)
          case c1 => 
            have e1 : (w2.alloc (.cells #[.int .i64 f1, .int .i64 f2, .int .i64 f3, .int .i64 f4] 42)).heap.size = w2.heap.size + 1 := by simp
            rw [← e1]
            exact new_cells _ [.int .i64 i, .int .i64 (q - f2)] _
          case c2 => simp [Value.oneCell']
          case c3 => unfold maxLen; omega
          case c4 => omega
          case c5 => simp; omega
          intro v' w3 hown' hgrow _
          have hown2 : w3.ownsRow w.heap.size 40 2 v' (acc ++ [(⟨i, q - f2⟩ : Ln)]).length ((acc ++ [(⟨i, q - f2⟩ : Ln)]).flatMap encL) := by
            rw [List.length_append, List.flatMap_append]; exact hown'
          have hbel2 : Below w.heap.size w w3 := (((hbox.alloc hbox.size _).alloc (by simp; omega) _).grown hgrow (by simp; omega) (fun k hk => (HO2.out.lt k hk).1))
          have HOWN2 := Lib.hid hown2
          clear hown2 hown' hgrow
          go_wp2_with fail
          exact ⟨⟨k + 1, acc ++ [(⟨i, q - f2⟩ : Ln)], by omega, by go_num, HS2.out.symm, HOWN2.out, hbel2⟩, by simp [intOf]; omega⟩
      · obtain rfl : k = ls.length := by omega
        have hfin : acc = lacksF xs ls := by rw [HACC.out, List.take_length]
        subst hfin
        go_wp2_with fail
        rw [Exit.noGoto_ret]
        go_ret
        exact ⟨_, rfl, encL_sl HOWN.out, hbel⟩
  · have hlp : lacksP xs ls = [] := by unfold lacksP; rw [if_neg ho]
    rw [hlp]
    have hb1 : (ok xs && okL ls) = false := by
      cases h1 : ok xs <;> cases h2 : okL ls <;> simp_all
    rw [hb1] at M
    have HN := Lib.hid (fun W => IsSl.nil encL 2 W)
    clear hlp hb1 ho hf hf2 hl hl2
    go_enter Try.func16, Try.ntmps16
    go_wp2_with fail
    go_step3
    go_wp2_with fail
    refine (M.out _ HR.out HR2.out).mono ?_
    rintro e w1 ⟨rfl, hb⟩
    go_wp2_with fail
    rw [Exit.noGoto_ret]
    go_ret
    exact ⟨_, rfl, HN.out _, hb⟩
/-- the place, or below 0, of what is so -/
def placeL (p : Ln → Bool) : List Ln → Nat
  | [] => 0
  | x :: l => if p x then 0 else placeL p l + 1
def idxL (p : Ln → Bool) (l : List Ln) : Int := if placeL p l < l.length then (placeL p l : Int) else -1
theorem placeL_is (q : Ln → Bool) (l : List Ln) (k : Nat) (hk : k < l.length) (hb : ∀ j, (hj : j < l.length) → j < k → q l[j] = false) (h : q l[k] = true) : placeL q l = k := by
  induction l generalizing k with
  | nil => simp at hk
  | cons x l ih =>
    show (if q x then 0 else placeL q l + 1) = k
    cases k with
    | zero => rw [if_pos (by simpa using h)]
    | succ k =>
      have h0 := hb 0 (by simp) (by omega)
      rw [if_neg (by simp at h0; simp [h0])]
      rw [ih k (by simpa using hk) (fun j hj hjk => by have := hb (j + 1) (by simpa using hj) (by omega); simpa using this) (by simpa using h)]
theorem placeL_none (q : Ln → Bool) (l : List Ln) (hb : ∀ j, (hj : j < l.length) → q l[j] = false) : placeL q l = l.length := by
  induction l with
  | nil => rfl
  | cons x l ih =>
    show (if q x then 0 else placeL q l + 1) = _
    have h0 := hb 0 (by simp)
    rw [if_neg (by simp at h0; simp [h0])]
    rw [ih (fun j hj => by have := hb (j + 1) (by simpa using hj); simpa using this)]
    rfl
theorem idxL_any (q : Ln → Bool) (l : List Ln) : decide (0 ≤ idxL q l) = l.any q := by
  unfold idxL
  induction l with
  | nil => rfl
  | cons x l ih =>
    cases h : q x with
    | true => simp [placeL, h]
    | false =>
      have e : placeL q (x :: l) = placeL q l + 1 := by simp [placeL, h]
      rw [e, List.any_cons, h, Bool.false_or, ← ih]
      by_cases h2 : placeL q l < l.length
      · rw [if_pos (by simpa using h2), if_pos h2]; simp; omega
      · rw [if_neg (by simpa using h2), if_neg h2]
set_option maxHeartbeats 1000000 in
theorem indexL_any (F : Nat) (g : Value) (p : Ln → Bool) (a : Option Addr) (cap : Nat) (xs : List Ln) (w : World) (hr : Reads encL 2 w a xs) (hl : xs.length ≤ maxLen)
    (hF : ∀ (args : Array Value) (W : World), (callFunc F args).run Try.prog W = .ok (.enter F args) W)
    (hp : ∀ W, Below w.heap.size w W → ∀ x, x ∈ xs → Calls Try.prog F #[lnv x.item x.qty, g] W fun e w' => e = .returned (.bool (p x)) ∧ Below W.heap.size W w') :
    Calls Try.prog 42 #[.slice a xs.length cap, .func (.func F) #[] #[g]] w fun e w' => e = .returned (.int .i64 (idxL p xs)) ∧ Below w.heap.size w w' := by
  unfold maxLen at hl
  have HR := Lib.hid hr
  have HP0 := Lib.hid hp
  clear hr hp
  go_enter Try.func42, Try.ntmps42
  go_wp2_with fail
  go_loopw [8] (fun v8 wr => ∃ (k : Nat), k ≤ xs.length ∧ v8 = .int .i64 k ∧ (∀ j, (hj : j < xs.length) → j < k → p xs[j] = false) ∧ Below w.heap.size w wr) (fun v8 _ => xs.length - (intOf v8).toNat)
  case atStart => exact ⟨0, by omega, rfl, by intro j _ h; omega, Below.refl _ _⟩
  case round =>
    obtain ⟨k, hk, rfl, hb, hbel⟩ := hrel
    have HB := Lib.hid hb
    clear hb
    by_cases hlt : k < xs.length
    · obtain ⟨b, off, rfl, hbl, c0, c1⟩ := (HR.out.below hbel).line k hlt
      have HP := Lib.hid (placeL_is p xs k hlt HB.out)
      have C := Lib.hid (HP0.out wr hbel _ (List.getElem_mem hlt))
      generalize hx : xs[k] = x at c0 c1 HP C
      have HXK := Lib.hid hx
      clear hx
      obtain ⟨i, q⟩ := x
      simp only at c0 c1 C
      cases hpx : p ⟨i, q⟩ with
      | true =>
        rw [hpx] at C
        have hi : idxL p xs = (k : Int) := by
          unfold idxL; rw [HP.out hpx, if_pos hlt]
        have HI := Lib.hid hi
        clear hi hpx
        go_wp2_with fail
        refine C.out.mono ?_
        rintro e w2 ⟨rfl, hb2⟩
        have hbel2 := bt hbel hb2
        clear hb2
        go_wp2_with fail
        go_ret
        exact ⟨ret_int HI.out.symm, hbel2⟩
      | false =>
        rw [hpx] at C
        have HPX := Lib.hid hpx
        clear hpx
        go_wp2_with fail
        refine C.out.mono ?_
        rintro e w2 ⟨rfl, hb2⟩
        have hbel2 := bt hbel hb2
        clear hb2
        go_wp2_with fail
        refine ⟨⟨k + 1, by omega, by go_num, ?_, hbel2⟩, by simp [intOf]; omega⟩
        intro j hj hjk
        by_cases e : j = k
        · subst e; rw [HXK.out]; exact HPX.out
        · exact HB.out j hj (by omega)
    · obtain rfl : k = xs.length := by omega
      have hi : idxL p xs = -1 := by
        unfold idxL; rw [placeL_none _ xs (fun j hj => HB.out j hj hj), if_neg (by omega)]
      have HI := Lib.hid hi
      clear hi
      go_wp2_with fail
      go_ret
      exact ⟨ret_int HI.out.symm, hbel⟩
theorem containsL_any (F : Nat) (g : Value) (p : Ln → Bool) (a : Option Addr) (cap : Nat) (xs : List Ln) (w : World) (hr : Reads encL 2 w a xs) (hl : xs.length ≤ maxLen)
    (hF : ∀ (args : Array Value) (W : World), (callFunc F args).run Try.prog W = .ok (.enter F args) W)
    (hp : ∀ W, Below w.heap.size w W → ∀ x, x ∈ xs → Calls Try.prog F #[lnv x.item x.qty, g] W fun e w' => e = .returned (.bool (p x)) ∧ Below W.heap.size W w') :
    Calls Try.prog 31 #[.slice a xs.length cap, .func (.func F) #[] #[g]] w fun e w' => e = .returned (.bool (xs.any p)) ∧ Below w.heap.size w w' := by
  have C := Lib.hid (indexL_any F g p a cap xs w hr hl hF hp)
  have HE := Lib.hid (idxL_any p xs)
  clear hr hp hF
  generalize idxL p xs = n at *
  go_enter Try.func31, Try.ntmps31
  go_wp2_with fail
  refine C.out.mono ?_
  rintro e w2 ⟨rfl, hb2⟩
  go_wp2_with fail
  go_ret
  exact ⟨ret_bool HE.out, hb2⟩
set_option maxHeartbeats 1000000 in
theorem there_any (a : Option Addr) (cap : Nat) (xs : List It) (g : Addr) (i q : Int) (w : World) (hr : Reads encT 4 w a xs) (hl : xs.length ≤ maxLen) (hg : w.cell? g = some (.slice a xs.length cap)) :
    Calls Try.prog 28 #[lnv i q, .pointer (some g)] w fun e w' => e = .returned (.bool (!(findT xs i).2)) ∧ Below w.heap.size w w' := by
  have FD := Lib.hid (fun W h => find_any a cap xs i W h hl)
  have HR := Lib.hid hr
  have hlt := World.block_lt_of_cell? w _ hg
  have hgs := World.cell?_spot hg
  obtain ⟨gb, go, gs⟩ := g
  simp only at hgs hlt
  subst hgs
  clear hr
  generalize findT xs i = r at FD ⊢
  obtain ⟨⟨r1, r2, r3, r4⟩, rb⟩ := r
  simp only at FD ⊢
  go_enter Try.func28, Try.ntmps28
  have hbox : Below w.heap.size w (w.alloc (.cells #[.int .i64 i, .int .i64 q] 40)) := (Below.refl _ _).alloc (Nat.le_refl _) _
  go_wp2_with fail
  refine (FD.out _ (HR.out.below hbox)).mono ?_
  rintro e w2 ⟨rfl, hb2⟩
  replace hbox := bt hbox hb2; clear hb2
  go_wp2_with fail
  go_ret
  exact ⟨rfl, hbox.alloc hbox.size _⟩
end Go.Proofs.Ytfnmaemeofkagaa
