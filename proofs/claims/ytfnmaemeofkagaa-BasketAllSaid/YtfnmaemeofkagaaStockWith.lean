/- The stock: asked, in, with; what is done by them. -/
import Derived.Test.YtfnmaemeofkagaaStockCheck
import Derived.Test.YtfnmaemeofkagaaStockClone
import Derived.RegionTactic
namespace Go.Proofs.Ytfnmaemeofkagaa
open Go.ChangeShapes Go.WideShapes Go.ChangeAt Go.RowKit
open StockP
set_option maxRecDepth 100000
/-- a stock, and an error, are what a call hands back -/
def GotL (g : List It × Int) (w : World) (e : Ending) (w' : World) : Prop := ∃ v, e = .returned (.tuple #[v, .int .i64 g.2]) ∧ IsSl encT 4 w' v g.1 ∧ Above w.heap.size v ∧ Below w.heap.size w w'
theorem okE_eq (l : List It) : (okE l == 0) = ok l := by unfold okE; cases ok l <;> rfl
theorem encT_sl {w : World} {base : Nat} {v : Value} {xs : List It} (h : w.ownsRow base 42 4 v xs.length (xs.flatMap encT)) : IsSl encT 4 w v xs :=
  Reads.of_owns encT_len rfl h
set_option maxHeartbeats 1000000 in
theorem asked_any (a : Option Addr) (cap : Nat) (xs : List It) (q : Int) (w : World) (hr : Reads encT 4 w a xs) (hl : xs.length ≤ maxLen) (hf : ∀ x, x ∈ xs → fitT x) :
    Calls Try.prog 44 #[.slice a xs.length cap, .int .i64 q] w fun e w' => e = .returned (.bool (askedB xs q)) ∧ Below w.heap.size w w' := by
  have C := Lib.hid (fun W h => check_any a cap xs W h hl hf)
  have HR := Lib.hid hr
  clear hr hf
  by_cases ho : ok xs = true
  · have he : okE xs = 0 := by unfold okE; rw [if_pos ho]
    rw [he] at C
    by_cases h1 : 1 ≤ q
    · by_cases h2 : q ≤ 1000000
      · have ha : askedB xs q = true := by unfold askedB; rw [ho]; simp; omega
        rw [ha]; clear ha ho he
        go_enter Try.func44, Try.ntmps44
        go_wp2_with fail
        refine (C.out _ HR.out).mono ?_
        rintro e w1 ⟨rfl, hb⟩
        go_wp2_with fail
        go_ret
        exact ⟨rfl, hb⟩
      · have ha : askedB xs q = false := by unfold askedB; rw [ho]; simp; omega
        have h2d : decide (q ≤ 1000000) = false := by simpa using h2
        rw [ha]; clear ha ho he
        go_enter Try.func44, Try.ntmps44
        go_wp2_with fail
        refine (C.out _ HR.out).mono ?_
        rintro e w1 ⟨rfl, hb⟩
        go_wp2_with fail
        go_ret
        exact ⟨rfl, hb⟩
    · have ha : askedB xs q = false := by unfold askedB; rw [ho]; simp; omega
      have h1d : decide (1 ≤ q) = false := by simpa using h1
      rw [ha]; clear ha ho he
      go_enter Try.func44, Try.ntmps44
      go_wp2_with fail
      refine (C.out _ HR.out).mono ?_
      rintro e w1 ⟨rfl, hb⟩
      go_wp2_with fail
      go_ret
      exact ⟨rfl, hb⟩
  · have he : okE xs = 2 := by unfold okE; rw [if_neg ho]
    rw [he] at C
    have ha : askedB xs q = false := by unfold askedB; simp [ho]
    rw [ha]; clear ha ho he
    go_enter Try.func44, Try.ntmps44
    go_wp2_with fail
    refine (C.out _ HR.out).mono ?_
    rintro e w1 ⟨rfl, hb⟩
    go_wp2_with fail
    go_ret
    exact ⟨rfl, hb⟩
/-- what an own row's element becomes -/
theorem flat_set {α : Type} (enc : α → List Value) (xs : List α) (k : Nat) (hk : k < xs.length) (x : α) (he : ∀ y, (enc y).length = 4) : ((((xs.flatMap enc).set (k * 4) ((enc x)[0]?.getD undef)).set (k * 4 + 1) ((enc x)[1]?.getD undef)).set (k * 4 + 2) ((enc x)[2]?.getD undef)).set (k * 4 + 3) ((enc x)[3]?.getD undef) = (xs.set k x).flatMap enc := by
  induction xs generalizing k with
  | nil => simp at hk
  | cons y xs ih =>
    have h4 := he y
    have h4x := he x
    match hy : enc y, h4, hx : enc x, h4x with
    | [y0, y1, y2, y3], _, [x0, x1, x2, x3], _ =>
      cases k with
      | zero => simp [List.flatMap_cons, hy, hx]
      | succ k =>
        have e0 : (k + 1) * 4 = 4 + k * 4 := by omega
        have ih' := ih k (by simpa using hk)
        rw [hx] at ih'
        rw [e0, List.set_cons_succ, List.flatMap_cons, List.flatMap_cons, ← ih']
        simp only [hy]
        rw [List.set_append_right _ _ (by simp), List.set_append_right _ _ (by simp; omega), List.set_append_right _ _ (by simp; omega), List.set_append_right _ _ (by simp; omega)]
        simp only [List.length_cons, List.length_nil]
        congr 5 <;> omega
set_option maxHeartbeats 4000000 in
theorem with_any (F : Nat) (n : Int) (g : It → It × Int) (a : Option Addr) (cap : Nat) (xs : List It) (id q : Int) (w : World) (hr : Reads encT 4 w a xs) (hl : xs.length ≤ maxLen) (hf : ∀ x, x ∈ xs → fitT x)
    (hF : ∀ (args : Array Value) (W : World), (callFunc F args).run Try.prog W = .ok (.enter F args) W)
    (hdo : ∀ x, may x = true → ∀ W, Calls Try.prog F #[.int .i64 n, itv x.id x.free x.held x.gone] W fun e w' => e = .returned (.tuple #[itv (g x).1.id (g x).1.free (g x).1.held (g x).1.gone, .int .i64 (g x).2]) ∧ Below W.heap.size W w') :
    Calls Try.prog 35 #[.slice a xs.length cap, .int .i64 id, .int .i64 q, .func (.func F) #[.int .i64 n] #[]] w (GotL (withP g xs id q) w) := by
  have A := Lib.hid (fun W h => asked_any a cap xs q W h hl hf)
  have HR := Lib.hid hr
  clear hr
  have hnil : ∀ (W : World) (e : Int), Below w.heap.size w W → GotL ([], e) w (.returned (.tuple #[.slice none 0 0, .int .i64 e])) W := fun W e h => ⟨_, rfl, IsSl.nil _ _ _, Above.nil _, h⟩
  by_cases ha : askedB xs q = true
  · have T := Lib.hid (fun W h => at_any a cap xs id W h hl)
    by_cases hp : place (fun x => x.id == id) xs < xs.length
    · have hi : idx (fun x => x.id == id) xs = (place (fun x => x.id == id) xs : Int) := by unfold idx; rw [if_pos hp]
      have hmay : may xs[place (fun x => x.id == id) xs] = true := by
        unfold askedB ok at ha
        simp at ha
        exact okFrom_may ha.1.2 _ (List.getElem_mem hp)
      have hlen : xs.length ≤ 20 := by
        unfold askedB ok at ha; simp at ha; exact ha.1.1
      have D := Lib.hid (hdo _ hmay)
      have hw : withP g xs id q = if (g xs[place (fun x => x.id == id) xs]).2 = 0 then (xs.set (place (fun x => x.id == id) xs) (g xs[place (fun x => x.id == id) xs]).1, 0) else ([], (g xs[place (fun x => x.id == id) xs]).2) := by
        unfold withP; rw [if_pos ha, dif_pos hp]
      rw [hw]
      rw [ha] at A
      rw [hi] at T
      clear hw hmay hi ha hf hdo
      generalize place (fun x => x.id == id) xs = k at *
      obtain ⟨b, off, rfl, hbl, c0, c1, c2, c3⟩ := HR.out.item k hp
      generalize hxe : xs[k] = x at c0 c1 c2 c3 D
      obtain ⟨i1, i2, i3, i4⟩ := x
      simp only at c0 c1 c2 c3 D
      clear hxe
      generalize g ⟨i1, i2, i3, i4⟩ = r at D ⊢
      obtain ⟨⟨r1, r2, r3, r4⟩, re⟩ := r
      simp only at D ⊢
      have hkm : (k : Int) ≤ 20 := by omega
      have hkl : (k : Int) < (xs.length : Int) := by omega
      by_cases hre : re = 0
      · subst hre
        rw [if_pos rfl]
        have CL := Lib.hid (fun W h => clone_any (some ⟨b, off, none⟩) cap xs W h (by omega))
        go_enter Try.func35, Try.ntmps35
        go_wp2_with fail
        refine (A.out _ HR.out).mono ?_
        rintro e w1 ⟨rfl, hb⟩
        go_wp2_with fail
        refine (T.out _ (HR.out.below hb)).mono ?_
        rintro e w2 ⟨rfl, hb2⟩
        replace hb := bt hb hb2
        clear hb2
        have e0 := (hb.cell (p := ⟨b, off + k * 4, none⟩) hbl).trans c0
        have e1 := (hb.cell (p := ⟨b, off + k * 4 + 1, none⟩) hbl).trans c1
        have e2 := (hb.cell (p := ⟨b, off + k * 4 + 2, none⟩) hbl).trans c2
        have e3 := (hb.cell (p := ⟨b, off + k * 4 + 3, none⟩) hbl).trans c3
        clear c0 c1 c2 c3
        go_wp2_with fail
        refine (D.out _).mono ?_
        rintro e w3 ⟨rfl, hb2⟩
        replace hb := bt hb hb2
        clear hb2 e0 e1 e2 e3
        go_wp2_with fail
        have hbw : Below w.heap.size w (w3.alloc (.cells #[.int .i64 r1, .int .i64 r2, .int .i64 r3, .int .i64 r4] 42)) := hb.alloc hb.size _
        have BX := one_item w3 (.int .i64 r1) (.int .i64 r2) (.int .i64 r3) (.int .i64 r4) 42
        have hws := hb.size
        have hsz := BX.size
        generalize w3.alloc (.cells #[.int .i64 r1, .int .i64 r2, .int .i64 r3, .int .i64 r4] 42) = W0 at *
        refine (CL.out _ (HR.out.below hbw)).mono ?_
        rintro e w4 ⟨v, rfl, hown, hb4⟩
        obtain ⟨hs, x0, x1, x2, x3⟩ := BX.below hb4
        replace hbw := bt hbw hb4
        clear hb4
        rcases hown.2 with ⟨rfl, h0⟩ | ⟨gg, cp, cur, rfl, hgb, hgc, hnc, hcm, hcs, htk⟩
        · exfalso; omega
        · have HO := Lib.hid hown
          have hln := hown.1
          clear hown hgc hcs htk
          have zc : ∀ j, j < 4 → ∃ u, w4.cell? ⟨gg, k * 4 + j, none⟩ = some u := fun j hj => ⟨_, (HO.out.cellAt (k * 4 + j) (by omega)).trans (List.getElem?_eq_getElem (by rw [hln]; omega))⟩
          obtain ⟨u0, z0⟩ := zc 0 (by omega)
          obtain ⟨u1, z1⟩ := zc 1 (by omega)
          obtain ⟨u2, z2⟩ := zc 2 (by omega)
          obtain ⟨u3, z3⟩ := zc 3 (by omega)
          rw [Nat.add_zero] at z0
          have fz : ∀ j, w4.frozen? ⟨gg, j, none⟩ = false := fun j => HO.out.frozenAt j
          clear zc hln
          go_wp2_with fail
          have hst := ((((HO.out.stored (k * 4) (.int .i64 r1)).1.stored (k * 4 + 1) (.int .i64 r2)).1.stored (k * 4 + 2) (.int .i64 r3)).1.stored (k * 4 + 3) (.int .i64 r4)).1
          have hfs := flat_set encT xs k hp ⟨r1, r2, r3, r4⟩ encT_len
          replace hfs : ((((xs.flatMap encT).set (k * 4) (.int .i64 r1)).set (k * 4 + 1) (.int .i64 r2)).set (k * 4 + 2) (.int .i64 r3)).set (k * 4 + 3) (.int .i64 r4) = (xs.set k ⟨r1, r2, r3, r4⟩).flatMap encT := hfs
          rw [hfs] at hst
          have hsl := encT_sl (xs := xs.set k ⟨r1, r2, r3, r4⟩) (by rw [List.length_set]; exact hst)
          have hbf := (((hbw.setCell (p := ⟨gg, k * 4, none⟩) (by simp only; omega) (.int .i64 r1)).setCell (p := ⟨gg, k * 4 + 1, none⟩) (by simp only; omega) (.int .i64 r2)).setCell (p := ⟨gg, k * 4 + 2, none⟩) (by simp only; omega) (.int .i64 r3)).setCell (p := ⟨gg, k * 4 + 3, none⟩) (by simp only; omega) (.int .i64 r4)
          go_ret2
          exact ⟨_, rfl, hsl, (Above.owns hst).mono (by omega), hbf⟩
      · rw [if_neg hre]
        have hreb : (re != 0) = true := by simpa using hre
        go_enter Try.func35, Try.ntmps35
        go_wp2_with fail
        refine (A.out _ HR.out).mono ?_
        rintro e w1 ⟨rfl, hb⟩
        go_wp2_with fail
        refine (T.out _ (HR.out.below hb)).mono ?_
        rintro e w2 ⟨rfl, hb2⟩
        replace hb := bt hb hb2
        clear hb2
        have e0 := (hb.cell (p := ⟨b, off + k * 4, none⟩) hbl).trans c0
        have e1 := (hb.cell (p := ⟨b, off + k * 4 + 1, none⟩) hbl).trans c1
        have e2 := (hb.cell (p := ⟨b, off + k * 4 + 2, none⟩) hbl).trans c2
        have e3 := (hb.cell (p := ⟨b, off + k * 4 + 3, none⟩) hbl).trans c3
        clear c0 c1 c2 c3
        go_wp2_with fail
        refine (D.out _).mono ?_
        rintro e w3 ⟨rfl, hb2⟩
        replace hb := bt hb hb2
        clear hb2 e0 e1 e2 e3
        go_wp2_with fail
        go_ret2
        exact hnil _ _ (hb.alloc hb.size _)
    · have hi : idx (fun x => x.id == id) xs = -1 := by unfold idx; rw [if_neg hp]
      have hw : withP g xs id q = ([], 40) := by unfold withP; rw [if_pos ha, dif_neg hp]
      rw [hw]
      rw [ha] at A
      rw [hi] at T
      have HN := Lib.hid hnil
      clear hw hi ha hp hf hdo hnil
      go_enter Try.func35, Try.ntmps35
      go_wp2_with fail
      refine (A.out _ HR.out).mono ?_
      rintro e w1 ⟨rfl, hb⟩
      go_wp2_with fail
      refine (T.out _ (HR.out.below hb)).mono ?_
      rintro e w2 ⟨rfl, hb2⟩
      replace hb := bt hb hb2
      go_wp2_with fail
      go_ret2
      exact HN.out _ _ hb
  · have ha' : askedB xs q = false := by simpa using ha
    have hw : withP g xs id q = ([], 2) := by unfold withP; rw [if_neg ha]
    rw [hw]
    rw [ha'] at A
    have HN := Lib.hid hnil
    clear hw ha ha' hf hdo hnil
    go_enter Try.func35, Try.ntmps35
    go_wp2_with fail
    refine (A.out _ HR.out).mono ?_
    rintro e w1 ⟨rfl, hb⟩
    go_wp2_with fail
    go_ret2
    exact HN.out _ _ hb
end Go.Proofs.Ytfnmaemeofkagaa
