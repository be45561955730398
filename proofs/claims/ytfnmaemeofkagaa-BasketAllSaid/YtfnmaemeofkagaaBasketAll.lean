/- The basket: Fits; what is done with all lines. -/
import Derived.Test.YtfnmaemeofkagaaBasketFits
namespace Go.Proofs.Ytfnmaemeofkagaa
open Go.ChangeShapes Go.WideShapes Go.ChangeAt Go.RowKit
open StockP
set_option maxRecDepth 100000
set_option maxHeartbeats 2000000 in
theorem fits_any (a : Option Addr) (cap : Nat) (xs : List It) (b : Option Addr) (capb : Nat) (ls : List Ln) (w : World) (hr : Reads encT 4 w a xs) (hl : xs.length ≤ maxLen) (hf : ∀ x, x ∈ xs → fitT x)
    (hr2 : Reads encL 2 w b ls) (hl2 : ls.length ≤ maxLen) (hf2 : ∀ x, x ∈ ls → fitL x) :
    Calls Try.prog 13 #[.slice a xs.length cap, .slice b ls.length capb] w fun e w' => e = .returned (.bool (fitsP xs ls)) ∧ Below w.heap.size w w' := by
  have M := Lib.hid (fun W h h2 => mayB_any a cap xs b capb ls W h hl hf h2 hl2 hf2)
  have L := Lib.hid (fun W h h2 => lacks_any a cap xs b capb ls W h hl hf h2 hl2 hf2)
  have hbox : Below w.heap.size w (w.alloc (.cells #[.slice a xs.length cap] 22)) := (Below.refl _ _).alloc (Nat.le_refl _) _
  have hbc : (w.alloc (.cells #[.slice a xs.length cap] 22)).cell? ⟨w.heap.size, 0, none⟩ = some (.slice a xs.length cap) := by simp
  have hbs : w.heap.size < (w.alloc (.cells #[.slice a xs.length cap] 22)).heap.size := by simp
  have HR := Lib.hid hr
  have HR2 := Lib.hid hr2
  clear hr hr2
  by_cases ho : ok xs = true ∧ okL ls = true
  · have hb1 : (ok xs && okL ls) = true := by rw [ho.1, ho.2]; rfl
    have hfp : fitsP xs ls = ((lacksP xs ls).isEmpty && !ls.any fun x => !(findT xs x.item).2) := by unfold fitsP; rw [hb1]; rfl
    rw [hb1] at M
    rw [hfp]
    clear hb1 hfp ho hf hf2
    by_cases hk : lacksP xs ls = []
    · rw [hk] at L ⊢
      have T := Lib.hid (fun g W h hg i q => there_any a cap xs g i q W h hl hg)
      have C := Lib.hid (fun g W h hp => containsL_any 28 g (fun x => !(findT xs x.item).2) b capb ls W h hl2 (fun _ _ => by rfl) hp)
      simp only [List.isEmpty_nil, Bool.true_and]
      generalize (ls.any fun x => !(findT xs x.item).2) = r at C ⊢
      clear hk hl hl2
      go_enter Try.func13, Try.ntmps13
      go_wp2_with fail
      generalize w.alloc (.cells #[.slice a xs.length cap] 22) = w0 at *
      refine (M.out _ (HR.out.below hbox) (HR2.out.below hbox)).mono ?_
      rintro e w1 ⟨rfl, hb2⟩
      have hbc1 := (hb2.cell (p := ⟨w.heap.size, 0, none⟩) hbs).trans hbc
      have hbs1 := Nat.lt_of_lt_of_le hbs hb2.size
      replace hbox := bt hbox hb2; clear hb2 hbc hbs
      go_wp2_with fail
      refine (L.out _ (HR.out.below hbox) (HR2.out.below hbox)).mono ?_
      rintro e w2 ⟨v, rfl, ⟨va, vc, rfl, _, _, _⟩, hb2⟩
      have hbc := (hb2.cell (p := ⟨w.heap.size, 0, none⟩) hbs1).trans hbc1
      have hbs := Nat.lt_of_lt_of_le hbs1 hb2.size
      replace hbox := bt hbox hb2; clear hb2 hbc1 hbs1
      go_wp2_with fail
      refine (C.out _ _ (HR2.out.below hbox) ?_).mono ?_
      · intro W hW x hx
        exact T.out ⟨w.heap.size, 0, none⟩ W (HR.out.below (bt hbox hW)) ((hW.cell (p := ⟨w.heap.size, 0, none⟩) hbs).trans hbc) _ _
      rintro e w3 ⟨rfl, hb2⟩
      replace hbox := bt hbox hb2; clear hb2
      go_wp2_with fail
      go_ret
      exact ⟨rfl, hbox⟩
    · have hke : (lacksP xs ls).isEmpty = false := by simpa using hk
      have hkl : ((((lacksP xs ls).length : Nat) : Int) == 0) = false := by
        rw [beq_eq_false_iff_ne]; intro h; apply hk; exact List.length_eq_zero_iff.1 (by omega)
      rw [hke, Bool.false_and]
      generalize lacksP xs ls = lk at L hkl
      clear hk hke hl hl2
      go_enter Try.func13, Try.ntmps13
      go_wp2_with fail
      generalize w.alloc (.cells #[.slice a xs.length cap] 22) = w0 at *
      refine (M.out _ (HR.out.below hbox) (HR2.out.below hbox)).mono ?_
      rintro e w1 ⟨rfl, hb2⟩
      have hbc1 := (hb2.cell (p := ⟨w.heap.size, 0, none⟩) hbs).trans hbc
      have hbs1 := Nat.lt_of_lt_of_le hbs hb2.size
      replace hbox := bt hbox hb2; clear hb2 hbc hbs
      go_wp2_with fail
      refine (L.out _ (HR.out.below hbox) (HR2.out.below hbox)).mono ?_
      rintro e w2 ⟨v, rfl, ⟨va, vc, rfl, _, _, _⟩, hb2⟩
      replace hbox := bt hbox hb2; clear hb2 hbc1 hbs1
      go_wp2_with fail
      go_ret
      exact ⟨rfl, hbox⟩
  · have hb1 : (ok xs && okL ls) = false := by
      cases h1 : ok xs <;> cases h2 : okL ls <;> simp_all
    have hfp : fitsP xs ls = false := by unfold fitsP; rw [hb1]; rfl
    rw [hb1] at M
    rw [hfp]
    clear hb1 hfp ho hf hf2 hl hl2 L
    go_enter Try.func13, Try.ntmps13
    go_wp2_with fail
    generalize w.alloc (.cells #[.slice a xs.length cap] 22) = w0 at *
    refine (M.out _ (HR.out.below hbox) (HR2.out.below hbox)).mono ?_
    rintro e w1 ⟨rfl, hb2⟩
    replace hbox := bt hbox hb2; clear hb2
    go_wp2_with fail
    go_ret
    exact ⟨rfl, hbox⟩
theorem doing_any (a : Option Addr) (n cap : Nat) (F : Nat) (w : World) :
    Calls Try.prog 37 #[.slice a n cap, .func (.func F) #[] #[]] w fun e w' => e = .returned (.func (.func 46) #[] #[.pointer (some ⟨w.heap.size + 1, 0, none⟩), .pointer (some ⟨w.heap.size, 0, none⟩)]) ∧
      (w.alloc (.cells #[.slice a n cap] 22)).alloc (.cells #[.func (.func F) #[] #[]] 38) = w' := by
  go_enter Try.func37, Try.ntmps37
  go_wp2_with fail
  go_ret
  exact ⟨rfl, rfl⟩
/-- a step's world: as it was, but for the new block, and the items -/
def Stepped (g : List It × Int) (bi : Nat) (w : World) (e : Ending) (w' : World) : Prop :=
  ∃ v w1, e = .returned (.tuple #[v, .int .i64 g.2]) ∧ IsSl encT 4 w' v g.1 ∧ Above w.heap.size v ∧ Below w.heap.size w w1 ∧ w' = if g.2 = 0 then w1.setCell ⟨bi, 0, none⟩ v else w1
set_option maxHeartbeats 2000000 in
theorem step_any (F : Nat) (f : List It → Int → Int → List It × Int) (a : Option Addr) (cap : Nat) (xs : List It) (bd bi : Nat) (i q : Int) (w : World)
    (hd : w.cell? ⟨bd, 0, none⟩ = some (.func (.func F) #[] #[])) (hi : w.cell? ⟨bi, 0, none⟩ = some (.slice a xs.length cap)) (hfz : w.frozen? ⟨bi, 0, none⟩ = false)
    (hF : ∀ (args : Array Value) (W : World), (callFunc F args).run Try.prog W = .ok (.enter F args) W)
    (hdo : ∀ W, Below w.heap.size w W → Calls Try.prog F #[.slice a xs.length cap, .int .i64 i, .int .i64 q] W (GotL (f xs i q) W)) :
    Calls Try.prog 46 #[lnv i q, .pointer (some ⟨bd, 0, none⟩), .pointer (some ⟨bi, 0, none⟩)] w (Stepped (f xs i q) bi w) := by
  have hld := World.block_lt_of_cell? w _ hd
  have hli := World.block_lt_of_cell? w _ hi
  simp only at hld hli
  have HD := Lib.hid hdo
  clear hdo
  generalize hr : f xs i q = r at HD ⊢
  obtain ⟨rl, re⟩ := r
  clear hr
  have hbox : Below w.heap.size w (w.alloc (.cells #[.int .i64 i, .int .i64 q] 40)) := (Below.refl _ _).alloc (Nat.le_refl _) _
  have hsz : (w.alloc (.cells #[.int .i64 i, .int .i64 q] 40)).heap.size = w.heap.size + 1 := by simp
  by_cases hre : re = 0
  · subst hre
    go_enter Try.func46, Try.ntmps46
    go_wp2_with fail
    refine (HD.out _ hbox).mono ?_
    rintro e w2 ⟨v, rfl, ⟨va, vc, rfl, v1, v2, v3⟩, hab, hb2⟩
    have hsl : IsSl encT 4 w2 (.slice va rl.length vc) rl := ⟨va, vc, rfl, v1, v2, v3⟩
    have hi2 := ((bt hbox hb2).cell (p := ⟨bi, 0, none⟩) hli).trans hi
    have hf2 := ((bt hbox hb2).frozen (p := ⟨bi, 0, none⟩) hli).trans hfz
    have HS := Lib.hid (And.intro hsl hab)
    have HB := Lib.hid (bt hbox hb2)
    clear hsl hab hb2 hd hi hfz hbox v1 v2 v3
    go_wp2_with fail
    go_ret2
    refine ⟨.slice va rl.length vc, w2, rfl, HS.out.1.set _ _ ?_, HS.out.2.mono (by omega), HB.out, by rw [if_pos rfl]⟩
    intro b off s n c hv
    have := HS.out.2 b off s n c hv
    simp only
    omega
  · have hreb : (re == 0) = false := by simpa using hre
    go_enter Try.func46, Try.ntmps46
    go_wp2_with fail
    refine (HD.out _ hbox).mono ?_
    rintro e w2 ⟨v, rfl, hsl, hab, hb2⟩
    have HS := Lib.hid (And.intro hsl hab)
    have HB := Lib.hid (bt hbox hb2)
    clear hsl hab hb2 hd hi hfz hbox
    go_wp2_with fail
    refine bodyPost_ret (v := .tuple #[v, .int .i64 re]) (by simp [results, Try.results46, go_sem]) rfl ?_
    exact ⟨v, w2, rfl, HS.out.1, HS.out.2.mono (by omega), HB.out, by rw [if_neg hre]⟩
/-- three results: a stock, a place, an error -/
def GotA (g : List It × Int × Int) (w : World) (e : Ending) (w' : World) : Prop := ∃ v, e = .returned (.tuple #[v, .int .i64 g.2.1, .int .i64 g.2.2]) ∧ IsSl encT 4 w' v g.1 ∧ Below w.heap.size w w'
theorem callsDo (args : Array Value) (W : World) : (callFunc 46 args).run Try.prog W = .ok (.enter 46 args) W := by rfl
set_option maxHeartbeats 4000000 in
theorem all_any (F : Nat) (f : List It → Int → Int → List It × Int) (a : Option Addr) (cap : Nat) (xs : List It) (b : Option Addr) (capb : Nat) (ls : List Ln) (w : World) (hr : Reads encT 4 w a xs) (hl : xs.length ≤ maxLen) (hcap : xs.length ≤ cap ∧ cap ≤ maxLen) (hf : ∀ x, x ∈ xs → fitT x)
    (hr2 : Reads encL 2 w b ls) (hl2 : ls.length ≤ maxLen) (hf2 : ∀ x, x ∈ ls → fitL x)
    (hF : ∀ (args : Array Value) (W : World), (callFunc F args).run Try.prog W = .ok (.enter F args) W)
    (hdo : ∀ a cap ys i q W, Reads encT 4 W a ys → ys.length ≤ maxLen → (∀ x, x ∈ ys → fitT x) → Calls Try.prog F #[.slice a ys.length cap, .int .i64 i, .int .i64 q] W (GotL (f ys i q) W))
    (hfit : ∀ ys i q, ys.length ≤ 20 → (∀ x, x ∈ ys → fitT x) → (f ys i q).1.length ≤ 20 ∧ ∀ x, x ∈ (f ys i q).1 → fitT x) :
    Calls Try.prog 24 #[.slice a xs.length cap, .slice b ls.length capb, .func (.func F) #[] #[]] w (GotA (allP f xs ls) w) := by
  have M := Lib.hid (fun W h h2 => mayB_any a cap xs b capb ls W h hl hf h2 hl2 hf2)
  have HR := Lib.hid hr
  have HR2 := Lib.hid hr2
  clear hr hr2
  by_cases ho : ok xs = true ∧ okL ls = true
  · have hlp : allP f xs ls = goesP f 0 xs ls := by unfold allP; rw [if_pos ho]
    rw [hlp]
    have hb1 : (ok xs && okL ls) = true := by rw [ho.1, ho.2]; rfl
    rw [hb1] at M
    have h5 : 1 ≤ ls.length ∧ ls.length ≤ 5 := by have h2 := ho.2; unfold okL at h2; simp at h2; omega
    have h20 : xs.length ≤ 20 := by have h2 := ho.1; unfold ok at h2; simp at h2; omega
    have HF := Lib.hid hf
    have ST := Lib.hid (fun bd bi a cap ys i q W hd hi hfz (hy : ys.length ≤ maxLen) (hfy : ∀ x, x ∈ ys → fitT x) (hrd : Reads encT 4 W a ys) => step_any F f a cap ys bd bi i q W hd hi hfz hF (fun W2 hb => hdo a cap ys i q W2 (hrd.below hb) hy hfy))
    have HFIT := Lib.hid hfit
    clear hlp hb1 ho hf hf2 hdo hfit hF hl
    go_enter Try.func24, Try.ntmps24
    go_wp2_with fail
    refine (M.out _ HR.out HR2.out).mono ?_
    rintro e w1 ⟨rfl, hb⟩
    go_wp2_with fail
    refine (doing_any a xs.length cap F w1).mono ?_
    rintro e w2 ⟨rfl, hw2⟩
    have hb2 : Below w.heap.size w w2 := by rw [← hw2]; exact (hb.alloc hb.size _).alloc (by have := hb.size; simp; omega) _
    have hci : w2.cell? ⟨w1.heap.size, 0, none⟩ = some (.slice a xs.length cap) := by
      rw [← hw2, World.cell?_alloc_lt _ _ _ (by simp)]; simp
    have hcd : w2.cell? ⟨w1.heap.size + 1, 0, none⟩ = some (.func (.func F) #[] #[]) := by
      rw [← hw2, show w1.heap.size + 1 = (w1.alloc (.cells #[.slice a xs.length cap] 22)).heap.size by simp]
      simp
    have hfz : w2.frozen? ⟨w1.heap.size, 0, none⟩ = false := by
      rw [← hw2, World.frozen?_alloc_past _ _ _ (by simp)]; simp
    have hwb := hb.size
    generalize hbi : w1.heap.size = bi at *
    have HB0 := Lib.hid (And.intro hb2 (And.intro hci (And.intro hcd hfz)))
    have hrw2 := Lib.hid (HR.out.below hb2)
    have hib : w.heap.size ≤ bi := hwb
    clear hw2 hci hcd hfz hb hb2 hwb M hbi
    go_wp2_with fail
    go_loopw [6, 10, 12, 13, 23] (fun v6 v10 v12 v13 v23 wr => ∃ (k : Nat) (cur : List It) (ca : Option Addr) (cc : Nat), k ≤ ls.length ∧ v23 = .int .i64 k ∧ (k = 0 ∨ v6 = .slice ca cur.length cc) ∧ goesP f 0 xs ls = goesP f k cur (ls.drop k) ∧
      wr.cell? ⟨bi, 0, none⟩ = some (.slice ca cur.length cc) ∧ wr.cell? ⟨bi + 1, 0, none⟩ = some (.func (.func F) #[] #[]) ∧ wr.frozen? ⟨bi, 0, none⟩ = false ∧ Reads encT 4 wr ca cur ∧ cur.length ≤ cc ∧ cc ≤ maxLen ∧ cur.length ≤ 20 ∧ (∀ x, x ∈ cur → fitT x) ∧ Below w.heap.size w wr) (fun _ _ _ _ v23 _ => ls.length - (intOf v23).toNat)
    case atStart => exact ⟨0, xs, a, cap, by omega, rfl, .inl rfl, rfl, HB0.out.2.1, HB0.out.2.2.1, HB0.out.2.2.2, hrw2.out, hcap.1, hcap.2, h20, HF.out, HB0.out.1⟩
    case round =>
      obtain ⟨k, cur, ca, cc, hk, rfl, h6, hg, hci, hcd, hfz, hrc, hc1, hc2, hc20, hfc, hbel⟩ := hrel
      have H6 := Lib.hid h6
      have HG := Lib.hid hg
      have HI := Lib.hid (And.intro hci (And.intro hcd hfz))
      have HRC := Lib.hid hrc
      have HFC := Lib.hid hfc
      clear h6 hg hci hcd hfz hrc hfc HB0
      by_cases hlt : k < ls.length
      · obtain ⟨bb, off, rfl, hbl, c0, c1⟩ := (HR2.out.below hbel).line k hlt
        have hdr : ls.drop k = ls[k] :: ls.drop (k + 1) := List.drop_eq_getElem_cons hlt
        have hg2 := HG.out
        rw [hdr] at hg2
        rw [goesP_cons] at hg2
        clear hdr
        generalize ls[k] = x at c0 c1 hg2
        obtain ⟨i, q⟩ := x
        simp only at c0 c1 hg2
        have hft := HFIT.out cur i q hc20 HFC.out
        have hbox : Below wr.heap.size wr (wr.alloc (.cells #[.int .i64 i, .int .i64 q] 40)) := (Below.refl _ _).alloc (Nat.le_refl _) _
        have hli := World.block_lt_of_cell? wr _ HI.out.1
        have hld := World.block_lt_of_cell? wr _ HI.out.2.1
        simp only at hli hld
        have S := Lib.hid (ST.out (bi + 1) bi ca cc cur i q _ ((hbox.cell (p := ⟨bi + 1, 0, none⟩) hld).trans HI.out.2.1) ((hbox.cell (p := ⟨bi, 0, none⟩) hli).trans HI.out.1) ((hbox.frozen (p := ⟨bi, 0, none⟩) hli).trans HI.out.2.2) (by unfold maxLen; omega) HFC.out (HRC.out.below hbox))
        generalize f cur i q = r at S hg2 hft
        obtain ⟨rl, re⟩ := r
        simp only at hg2 hft
        have HFT := Lib.hid hft
        have hsz : (wr.alloc (.cells #[.int .i64 i, .int .i64 q] 40)).heap.size = wr.heap.size + 1 := by simp
        clear hft
        by_cases hre : re = 0
        · subst hre
          rw [if_neg (by simp)] at hg2
          have HG2 := Lib.hid hg2
          clear hg2
          go_wp2_with fail
          refine S.out.mono ?_
          rintro e w3 ⟨v, w4, rfl, hsl, hab, hb4, hw⟩
          rw [if_pos rfl] at hw
          obtain ⟨va, vc, rfl, h1, h2, h3⟩ := hsl
          have hb5 := bt hbox hb4
          have g1 := (hb5.cell (p := ⟨bi + 1, 0, none⟩) hld).trans HI.out.2.1
          have g2 := (hb5.cell (p := ⟨bi, 0, none⟩) hli).trans HI.out.1
          have g3 := (hb5.frozen (p := ⟨bi, 0, none⟩) hli).trans HI.out.2.2
          have k1 : w3.cell? ⟨bi, 0, none⟩ = some (.slice va rl.length vc) := by rw [hw]; exact World.cell?_setCell_same _ _ _ g2
          have k2 : w3.cell? ⟨bi + 1, 0, none⟩ = some (.func (.func F) #[] #[]) := by
            rw [hw, World.cell?_setCell_other _ _ _ _ (by intro e; injection e with e1; omega)]; exact g1
          have k3 : w3.frozen? ⟨bi, 0, none⟩ = false := by rw [hw]; simpa using g3
          have k4 : Below w.heap.size w w3 := by rw [hw]; exact (bt hbel hb5).setCell (by simp only; omega) _
          have HK := Lib.hid (And.intro k1 (And.intro k2 (And.intro k3 (And.intro k4 h3))))
          clear hw g1 g2 g3 k1 k2 k3 k4 h3 hab hb4 hb5 hbox
          go_wp2_with fail
          refine ⟨⟨k + 1, rl, va, vc, by omega, by go_num, .inr rfl, ?_, HK.out.1, HK.out.2.1, HK.out.2.2.1, HK.out.2.2.2.2, h1, h2, HFT.out.1, HFT.out.2, HK.out.2.2.2.1⟩, by simp [intOf]; omega⟩
          rw [HG2.out]; congr 1
        · rw [if_pos hre] at hg2
          have hreb : (re != 0) = true := by simpa using hre
          have HG2 := Lib.hid hg2
          clear hg2
          go_wp2_with fail
          refine S.out.mono ?_
          rintro e w3 ⟨v, w4, rfl, hsl, hab, hb4, hw⟩
          rw [if_neg hre] at hw
          have hb5 : Below w.heap.size w w3 := by rw [hw]; exact bt (bt hbel hbox) hb4
          clear hsl hab hb4 hw hre
          go_wp2_with fail
          rw [HG2.out]
          go_ret3
          exact ⟨_, rfl, IsSl.nil _ _ _, hb5⟩
      · obtain rfl : k = ls.length := by omega
        have hg2 := HG.out
        rw [List.drop_length] at hg2
        rw [goesP_nil] at hg2
        rcases H6.out with h0 | rfl
        · exfalso; omega
        · have HG2 := Lib.hid hg2
          clear hg2
          go_wp2_with fail
          rw [HG2.out]
          go_ret3
          exact ⟨_, rfl, ⟨ca, cc, rfl, hc1, hc2, HRC.out⟩, hbel⟩
  · have hlp : allP f xs ls = ([], 0, 2) := by unfold allP; rw [if_neg ho]
    rw [hlp]
    have hb1 : (ok xs && okL ls) = false := by
      cases h1 : ok xs <;> cases h2 : okL ls <;> simp_all
    rw [hb1] at M
    clear hlp hb1 ho hf hf2 hl hl2 hdo hfit hF hcap
    go_enter Try.func24, Try.ntmps24
    go_wp2_with fail
    refine (M.out _ HR.out HR2.out).mono ?_
    rintro e w1 ⟨rfl, hb⟩
    go_wp2_with fail
    go_ret3
    exact ⟨_, rfl, IsSl.nil _ _ _, hb⟩
end Go.Proofs.Ytfnmaemeofkagaa
