/- The basket: the plain law: what fits, what is freed again, what is added. -/
import Derived.Test.YtfnmaemeofkagaaBasketLawP
namespace Go.Proofs.Ytfnmaemeofkagaa.StockP
abbrev holdF (ys : List It) (i q : Int) : List It × Int := withP (holdG q) ys i q
abbrev freeF (ys : List It) (i q : Int) : List It × Int := withP (freeG q) ys i q
theorem okL_from {ls : List Ln} (h : okL ls = true) : okLFrom 0 ls = true := by unfold okL at h; simp at h; exact h.2
theorem lacks_nil (ys : List It) (ls : List Ln) : lacksF ys ls = [] ↔ ∀ l, l ∈ ls → l.qty ≤ (findT ys l.item).1.free := by
  induction ls with
  | nil => simp [lacksF]
  | cons l ls ih =>
    simp only [lacksF]
    split
    · rename_i h
      rw [ih]
      constructor
      · intro hh m hm
        cases hm with
        | head => exact h
        | tail _ hm => exact hh m hm
      · intro hh m hm; exact hh m (List.mem_cons_of_mem _ hm)
    · rename_i h
      constructor
      · intro hh; cases hh
      · intro hh; exact absurd (hh l List.mem_cons_self) h
theorem fits_can (xs : List It) (ls : List Ln) : fitsP xs ls = true ↔ ok xs = true ∧ okL ls = true ∧ ∀ l, l ∈ ls → can xs l := by
  unfold fitsP
  by_cases h1 : ok xs = true
  · by_cases h2 : okL ls = true
    · have hl : lacksP xs ls = lacksF xs ls := by unfold lacksP; rw [if_pos ⟨h1, h2⟩]
      rw [h1, h2, hl]
      simp only [Bool.true_and, true_and, Bool.and_eq_true, List.isEmpty_iff, Bool.not_eq_true', List.any_eq_false]
      rw [lacks_nil]
      constructor
      · rintro ⟨ha, hb⟩ l hl
        exact ⟨by have := hb l hl; simpa using this, ha l hl⟩
      · intro h
        exact ⟨fun l hl => (h l hl).2, fun l hl => by have := (h l hl).1; simp [this]⟩
    · simp [h2]
  · simp [h1]
theorem all_err (xs : List It) (ls : List Ln) : ((allP holdF xs ls).2.2 == 0) = fitsP xs ls := by
  rw [Bool.eq_iff_iff, fits_can, beq_iff_eq]
  unfold allP
  by_cases h : ok xs = true ∧ okL ls = true
  · rw [if_pos h]
    have hh := hold_all ls 0 0 xs h.1 (okL_from h.2)
    by_cases hc : ∀ l, l ∈ ls → can xs l
    · have := hh.1 hc
      constructor
      · intro _; exact ⟨h.1, h.2, hc⟩
      · intro _
        show (goesP (fun ys i q => withP (holdG q) ys i q) 0 xs ls).2.2 = 0
        rw [this]
    · have := hh.2 hc
      constructor
      · intro he; exact absurd he this.1
      · intro he; exact absurd he.2.2 hc
  · rw [if_neg h]
    constructor
    · intro he; simp at he
    · intro he; exact absurd ⟨he.1, he.2.1⟩ h
/-! ### freed again -/
def dn (i q : Int) (y : It) : It := if y.id = i then ⟨y.id, y.free + q, y.held - q, y.gone⟩ else y
theorem dn_id (i q : Int) (y : It) : (dn i q y).id = y.id := by unfold dn; split <;> rfl
theorem dn_mv (i q : Int) (y : It) : dn i q y = mv (-(if y.id = i then q else 0)) y := by
  unfold dn mv; split <;> simp <;> omega
theorem free_one {ys : List It} (h : ok ys = true) (l : Ln) (h1 : 1 ≤ l.qty) (h2 : l.qty ≤ 1000000) (hc : canF ys l) :
    withP (freeG l.qty) ys l.item l.qty = (ys.map (dn l.item l.qty), 0) ∧ ok (ys.map (dn l.item l.qty)) = true := by
  have ha := asked_mk h h1 h2
  unfold canF at hc
  unfold withP
  rw [if_pos ha]
  rw [findT_place] at hc
  by_cases hp : place (fun x => x.id == l.item) ys < ys.length
  · rw [dif_pos hp] at hc
    rw [dif_pos hp]
    have hm := may_bd (ok_may h _ (List.getElem_mem hp))
    have hs := set_map (ok_from h) l.item (fun y => (freeG l.qty y).1) hp
    simp only at hc
    have hz : (freeG l.qty ys[place (fun x => x.id == l.item) ys]).2 = 0 := by unfold freeG lentE; simp only; rw [if_neg (by omega)]
    rw [if_pos hz, hs]
    refine ⟨rfl, okd (by simpa using ok_len h) (ok_map' (fun y => dn_id _ _ y) ys 0 (ok_from h) fun y hy => ?_)⟩
    have hmy := ok_may h y hy
    unfold dn
    split
    · rename_i hyi
      have hx := uniq (ok_from h) hy (x := ys[place (fun x => x.id == l.item) ys]) (by rw [hyi, find_place, dif_pos hp])
      have hf : l.qty ≤ y.held := by rw [← hx]; exact hc.2
      have := may_bd hmy
      unfold may at hmy ⊢; simp at hmy ⊢; omega
    · exact hmy
  · rw [dif_neg hp] at hc; simp at hc
theorem free_all (ls : List Ln) : ∀ (p k : Int) (ys : List It), ok ys = true → okLFrom p ls = true → (∀ l, l ∈ ls → canF ys l) →
    goesP (fun ys i q => withP (freeG q) ys i q) k ys ls = (ys.map (fun y => mv (-sumOf ls y.id) y), k + ls.length, 0) := by
  induction ls with
  | nil =>
    intro p k ys h _ _
    rw [goesP_nil]
    have : (ys.map fun y => mv (-sumOf [] y.id) y) = ys := by
      rw [List.map_congr_left (g := id) (fun y _ => by show mv (-0) y = y; exact mv_zero y)]; simp
    rw [this]; simp
  | cons l ls ih =>
    intro p k ys h hl hc
    have hmem := okLFrom_mem hl
    simp only [okLFrom, Bool.and_eq_true, decide_eq_true_eq] at hl
    obtain ⟨e1, e2⟩ := free_one h l hl.1.2.2.1 hl.1.2.2.2 (hc l List.mem_cons_self)
    rw [goesP_cons]
    simp only [e1, ne_eq, not_true_eq_false, if_false]
    rw [ih l.item (k + 1) _ e2 hl.2 (fun m hm => by
      have hne : l.item ≠ m.item := by have := okLFrom_mem hl.2 m hm; omega
      have := hc m (List.mem_cons_of_mem _ hm)
      unfold canF at this ⊢
      rw [findT_map (dn_id _ _) ys m.item (fun y hy => by unfold dn; rw [if_neg (by omega)])]
      exact this), List.map_map]
    have hm : (ys.map ((fun y => mv (-sumOf ls y.id) y) ∘ dn l.item l.qty)) = ys.map fun y => mv (-sumOf (l :: ls) y.id) y := by
      apply List.map_congr_left
      intro y _
      show mv (-sumOf ls (dn l.item l.qty y).id) (dn l.item l.qty y) = _
      rw [dn_id, dn_mv, mv_mv]
      congr 1
      show _ = -((if y.id = l.item then l.qty else 0) + sumOf ls y.id)
      omega
    rw [hm]
    simp only [List.length_cons, Prod.mk.injEq, true_and, and_true]
    push_cast; omega
theorem sumOf_bd (ls : List Ln) (i : Int) (h : ∀ l, l ∈ ls → 1 ≤ l.qty) : 0 ≤ sumOf ls i := by
  induction ls with
  | nil => exact Int.le_refl _
  | cons l ls ih =>
    have h1 := h l List.mem_cons_self
    have h2 := ih fun m hm => h m (List.mem_cons_of_mem _ hm)
    unfold sumOf
    split <;> omega
theorem sumOf_mem {ls : List Ln} (h : ∀ l, l ∈ ls → 1 ≤ l.qty) {l : Ln} (hl : l ∈ ls) : l.qty ≤ sumOf ls l.item := by
  induction ls with
  | nil => cases hl
  | cons m ls ih =>
    have h3 : ∀ l, l ∈ ls → 1 ≤ l.qty := fun m hm => h m (List.mem_cons_of_mem _ hm)
    unfold sumOf
    cases hl with
    | head => rw [if_pos rfl]; have := sumOf_bd ls l.item h3; omega
    | tail _ hl => have := ih h3 hl; have := h m List.mem_cons_self; split <;> omega
theorem sumOf_later {ls : List Ln} : ∀ {p : Int}, okLFrom p ls = true → ∀ i, i ≤ p → sumOf ls i = 0 := by
  induction ls with
  | nil => intro p _ i _; rfl
  | cons l ls ih =>
    intro p h i hi
    simp only [okLFrom, Bool.and_eq_true, decide_eq_true_eq] at h
    unfold sumOf
    rw [if_neg (by omega), ih h.2 i (by omega)]; rfl
/-- a line's item is asked for by that line alone -/
theorem sumOf_one {ls : List Ln} : ∀ {p : Int}, okLFrom p ls = true → ∀ l, l ∈ ls → sumOf ls l.item = l.qty := by
  induction ls with
  | nil => intro p _ l hl; cases hl
  | cons m ls ih =>
    intro p h l hl
    have hmem := okLFrom_mem h
    simp only [okLFrom, Bool.and_eq_true, decide_eq_true_eq] at h
    unfold sumOf
    cases hl with
    | head => rw [if_pos rfl, sumOf_later h.2 _ (Int.le_refl _)]; omega
    | tail _ hl =>
      have := okLFrom_mem h.2 l hl
      rw [if_neg (by omega), ih h.2 l hl]; omega
theorem sumOf_none {ls : List Ln} {i : Int} (h : ∀ l, l ∈ ls → l.item ≠ i) : sumOf ls i = 0 := by
  induction ls with
  | nil => rfl
  | cons m ls ih =>
    have := h m List.mem_cons_self
    unfold sumOf
    rw [if_neg (fun e => this e.symm), ih fun l hl => h l (List.mem_cons_of_mem _ hl)]; rfl
theorem ok_held {xs : List It} {ls : List Ln} (h : ok xs = true) (hl : okL ls = true) (hc : ∀ l, l ∈ ls → can xs l) : ok (xs.map fun y => mv (sumOf ls y.id) y) = true := by
  have hlf := okL_from hl
  refine okd (by simpa using ok_len h) (ok_map' (f := fun y => mv (sumOf ls y.id) y) (fun y => rfl) xs 0 (ok_from h) fun y hy => ?_)
  have hmy := ok_may h y hy
  have hb := may_bd hmy
  have h0 := sumOf_bd ls y.id fun l hl => (okLFrom_mem hlf l hl).2.2.1
  have hle : sumOf ls y.id ≤ y.free := by
    by_cases hex : ∃ l, l ∈ ls ∧ l.item = y.id
    · obtain ⟨l, hl1, hl2⟩ := hex
      have h1 := sumOf_one hlf l hl1
      have h2 := (hc l hl1).2
      have hf := (hc l hl1).1
      unfold findT at h2 hf
      rw [hl2] at h2 hf h1
      cases hfd : find xs y.id with
      | none => rw [hfd] at hf; simp at hf
      | some x =>
        have := uniq (ok_from h) hy hfd
        subst this
        rw [hfd] at h2; simp at h2; omega
    · rw [sumOf_none fun l hl e => hex ⟨l, hl, e⟩]; omega
  unfold may mv at *; simp at *; omega
/-- what was held is freed, and all is as it was -/
theorem back_same {xs : List It} {ls : List Ln} (h : (allP holdF xs ls).2.2 = 0) : allP freeF (allP holdF xs ls).1 ls = (xs, (ls.length : Int), 0) := by
  have hf : fitsP xs ls = true := by rw [← all_err, h]; rfl
  obtain ⟨h1, h2, hc⟩ := (fits_can xs ls).1 hf
  have hh := (hold_all ls 0 0 xs h1 (okL_from h2)).1 hc
  have e1 : allP holdF xs ls = (xs.map (fun y => mv (sumOf ls y.id) y), 0 + (ls.length : Int), 0) := by unfold allP; rw [if_pos ⟨h1, h2⟩]; exact hh
  rw [e1]
  have hok := ok_held h1 h2 hc
  unfold allP
  rw [if_pos ⟨hok, h2⟩]
  have hmem := okLFrom_mem (okL_from h2)
  have hfr := free_all ls 0 0 _ hok (okL_from h2) (fun l hl => by
    have hcl := hc l hl
    unfold can findT at hcl
    unfold canF findT
    rw [find_map (f := fun y => mv (sumOf ls y.id) y) (fun y => rfl)]
    cases hfd : find xs l.item with
    | none => rw [hfd] at hcl; simp at hcl
    | some x =>
      rw [hfd] at hcl
      have hid := find_id hfd
      have hb := may_bd (ok_may h1 x (List.mem_of_find?_eq_some hfd))
      have hs := sumOf_mem (fun m hm => (hmem m hm).2.2.1) hl
      simp only [Option.map_some, mv, true_and]
      rw [hid]; omega)
  show goesP (fun ys i q => withP (freeG q) ys i q) 0 _ ls = _
  rw [hfr, List.map_map]
  have : (xs.map ((fun y => mv (-sumOf ls y.id) y) ∘ fun y => mv (sumOf ls y.id) y)) = xs := by
    rw [List.map_congr_left (g := id) (fun y _ => by
      show mv (-sumOf ls (mv (sumOf ls y.id) y).id) (mv (sumOf ls y.id) y) = y
      rw [mv_mv]
      have : sumOf ls y.id + -sumOf ls (mv (sumOf ls y.id) y).id = 0 := by show sumOf ls y.id + -sumOf ls y.id = 0; omega
      rw [this, mv_zero])]
    simp
  rw [this]; simp
end Go.Proofs.Ytfnmaemeofkagaa.StockP
